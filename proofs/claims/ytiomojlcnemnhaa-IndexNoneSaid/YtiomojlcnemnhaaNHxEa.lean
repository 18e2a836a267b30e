import Derived.Test.YtiomojlcnemnhaaNHxE9
namespace Go.Proofs.Ytiomojlcnemnhaa
open Go.Fx Go.RowKit Go.Maps Go.Sort
def opV (kind on book : Int) (m : Nat) (row : List Int) : List Value := .int .i64 kind :: .int .i64 on :: .int .i64 book :: .int .u32 (m : Int) :: row.map symV
theorem op_facts {w : World} {N : Nat} {kind on book : Int} {m : Nat} {row : List Int} (h : w.heap[N]? = some (.cells (opV kind on book m row).toArray 55 (0, 0))) :
    w.cell? ⟨N, 0, none⟩ = some (.int .i64 kind) ∧ w.cell? ⟨N, 3, none⟩ = some (.int .u32 (m : Int)) ∧ w.rangeAt N 4 (row.map symV) := by
  refine ⟨by simp [World.cell?, h, opV], by simp [World.cell?, h, opV], fun j v hj => ?_⟩
  have : (opV kind on book m row)[4 + j]? = (row.map symV)[j]? := by
    rw [show 4 + j = j + 4 by omega]
    rfl
  simp only [World.cell?, h]
  rw [List.getElem?_toArray, this]
  simpa using hj
theorem nil_ints (w : World) : IntsAt w (.slice none 0 0) [] := World.ownsRow_nil _ _ _ _
set_option maxRecDepth 100000 in
theorem same_masks_nil {w : World} : Calls Try.prog 28 #[.slice none 0 0, .slice none 0 0] w fun e w' => e = .returned (.bool true) ∧ w' = w := by
  go_enter Try.func28, Try.ntmps28
  go_wp2_with fail
  refine wp_loop_rounds 1 ?_
  rw [rounds_succ]
  go_wp2_with fail
  exact bodyPost_ret (v := .bool true) (by simp [results, Try.results28, go_sem]) rfl ⟨rfl, rfl⟩
theorem same_nil (w : World) : Calls Try.prog 27 #[.slice none 0 0, .slice none 0 0] w fun e w' => e = .returned (.bool true) ∧ Below w.heap.size w w' := by
  have h := same_calls (nil_ints w) (nil_ints w)
  rw [decide_eq_true rfl] at h
  exact h
structure NonAt (v : Value) (k kb n N : Nat) (F : Nat → Prop) (LI LM : List (Value × Nat)) (C : List Value) (w0 w : World) : Prop where
  v : NoBk w v
  d : NoDoc w k
  q : Kept w kb F n LI LM
  n : w.heap[N]? = some (.cells C.toArray 55 (0, 0))
  b : Below w0.heap.size w0 w
theorem NonAt.below {v : Value} {k kb n N : Nat} {F : Nat → Prop} {LI LM : List (Value × Nat)} {C : List Value} {w0 w w' : World} (h : NonAt v k kb n N F LI LM C w0 w) (hb : Below w.heap.size w w') : NonAt v k kb n N F LI LM C w0 w' :=
  ⟨h.v.below hb, h.d.below hb, h.q.below hb, (hb.block N (Array.getElem?_eq_some_iff.1 h.n).1).trans h.n, h.b.trans (hb.mono h.b.size)⟩
abbrev NonPost (w0 : World) (kb n : Nat) (F : Nat → Prop) (LI LM : List (Value × Nat)) (e : Ending) (w' : World) : Prop := e = .returned (.bool true) ∧ ∃ F' n' LI' LM', Kept w' kb F' n' LI' LM' ∧ Step w0 F w' F' ∧ n' ≤ n + 2 ∧ LI'.length ≤ LI.length + 2 ∧ LM'.length ≤ LM.length + 2
theorem NonAt.shown {v : Value} {k kb n N kind : Nat} {F : Nat → Prop} {LI LM : List (Value × Nat)} {on book : Int} {m : Nat} {row : List Int} {w0 w : World} (h : NonAt v k kb n N F LI LM (opV kind on book m row) w0 w) :
    w.cell? ⟨N, 3, none⟩ = some (.int .u32 (m : Int)) ∧ NonAt v k kb n N F LI LM (opV kind on book m row) w0 w := ⟨(op_facts h.n).2.1, h⟩
theorem NonAt.post {v : Value} {k kb n N : Nat} {F : Nat → Prop} {LI LM : List (Value × Nat)} {C : List Value} {w0 w : World} (h : NonAt v k kb n N F LI LM C w0 w) : NonPost w0 kb n F LI LM (.returned (.bool true)) w :=
  ⟨rfl, F, n, LI, LM, h.q, ⟨KeptBut.of_below h.b, fun k hk => .inl hk⟩, by omega, by omega, by omega⟩
set_option maxRecDepth 100000 in
set_option maxHeartbeats 4000000 in
theorem asks_none {w : World} {v : Value} {k kb n : Nat} {F : Nat → Prop} {LI LM : List (Value × Nat)} {kind on book : Int} {m : Nat} {row : List Int} (hv : NoBk w v) (hd : NoDoc w k) (hk : Kept w kb F n LI LM)
    (hn : n < 1048576) (hI : LI.length ≤ 1048576) (hM : LM.length ≤ 1048576) (hrow : RowOk row) (hm : MskOk m) :
    Calls Try.prog 22 #[v, .pointer (some ⟨k, 0, none⟩), .slice none 0 0, .agg (opV kind on book m row).toArray, .pointer (some ⟨kb, 0, none⟩)] w (NonPost w kb n F LI LM) := by
  have hsz : (Try.prog.info? 43).map (·.size) = some (row.map symV).length := by rw [infoRow]; simp [hrow.1]
  have hb := (Below.refl w.heap.size w).alloc (Nat.le_refl _) (.cells (opV kind on book m row).toArray 55)
  have hN := heap_alloc_new w (.cells (opV kind on book m row).toArray 55)
  have hA : NonAt v k kb n w.heap.size F LI LM (opV kind on book m row) w (w.alloc (.cells (opV kind on book m row).toArray 55)) := ⟨hv.below hb, hd.below hb, hk.below hb, hN, hb⟩
  obtain ⟨c0, c3, hr⟩ := op_facts hN
  clear hv hd hk hb hN
  by_cases k3 : kind = 3
  · subst k3
    go_enter Try.func22, Try.ntmps22
    go_wp2_with (refine wpList_load_mid rfl 43 _ rfl w.heap.size 4 rfl _ _ hr Try.underlying43 rfl hsz ?_)
    generalize w.alloc (.cells (opV 3 on book m row).toArray 55) = w1 at *
    clear c0 c3 hr
    refine (look_nobk hA.v m).mono ?_
    rintro e w2 ⟨rfl, hb2⟩
    replace hA := hA.below hb2
    obtain ⟨-, c3, hr⟩ := op_facts hA.n
    clear hb2
    go_wp2_with (refine wpList_load_mid rfl 43 _ rfl w.heap.size 4 rfl _ _ hr Try.underlying43 rfl hsz ?_)
    clear c3 hr
    refine (doc_look hA.d _ m).mono ?_
    rintro e w3 ⟨rfl, hb3⟩
    replace hA := hA.below hb3
    obtain ⟨-, c3, hr⟩ := op_facts hA.n
    clear hb3
    go_wp2_with (refine wpList_load_mid rfl 43 _ rfl w.heap.size 4 rfl _ _ hr Try.underlying43 rfl hsz ?_)
    clear c3 hr
    refine (look_nobk hA.v m).mono ?_
    rintro e w4 ⟨rfl, hb4⟩
    replace hA := hA.below hb4
    clear hb4
    go_wp2_with fail
    refine (same_nil w4).mono ?_
    rintro e w5 ⟨rfl, hb5⟩
    replace hA := hA.below hb5
    clear hb5
    go_wp2_with fail
    refine (same_nil w5).mono ?_
    rintro e w6 ⟨rfl, hb6⟩
    replace hA := hA.below hb6
    clear hb6
    go_wp2_with fail
    refine (kept_int hA.q (by omega) (by omega) ⟨_, _, _, rfl⟩).mono ?_
    rintro e w7 ⟨F1, rfl, hq1, hs1⟩
    go_wp2_with fail
    refine (kept_int hq1 (by omega) (by simp; omega) ⟨_, _, _, rfl⟩).mono ?_
    rintro e w8 ⟨F2, rfl, hq2, hs2⟩
    go_wp2_with fail
    refine bodyPost_ret (v := .bool true) (by simp [results, Try.results22, go_sem]) rfl ⟨rfl, F2, _, _, _, hq2, (hs1.before hA.b).trans hs2, by omega, by simp, by simp⟩
  by_cases k4 : kind = 4
  · subst k4
    go_enter Try.func22, Try.ntmps22
    go_wp2_with (refine wpList_load_mid rfl 43 _ rfl w.heap.size 4 rfl _ _ hr Try.underlying43 rfl hsz ?_)
    generalize w.alloc (.cells (opV 4 on book m row).toArray 55) = w1 at *
    clear c0 c3 hr
    refine (count_nobk hA.v m).mono ?_
    rintro e w2 ⟨rfl, hb2⟩
    replace hA := hA.below hb2
    obtain ⟨-, c3, hr⟩ := op_facts hA.n
    clear hb2
    go_wp2_with (refine wpList_load_mid rfl 43 _ rfl w.heap.size 4 rfl _ _ hr Try.underlying43 rfl hsz ?_)
    clear c3 hr
    refine (doc_count hA.d _ m).mono ?_
    rintro e w3 ⟨rfl, hb3⟩
    replace hA := hA.below hb3
    clear hb3
    go_wp2_with fail
    exact bodyPost_ret (v := .bool true) (by simp [results, Try.results22, go_sem]) rfl hA.post
  by_cases k5 : kind = 5
  · subst k5
    go_enter Try.func22, Try.ntmps22
    go_wp2_with fail
    generalize w.alloc (.cells (opV 5 on book m row).toArray 55) = w1 at *
    clear c0 c3 hr
    refine (distinct_nobk hA.v m).mono ?_
    rintro e w2 ⟨rfl, hb2⟩
    replace hA := hA.below hb2
    obtain ⟨-, c3, hr⟩ := op_facts hA.n
    clear hb2
    go_wp2_with fail
    clear c3 hr
    refine (doc_distinct hA.d _ m).mono ?_
    rintro e w3 ⟨rfl, hb3⟩
    replace hA := hA.below hb3
    clear hb3
    go_wp2_with fail
    exact bodyPost_ret (v := .bool true) (by simp [results, Try.results22, go_sem]) rfl hA.post
  by_cases k6 : kind = 6
  · subst k6
    go_enter Try.func22, Try.ntmps22
    go_wp2_with fail
    generalize w.alloc (.cells (opV 6 on book m row).toArray 55) = w1 at *
    clear c0 c3 hr
    refine (masks_nobk hA.v).mono ?_
    rintro e w2 ⟨rfl, hb2⟩
    replace hA := hA.below hb2
    clear hb2
    go_wp2_with fail
    refine (masks_nobk hA.v).mono ?_
    rintro e w3 ⟨rfl, hb3⟩
    replace hA := hA.below hb3
    clear hb3
    go_wp2_with fail
    refine (doc_masks hA.d).mono ?_
    rintro e w4 ⟨rfl, hb4⟩
    replace hA := hA.below hb4
    clear hb4
    go_wp2_with fail
    refine same_masks_nil.mono ?_
    rintro e w5 ⟨rfl, rfl⟩
    go_wp2_with fail
    refine same_masks_nil.mono ?_
    rintro e w6 ⟨rfl, rfl⟩
    go_wp2_with fail
    refine (kept_mask hA.q (by omega) (by omega) ⟨_, _, _, rfl⟩).mono ?_
    rintro e w7 ⟨F1, rfl, hq1, hs1⟩
    go_wp2_with fail
    refine (kept_mask hq1 (by omega) (by simp; omega) ⟨_, _, _, rfl⟩).mono ?_
    rintro e w8 ⟨F2, rfl, hq2, hs2⟩
    go_wp2_with fail
    refine bodyPost_ret (v := .bool true) (by simp [results, Try.results22, go_sem]) rfl ⟨rfl, F2, _, _, _, hq2, (hs1.before hA.b).trans hs2, by omega, by simp, by simp⟩
  by_cases k7 : kind = 7
  · subst k7
    go_enter Try.func22, Try.ntmps22
    go_upto_region 27 with fail
    generalize w.alloc (.cells (opV 7 on book m row).toArray 55) = w1 at *
    have hS := (hA.below (w' := w1.drew) (below_drew' (Below.refl _ _))).shown (kind := 7)
    clear hA c0 c3 hr
    go_region_held3 (fun w' => w'.cell? ⟨w.heap.size, 3, none⟩ = some (.int .u32 (m : Int)) ∧ NonAt v k kb n w.heap.size F LI LM (opV 7 on book m row) w w')
      (first
        | exact hS
        | (go_split_ands; exact NonAt.shown (kind := 7) (NonAt.below (by assumption) (by assumption))))
      (first
        | (go_at_call 26; refine (seen_nobk (by go_split_ands; exact NonAt.v (by assumption)) hm).mono ?_; rintro e w3 ⟨rfl, hb3⟩)
        | (go_at_call 58; refine (doc_seen (by go_split_ands; exact NonAt.d (by assumption)) m).mono ?_; rintro e w4 ⟨rfl, hb4⟩))
    all_goals go_wp2_with fail
    all_goals go_split_ands
    all_goals exact bodyPost_ret (v := .bool true) (by simp [results, Try.results22, go_sem]) rfl (NonAt.post (by assumption))
  · have e3 : (kind == 3) = false := by simpa using k3
    have e4 : (kind == 4) = false := by simpa using k4
    have e5 : (kind == 5) = false := by simpa using k5
    have e6 : (kind == 6) = false := by simpa using k6
    have e7 : (kind == 7) = false := by simpa using k7
    go_enter Try.func22, Try.ntmps22
    go_wp2_with fail
    exact bodyPost_ret (v := .bool true) (by simp [results, Try.results22, go_sem]) rfl hA.post
end Go.Proofs.Ytiomojlcnemnhaa
