import Derived.Test.YtiomojlcnemnhaaGreatDoorWGxH4
import Derived.Test.YtiomojlcnemnhaaGreatDoorWGxW3
import Derived.Test.YtiomojlcnemnhaaGreatDoorWGxX11
/- Contracts, on: how many characters a text has. -/
namespace Go.Proofs.YtiomojlcnemnhaaGreatDoor
open Go.Fx Go.RowKit Go.Ped Go.Lib
variable {G : World → Prop}

theorem below_cell {N : Nat} {w w' : World} (h : Below N w w') {b : Nat} (hb : b < N) (o : Nat) : w'.cell? ⟨b, o, none⟩ = w.cell? ⟨b, o, none⟩ := by simp only [World.cell?, h.block b hb]

set_option maxRecDepth 100000 in
theorem m33c (a : Val) (sp : Sp) (hk : a.k = 2) (ho : a.ok = true) : Meets Tryz.prog GK 280 [.one (cI .i8 9), .one (.sl [a.row] sp)] (optR (some (numV (charsB a.s).length))) := by
  refine ⟨by kernel_rfl, fun w V vs hG hV ha => ?_⟩
  obtain ⟨v1, vs, rfl, h1, hn⟩ := ha.head
  obtain ⟨v2, vs, rfl, h2, hn⟩ := hn.head
  obtain rfl := hn.nil_left
  obtain rfl : v1 = .int .i8 9 := by cases h1; rfl
  have hfits := (m101g (G := GK) 3 [a] sp (by decide) (by decide)).2
  have hft : fitsV 3 [a] = true := by simp [fitsV, hk, ho]
  rw [hft] at hfits
  have hnum := (m102v (G := GK) (charsB a.s).length).2
  obtain ⟨b, o, cap, rfl, hc⟩ : ∃ b o cap, v2 = .slice (some ⟨b, o, none⟩) 1 cap ∧ (w.cell? ⟨b, o + 2, none⟩ = some (.string (bs a.s)) ∧ V b (o + 2)) := by
    have h2' : RepC V w (.sl [a.row] sp) v2 := h2
    generalize hE : [a.row] = E at h2'
    cases h2' with
    | nil c => cases hE
    | emp x => cases hE
    | sl _ _ s b o n cap us hn hc hm hw hul hu hr =>
      subst hE
      have hfl : ([a.row] ++ sp).flatten = a.row ++ sp.flatten := by simp
      have h3 : us.length = 3 + sp.flatten.length := by rw [hul, hfl]; simp [Val.row]; omega
      have hj : us[2]? = some us[2] := List.getElem?_eq_getElem (by omega)
      have hr2 := hr 2 (cS (bs a.s)) us[2] (by rw [hfl]; rfl) hj
      have e : us[2] = .string (bs a.s) := by generalize us[2] = u at hr2; cases hr2; rfl
      have := hu 2 _ hj
      rw [e] at this
      exact ⟨b, o, cap, by rw [hn]; rfl, this⟩
  obtain ⟨hc, hVc⟩ := hc
  have hb := hV _ _ hVc
  have ht : ∀ w1, Below w.heap.size w w1 → w1.cell? ⟨0, 9, none⟩ = some (.int .i8 3) := fun w1 h => takes_at 9 (by decide) w1 (hG w1 h)
  have hB0 : Below w.heap.size w (w.alloc (Obj.cells #[Value.int IntKind.i8 0, Value.int IntKind.i64 0, Value.string { data := #[] }] 71)) := Below.alloc (Below.refl _ _) (Nat.le_refl _) _
  have ht' := ht _ hB0
  show Calls Tryz.prog 280 #[.int .i8 9, .slice (some ⟨b, o, none⟩) 1 cap] w _
  go_enter Tryz.func280, Tryz.ntmps280
  go_wp2_with fail
  have hsz0 : (w.alloc (Obj.cells #[Value.int IntKind.i8 0, Value.int IntKind.i64 0, Value.string { data := #[] }] 71)).heap.size = w.heap.size + 1 := alloc_size _ _
  have hN0 : (w.alloc (Obj.cells #[Value.int IntKind.i8 0, Value.int IntKind.i64 0, Value.string { data := #[] }] 71)).heap[w.heap.size]? = some (Obj.cells #[Value.int IntKind.i8 0, Value.int IntKind.i64 0, Value.string { data := #[] }] 71) := by rw [alloc_heap, if_pos rfl]
  generalize w.alloc (Obj.cells #[Value.int IntKind.i8 0, Value.int IntKind.i64 0, Value.string { data := #[] }] 71) = w0 at *
  refine (hfits w0 V _ (hG.later hB0) (fun b o h => Nat.lt_of_lt_of_le (hV b o h) hB0.size) (All2.cons (.v _ rfl) (All2.cons (RepC.mono (fun _ _ h => h) (fun b o h => below_cell hB0 (hV b o h) o) h2) All2.nil))).mono ?_
  rintro e w1 ⟨v, rfl, hv, hb1⟩
  obtain rfl : v = .bool true := by cases hv; rfl
  have hB1 : Below w.heap.size w w1 := hB0.trans (hb1.mono (by omega))
  have hN1 := (hb1.block w.heap.size (by omega)).trans hN0
  have hc1 := (below_cell hB1 hb (o + 2)).trans hc
  have hs1 := hb1.size
  clear hN0 hB0 ht' hb1 h2 hfits hv
  go_wp2_with fail
  have hlen : (bs a.s).size = a.s.length := by simp [bs, ByteArray.size]
  have hmax : a.s.length ≤ 200 := txt_len hk ho
  go_loopw [8] (fun n w' => ∃ (pos m : Nat) (acc : Nat), w' = w1.iter (bs a.s) pos ∧ n = .int .i64 (acc : Int) ∧ acc + (segs (bs a.s) m pos).length = (charsB a.s).length ∧ (bs a.s).size ≤ pos + m ∧ acc + m ≤ 1000) (fun _ w' => (bs a.s).size - w'.iterPos w1.heap.size)
  case atStart => exact ⟨0, a.s.length, 0, rfl, rfl, by simp [charsB], by omega, by omega⟩
  case round =>
    obtain ⟨pos, m, acc, rfl, rfl, hcnt, hbd, hac⟩ := hrel
    by_cases hp : pos < (bs a.s).size
    · have hnx : ∀ ty, (Instr.next (.pointer (some ⟨w1.heap.size, 0, none⟩)) true ty).run Tryz.prog (w1.iter (bs a.s) pos) = _ := fun ty => run_next_any w1 (bs a.s) pos ty hp
      go_wp2_with fail
      have hwd := decode_pos (bs a.s) pos hp
      obtain ⟨m, rfl⟩ : ∃ k, m = k + 1 := ⟨m - 1, by omega⟩
      go_roundw
      case rel =>
        refine ⟨pos + (Utf8.decode (bs a.s) pos).2, m, acc + 1, rfl, ?_, ?_, by omega, by omega⟩
        · exact congrArg (Value.int .i64) (by omega)
        · rw [← hcnt]
          simp only [segs, if_pos hp, List.length_cons]
          omega
      case measure =>
        simp
        omega
    · have hnx : ∀ ty, (Instr.next (.pointer (some ⟨w1.heap.size, 0, none⟩)) true ty).run Tryz.prog (w1.iter (bs a.s) pos) = _ := fun ty => run_next_end w1 (bs a.s) pos ty hp
      have hend : segs (bs a.s) m pos = [] := by
        cases m with
        | zero => rfl
        | succ k => exact if_neg hp
      rw [hend] at hcnt
      simp only [List.length_nil, Nat.add_zero] at hcnt
      subst hcnt
      go_wp2_with fail
      have hB2 : Below w.heap.size w (w1.iter (bs a.s) pos) := Below.alloc hB1 (by omega) _
      have hN2 : (w1.iter (bs a.s) pos).heap[w.heap.size]? = some (Obj.cells #[Value.int IntKind.i8 0, Value.int IntKind.i64 0, Value.string { data := #[] }] 71) := by rw [iter_alloc, alloc_heap, if_neg (by omega)]; exact hN1
      have hs2 : w1.heap.size + 1 = (w1.iter (bs a.s) pos).heap.size := (alloc_size _ _).symm
      clear hnx
      generalize w1.iter (bs a.s) pos = w2 at *
      refine (hnum w2 V _ (hG.later hB2) (fun b o h => Nat.lt_of_lt_of_le (hV b o h) hB2.size) (All2.cons (.v _ rfl) All2.nil)).mono ?_
      rintro e w3 ⟨v, rfl, ⟨vs, rfl, hv⟩, hb3⟩
      obtain ⟨x1, vs1, hvs, ⟨us, hus, hx⟩, hv1⟩ := hv.head
      obtain ⟨x2, vs2, hvs2, hx2, hv2⟩ := hv1.head
      obtain rfl := hv2.nil_left
      subst hvs2 hvs hus
      obtain ⟨y1, us1, hu1, hy1, hx1⟩ := hx.head
      obtain ⟨y2, us2, hu2, hy2, hx2'⟩ := hx1.head
      obtain ⟨y3, us3, hu3, hy3, hx3⟩ := hx2'.head
      obtain rfl := hx3.nil_left
      subst hu3 hu2 hu1
      obtain rfl : x2 = .bool true := by cases hx2; rfl
      obtain rfl : y1 = .int .i8 1 := by cases hy1; rfl
      obtain rfl : y2 = .int .i64 (charsB a.s).length := by cases hy2; rfl
      obtain rfl : y3 = .string (bs []) := by cases hy3; rfl
      have hB3 : Below w.heap.size w w3 := hB2.trans (hb3.mono (by omega))
      have hN3 := (hb3.block w.heap.size (by omega)).trans hN2
      have hs3 := hb3.size
      have c0 : w3.cell? ⟨w.heap.size, 0, none⟩ = some (.int .i8 0) := by simp only [World.cell?, hN3]; rfl
      have z0 : w3.frozen? ⟨w.heap.size, 0, none⟩ = false := by simp only [World.frozen?, hN3]; rfl
      have c1 : (w3.setCell ⟨w.heap.size, 0, none⟩ (.int .i8 1)).cell? ⟨w.heap.size, 1, none⟩ = some (.int .i64 0) := by rw [World.cell?_setCell_other _ _ _ _ (by simp)]; simp only [World.cell?, hN3]; rfl
      have z1 : (w3.setCell ⟨w.heap.size, 0, none⟩ (.int .i8 1)).frozen? ⟨w.heap.size, 1, none⟩ = false := by rw [World.frozen?_setCell]; simp only [World.frozen?, hN3]; rfl
      have c2 : ((w3.setCell ⟨w.heap.size, 0, none⟩ (.int .i8 1)).setCell ⟨w.heap.size, 1, none⟩ (.int .i64 (charsB a.s).length)).cell? ⟨w.heap.size, 2, none⟩ = some (.string ⟨#[]⟩) := by rw [World.cell?_setCell_other _ _ _ _ (by simp), World.cell?_setCell_other _ _ _ _ (by simp)]; simp only [World.cell?, hN3]; rfl
      have z2 : ((w3.setCell ⟨w.heap.size, 0, none⟩ (.int .i8 1)).setCell ⟨w.heap.size, 1, none⟩ (.int .i64 (charsB a.s).length)).frozen? ⟨w.heap.size, 2, none⟩ = false := by rw [World.frozen?_setCell, World.frozen?_setCell]; simp only [World.frozen?, hN3]; rfl
      have r0 : (((w3.setCell ⟨w.heap.size, 0, none⟩ (.int .i8 1)).setCell ⟨w.heap.size, 1, none⟩ (.int .i64 (charsB a.s).length)).setCell ⟨w.heap.size, 2, none⟩ (.string (bs []))).cell? ⟨w.heap.size, 0, none⟩ = some (.int .i8 1) := by
        rw [World.cell?_setCell_other _ _ _ _ (by simp), World.cell?_setCell_other _ _ _ _ (by simp)]; exact World.cell?_setCell_same _ _ _ c0
      have r1 : (((w3.setCell ⟨w.heap.size, 0, none⟩ (.int .i8 1)).setCell ⟨w.heap.size, 1, none⟩ (.int .i64 (charsB a.s).length)).setCell ⟨w.heap.size, 2, none⟩ (.string (bs []))).cell? ⟨w.heap.size, 1, none⟩ = some (.int .i64 (charsB a.s).length) := by
        rw [World.cell?_setCell_other _ _ _ _ (by simp)]; exact World.cell?_setCell_same _ _ _ c1
      have r2 : (((w3.setCell ⟨w.heap.size, 0, none⟩ (.int .i8 1)).setCell ⟨w.heap.size, 1, none⟩ (.int .i64 (charsB a.s).length)).setCell ⟨w.heap.size, 2, none⟩ (.string (bs []))).cell? ⟨w.heap.size, 2, none⟩ = some (.string (bs [])) := World.cell?_setCell_same _ _ _ c2
      have hB6 : Below w.heap.size w (((w3.setCell ⟨w.heap.size, 0, none⟩ (.int .i8 1)).setCell ⟨w.heap.size, 1, none⟩ (.int .i64 (charsB a.s).length)).setCell ⟨w.heap.size, 2, none⟩ (.string (bs []))) :=
        Below.setCell (Below.setCell (Below.setCell hB3 (Nat.le_refl _) _) (Nat.le_refl _) _) (Nat.le_refl _) _
      clear hN2 hB2 hN1 hB1 hb3 hnum hN3
      go_wp2_with fail
      first
        | go_ret
        | go_end0
        | simp [bodyPost, results, Tryz.results33, r0, r1, r2, go_sem]
      exact ⟨⟨_, rfl, All2.cons ⟨_, rfl, All2.cons (.v _ rfl) (All2.cons (.v _ rfl) (All2.cons (.v _ rfl) All2.nil))⟩ (All2.cons (.v _ rfl) All2.nil)⟩, hB6⟩

theorem m33 (op : Int) (h1 : 1 ≤ op) (h2 : op ≤ 10) (l : List Val) (sp : Sp) : Meets Tryz.prog GK 280 [.one (cI .i8 op), .one (.sl (l.map Val.row) sp)] (optR (arithV op l)) := by
  have h : op = 1 ∨ op = 2 ∨ op = 3 ∨ op = 4 ∨ op = 5 ∨ op = 6 ∨ op = 7 ∨ op = 8 ∨ op = 9 ∨ op = 10 := by omega
  rcases h with rfl | rfl | rfl | rfl | rfl | rfl | rfl | rfl | rfl | rfl
  · exact m33_1 l sp
  · exact m33_2 l sp
  · exact m33_3 l sp
  · exact m33_4 l sp
  · exact m33_5 l sp
  · exact m33_6 l sp
  · exact m33_7 l sp
  · exact m33_8 l sp
  · exact m33_9 l sp fun a hk ho => m33c a sp hk ho
  · exact m33_10 l sp
end Go.Proofs.YtiomojlcnemnhaaGreatDoor

/- Contracts, on: the value of one sum, under one bind. -/
namespace Go.Proofs.YtiomojlcnemnhaaGreatDoor
open Go.Fx Go.RowKit Go.Ped
variable {G : World → Prop}

theorem hp_renX (π : Ren) (O : List (Nat × Box)) (U : List (Nat × Tok)) (E : XP) : (hp O U (FX E)).ren π = hp (O.map fun p => (π.f p.1, p.2.ren π.f)) (U.map fun p => (π.f p.1, p.2)) (FX E) := by
  unfold Hp.ren hp
  simp only [Hp.mk.injEq]
  refine ⟨funext fun k => ?_, funext fun k => ?_, trivial⟩
  · rw [lookO_ren]
    show ((lookO O (π.g k)).or none).map _ = ((lookO O (π.g k)).map _).or none
    simp
  · rw [lookT_ren]; rfl

theorem m95 (rows : List (List C)) (sp : Sp) : MeetsH Tryz.prog G 221 [.one (.c (.sl rows sp))] (hp [] [] F0) (.x (.one (.clo 279 [] [.ref 1 0 0]))) (hp [(1, ⟨108, 1, [[.c (.sl rows sp)]], none⟩)] [] F0) := by
  refine meetsH [] Tryz.func221 ie95 ig95 (Nat.le_of_ble_eq_true rfl) (by simp) (by simp) (by simp) (by simp) (by simp) (sameKeys_refl F0) (by simp) (by simp) ?_
  simp [ic95, ir95]
  exact ret_st (by simp) (by simp) (by simp) (by simp) (by simp) (by simp)

abbrev OY (a b : Nat) (m : List Tm) : List (Nat × Box) := [(a, ⟨252, 1, [[.mapr b]], none⟩), (b, ⟨0, 4, m.map mpRow, some (.string, false)⟩)]
attribute [simp] OY
theorem ren_mpRow (r : Nat → Nat) (t : Tm) : renL r (mpRow t) = mpRow t := by simp [mpRow, Val.row]
theorem ren_mpRow' (r : Nat → Nat) : renL r ∘ mpRow = mpRow := funext fun t => ren_mpRow r t

abbrev bX : Tm := ⟨[88], ⟨1, 1, []⟩⟩
end Go.Proofs.YtiomojlcnemnhaaGreatDoor

/- Contracts, on: the values of expressions. -/
namespace Go.Proofs.YtiomojlcnemnhaaGreatDoor
open Go.Fx Go.RowKit Go.Ped
variable {G : World → Prop}

/-- The value of a term by a list of binds. -/
def leafV (m : List Tm) (t : Tm) : Option Val := if t.v = [] then some t.x else match bindOf m t.v with | some w => if w.ok then some w else none | none => none
mutual
/-- The value of an expression. -/
def Ex.val (m : List Tm) : Ex → Option Val
  | .mk op t kids _ => if op = 0 then leafV m t else match exVals m kids with | none => none | some vs => arithV op vs
def exVals (m : List Tm) : List Ex → Option (List Val)
  | [] => some []
  | e :: l => match e.val m with | none => none | some v => match exVals m l with | none => none | some vs => some (v :: vs)
end
theorem Ex.val_mk (m : List Tm) (op : Int) (t : Tm) (kids : List Ex) (sp : Sp) : (Ex.mk op t kids sp).val m = if op = 0 then leafV m t else match exVals m kids with | none => none | some vs => arithV op vs := by rw [Ex.val]

theorem exOk_op {d : Nat} {op : Int} {t : Tm} {kids : List Ex} {sp : Sp} (h : exOk d (.mk op t kids sp) = true) (h0 : op ≠ 0) : ∃ d', t = zeroT ∧ (1 ≤ op ∧ op ≤ 10) ∧ kids.length ≤ 2 ∧ ∀ k ∈ kids, exOk d' k = true := by
  cases d with
  | zero => cases h
  | succ d =>
    rw [exOk, if_neg h0] at h
    simp only [Bool.and_eq_true, beq_iff_eq, List.all_eq_true] at h
    refine ⟨d, h.1.1, ?_, ?_, h.2⟩
    · have := h.1.2
      unfold arity at this
      split at this
      · omega
      · split at this
        · omega
        · omega
    · have := h.1.2
      unfold arity at this
      split at this
      · omega
      · split at this
        · omega
        · omega

theorem fits_same : ∀ {l m : List C}, l = m → Fx.X.fits (.agg (l.map A.c)) (.agg (m.map A.c))
  | [], _, rfl => trivial
  | a :: l, _, rfl => ⟨by simp [A.fits], fits_same (l := l) rfl⟩

theorem e96l (X : XP) (m : List Tm) (t : Tm) (sp : Sp) (hz : t.v ≠ us) : MeetsH Tryz.prog G 222 [.agg ((Ex.mk 0 t [] sp).row.map A.c), .one (.mapr 10040)] (hp (OB m) [] (FX X)) (.tup [.agg (((leafV m t).getD zeroV).row.map A.c), .one (.c (cB (leafV m t).isSome))]) (hp (OB m) [] (FX X)) := by
  rw [Ex.row_mk]
  by_cases hv : t.v = []
  · have hl : leafV m t = some t.x := by unfold leafV; rw [if_pos hv]
    rw [hl, hv]
    exact e96c X m t.x sp
  · have hl : leafV m t = match bindOf m t.v with | some w => if w.ok then some w else none | none => none := by unfold leafV; rw [if_neg hv]
    by_cases hok : ∃ w, bindOf m t.v = some w ∧ w.ok = true
    · obtain ⟨w, hb, hw⟩ := hok
      rw [hl, hb]
      simp only [hw, if_true]
      exact e96v X m t.v t.x w sp hv hb hw
    · have hl' : leafV m t = none := by
        rw [hl]
        split
        · rename_i w hb
          rw [if_neg fun h => hok ⟨w, hb, h⟩]
        · rfl
      rw [hl']
      refine meetsH [] Tryz.func222 ie96 ig96 (Nat.le_of_ble_eq_true rfl) (midB m) (by simp) (by simp [ownKey]) (by simp) (by simp) (sameKeys_refl _) (midB2 _) (by simp) ?_
      have hg := mapGet_binds t.v m
      generalize hw : (bindOf m t.v).getD zeroV = w at hg
      have hwk : valOk w.k w.n w.s = false := by
        cases hb : bindOf m t.v with
        | none => rw [hb] at hw; subst hw; rfl
        | some x => rw [hb] at hw; subst hw; show Val.ok x = false; simpa using fun h => hok ⟨_, hb, h⟩
      have h92 := m92 (G := G) w.k w.n w.s
      rw [hwk] at h92
      simp only [Val.row, List.map_cons, List.map_nil] at hg
      have hne : t.v.isEmpty = false := by simpa using hv
      simp [ic96, ir96, hv, hne, hg, strikeL_mpRow, strikeL_mpRow']
      refine call_of h92 ?_
      simp
      exact ret_st (by simp) (by simp; exact fits_same (l := zeroV.row) rfl) (by simp [strikeL_mpRow, strikeL_mpRow']) (by simp) (by simp) (by simp)

theorem e96 (X : XP) (m : List Tm) : ∀ (e : Ex) (d : Nat), exOk d e = true → MeetsH Tryz.prog GK 222 [.agg (e.row.map A.c), .one (.mapr 10040)] (hp (OB m) [] (FX X)) (.tup [.agg (((e.val m).getD zeroV).row.map A.c), .one (.c (cB (e.val m).isSome))]) (hp (OB m) [] (FX X)) := by
  refine Ex.ind fun op t kids sp ih d hok => ?_
  by_cases h0 : op = 0
  · subst h0
    obtain ⟨rfl, hus⟩ : kids = [] ∧ t.v ≠ us := by
      cases d with
      | zero => cases hok
      | succ d =>
        rw [exOk, if_pos rfl] at hok
        simp only [Bool.and_eq_true, List.isEmpty_iff, solidOk, bne_iff_ne] at hok
        exact ⟨hok.1, hok.2.1⟩
    rw [Ex.val_mk, if_pos rfl]
    exact e96l X m t sp hus
  · obtain ⟨d', rfl, ⟨h1, h2⟩, hk2, hkok⟩ := exOk_op hok h0
    have hih := fun k hk => ih k hk d' (hkok k hk)
    rw [Ex.val_mk, if_neg h0, Ex.row_mk]
    simp only [zeroT, zeroV, List.map_cons, List.map_nil]
    generalize hR : (match exVals m kids with | none => none | some vs => arithV op vs : Option Val) = R
    refine meetsH [] Tryz.func222 ie96 ig96 (Nat.le_of_ble_eq_true rfl) (midB m) (by simp) (by simp [ownKey]) (by simp) (by simp) (sameKeys_refl _) (midB2 _) (by simp) ?_
    have h0' : ¬ op = 0 := h0
    simp [ic96, ir96, strikeL_mpRow', h0']
    refine w_loopA [.t 300 7 71 3] [9, 10, 50] [1, 2, 4, 5, 7, 33, 34, 35] (by simp [ownKey])
      (fun z : Nat × List Val => st [(1, .k true (.x (.one (.mapr 10040)))), (2, .k true (.x (.one (.ref 2 0 0)))), (4, .k true (.x (.one (.ref 4 0 0)))), (5, tB false), (7, .k true (.x (.one (.own 300 (z.2.map Val.row))))), (33, .k true (.x (.one (.c (.sl (kids.map Ex.row) sp))))), (34, tI .i64 kids.length), (35, tI .i64 z.1)]
        [(4, ⟨71, 3, [[.c (cI .i8 0), .c (cI .i64 0), .c (cS (bs []))]], none⟩), (2, ⟨105, 6, [[.c (cI .i8 op), .c (cS (bs [])), .c (cI .i8 0), .c (cI .i64 0), .c (cS (bs [])), .c (.sl (kids.map Ex.row) sp)]], none⟩), (10040, ⟨0, 4, m.map mpRow, some (.string, false)⟩)] [(300, ⟨71, 3, z.2.length⟩)] (FX X)) (fun z => kids.length - z.1)
      (fun z => z.1 ≤ kids.length ∧ z.2.length = z.1 ∧ exVals m kids = (exVals m (kids.drop z.1)).map (z.2 ++ ·)) (0, []) (by simp; try rfl) (by simp) ?_
    rintro ⟨i, E⟩ K hK ⟨hi, hE, hv⟩
    simp only at hi hE hv
    obtain hlt | hge := Nat.lt_or_ge i kids.length
    · rw [List.drop_eq_getElem_cons hlt, exVals] at hv
      have hc := hih _ (List.getElem_mem hlt)
      obtain ⟨x1, x2, x3, x4, x5, x6, hx⟩ : ∃ x1 x2 x3 x4 x5 x6, kids[i].row = [x1, x2, x3, x4, x5, x6] := ⟨_, _, _, _, _, _, Ex.row_eq _⟩
      rw [hx] at hc
      simp [ic96l0, strikeL_mpRow', hlt, hx]
      refine r_callW _ _ (OB m) [] _ (OB m) [] (MeetsV.of_fun hc) rfl rfl rfl (by simp [Fx.X.fits, A.fits]) (by simp) ?_
      cases hk : kids[i].val m with
      | none =>
        rw [hk] at hv
        simp only [Option.map_none] at hv
        rw [hv] at hR
        subst hR
        simp [strikeL_mpRow', Val.row, zeroV]
        exact ret_st (by simp [zeroV, Val.row]) (by simp) (by simp [strikeL_mpRow, strikeL_mpRow']) (by simp) (by simp) (by simp)
      | some v =>
        rw [hk] at hv
        simp [strikeL_mpRow', Val.row]
        refine ⟨by unfold maxLen; omega, by unfold maxBytes; omega, ?_⟩
        simp (disch := omega) only [wrap64]
        refine hK (i + 1, E ++ [v]) _ (by simp [strikeL_mpRow', Val.row]; try rfl) ⟨by simp only; omega, by simp [hE], ?_⟩ (by simp only; omega)
        rw [hv]
        simp only
        cases exVals m (List.drop (i + 1) kids) <;> simp
    · rw [List.drop_eq_nil_of_le hge, exVals] at hv
      simp only [Option.map_some, List.append_nil] at hv
      rw [hv] at hR
      simp only at hR
      simp [ic96l0, Nat.not_lt.mpr hge, strikeL_mpRow']
      refine call_of (m33 op h1 h2 E []) ?_
      rw [hR]
      simp [Val.row]
      exact ret_st (by simp [Val.row]) (by simp; exact fits_same (l := (R.getD zeroV).row) rfl) (by simp [strikeL_mpRow, strikeL_mpRow']) (by simp) (by simp) (by simp)
end Go.Proofs.YtiomojlcnemnhaaGreatDoor

/- What the values of an expression hang on; plain. -/
namespace Go.Proofs.YtiomojlcnemnhaaGreatDoor
open Go.Fx Go.RowKit Go.Ped

theorem leaf_on {m m' : List Tm} {t : Tm} (hz : t.v ≠ us) (h : Ped.isVar t.v = true → bindOf m t.v = bindOf m' t.v) : leafV m t = leafV m' t := by
  unfold leafV
  by_cases h0 : t.v = []
  · rw [if_pos h0, if_pos h0]
  · rw [if_neg h0, if_neg h0, h (by simp [Ped.isVar, h0, hz])]
theorem exOk_leaf {d : Nat} {t : Tm} {kids : List Ex} {sp : Sp} (h : exOk d (.mk 0 t kids sp) = true) : kids = [] ∧ t.v ≠ us ∧ t.ok = true := by
  cases d with
  | zero => cases h
  | succ d =>
    rw [exOk, if_pos rfl] at h
    simp only [Bool.and_eq_true, List.isEmpty_iff, solidOk, bne_iff_ne] at h
    exact ⟨h.1, h.2.1, h.2.2⟩
mutual
theorem Ex.val_on {m m' : List Tm} : ∀ (d : Nat) (e : Ex), exOk d e = true → (∀ t ∈ e.terms, Ped.isVar t.v = true → bindOf m t.v = bindOf m' t.v) → e.val m = e.val m'
  | d, .mk op t kids sp, hok, h => by
    rw [Ex.terms_mk] at h
    rw [Ex.val_mk, Ex.val_mk]
    by_cases h0 : op = 0
    · subst h0
      rw [if_pos rfl, if_pos rfl]
      exact leaf_on (exOk_leaf hok).2.1 (h t (List.mem_cons_self ..))
    · obtain ⟨d', _, _, _, hk⟩ := exOk_op hok h0
      rw [if_neg h0, if_neg h0, exVals_on d' kids hk fun t ht => h t (List.mem_cons_of_mem _ ht)]
theorem exVals_on {m m' : List Tm} : ∀ (d : Nat) (l : List Ex), (∀ k ∈ l, exOk d k = true) → (∀ t ∈ l.flatMap Ex.terms, Ped.isVar t.v = true → bindOf m t.v = bindOf m' t.v) → exVals m l = exVals m' l
  | d, [], _, _ => by rw [exVals, exVals]
  | d, e :: l, hok, h => by
    rw [List.flatMap_cons] at h
    rw [exVals, exVals, Ex.val_on d e (hok e (List.mem_cons_self ..)) fun t ht => h t (List.mem_append_left _ ht), exVals_on d l (fun k hk => hok k (List.mem_cons_of_mem _ hk)) fun t ht => h t (List.mem_append_right _ ht)]
end
/-- A bind that may be. -/
def HasV (m : List Tm) (v : Name) : Prop := ∃ w, bindOf m v = some w ∧ w.ok = true
mutual
theorem Ex.val_strict {m : List Tm} : ∀ (d : Nat) (e : Ex) (x : Val), exOk d e = true → e.val m = some x → ∀ t ∈ e.terms, Ped.isVar t.v = true → HasV m t.v
  | d, .mk op t kids sp, x, hok, h => by
    rw [Ex.terms_mk]
    rw [Ex.val_mk] at h
    by_cases h0 : op = 0
    · subst h0
      obtain ⟨rfl, hz, _⟩ := exOk_leaf hok
      rw [if_pos rfl] at h
      intro u hu hv
      simp only [List.flatMap_nil, List.mem_singleton] at hu
      subst hu
      have h1 : u.v ≠ [] := by intro e; simp [Ped.isVar, e] at hv
      unfold leafV at h
      rw [if_neg h1] at h
      split at h
      · rename_i w hb
        split at h
        · rename_i ho; exact ⟨w, hb, ho⟩
        · cases h
      · cases h
    · obtain ⟨d', rfl, _, _, hk⟩ := exOk_op hok h0
      rw [if_neg h0] at h
      split at h
      · cases h
      · rename_i vs hvs
        intro u hu hv
        rcases List.mem_cons.1 hu with rfl | hu
        · exact absurd hv (by simp [zeroT, Ped.isVar])
        · exact exVals_strict d' kids vs hk hvs u hu hv
theorem exVals_strict {m : List Tm} : ∀ (d : Nat) (l : List Ex) (vs : List Val), (∀ k ∈ l, exOk d k = true) → exVals m l = some vs → ∀ t ∈ l.flatMap Ex.terms, Ped.isVar t.v = true → HasV m t.v
  | d, [], _, _, _ => by simp
  | d, e :: l, vs, hok, h => by
    rw [exVals] at h
    split at h
    · cases h
    · rename_i v hv
      split at h
      · cases h
      · rename_i vs' hvs
        rw [List.flatMap_cons]
        intro u hu huv
        rcases List.mem_append.1 hu with hu | hu
        · exact Ex.val_strict d e v (hok e (List.mem_cons_self ..)) hv u hu huv
        · exact exVals_strict d l vs' (fun k hk => hok k (List.mem_cons_of_mem _ hk)) hvs u hu huv
end
theorem mem_tmVars {l : List Tm} {t : Tm} (ht : t ∈ l) (hv : Ped.isVar t.v = true) : t.v ∈ tmVars l := mem_varsOn.2 (.inr ⟨hv, List.mem_map_of_mem ht⟩)
end Go.Proofs.YtiomojlcnemnhaaGreatDoor
