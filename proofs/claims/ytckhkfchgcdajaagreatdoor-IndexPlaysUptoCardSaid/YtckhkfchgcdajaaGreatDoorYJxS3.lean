import Derived.Test.YtckhkfchgcdajaaGreatDoorYJxE6
import Derived.Sort.LotD3
import Derived.Sort.WalkA6
import Derived.Sort.WalkB12
import Derived.Sort.WalkD1
namespace Go.Proofs.YtckhkfchgcdajaaGreatDoor
open Go.Fx Go.RowKit Go.Maps Go.Sort
set_option maxRecDepth 100000 in
theorem ins_small {w : World} {v : Value} {n : Nat} (hn : n ≤ 1) : Calls Tryz.prog 226 #[v, .int .i64 0, .int .i64 (n : Int)] w fun e w' => e = .returned (.tuple #[]) ∧ w' = w := by
  have h1 : decide ((1 : Int) < (n : Int)) = false := decide_eq_false (by omega)
  go_enter Tryz.func226, Tryz.ntmps226
  go_wp2_with fail
  refine wp_loop_rounds 1 ?_
  rw [rounds_succ]
  go_wp2_with fail
  go_end0
  exact ⟨rfl, rfl⟩
set_option maxRecDepth 100000 in
theorem pdq_small {w : World} {v : Value} {n : Nat} {k : Int} (hn : n ≤ 1) : Calls Tryz.prog 223 #[v, .int .i64 0, .int .i64 (n : Int), .int .i64 k] w fun e w' => e = .returned (.tuple #[]) ∧ w' = w := by
  have h1 : decide ((n : Int) ≤ 12) = true := decide_eq_true (by omega)
  go_enter Tryz.func223, Tryz.ntmps223
  go_wp2_with fail
  refine wp_loop_rounds 1 ?_
  rw [rounds_succ]
  go_wp2_with fail
  refine (ins_small hn).mono ?_
  rintro e w2 ⟨rfl, rfl⟩
  go_wp2_with fail
  exact bodyPost_ret (results_none rfl _ _ _) rfl ⟨rfl, rfl⟩
set_option maxRecDepth 100000 in
theorem sort_small {w : World} {a : Option Addr} {n c : Nat} (hn : n ≤ 1) : Calls Tryz.prog 216 #[.slice a n c] w fun e w' => e = .returned (.tuple #[]) ∧ w' = w := by
  go_enter Tryz.func216, Tryz.ntmps216
  have hc : IntKind.u64.wrap (n : Int) = (n : Int) := by rw [IntKind.wrap_u64]; omega
  go_wp2_with fail
  refine (Tryz.bits_Len (n : Int) w (by omega) (by omega)).mono ?_
  rintro e w2 ⟨rfl, rfl⟩
  go_wp2_with fail
  refine (pdq_small hn).mono ?_
  rintro e w2 ⟨rfl, rfl⟩
  go_wp2_with fail
  go_end0
  exact ⟨rfl, rfl⟩
theorem own_slice {w : World} {base size n : Nat} {e : TypeId} {v : Value} {xs : List Value} (h : w.ownsRow base e size v n xs) : ∃ a c, v = .slice a n c := by
  obtain ⟨hl, ⟨rfl, h0⟩ | ⟨g, cap, cur, rfl, _⟩⟩ := h
  · exact ⟨_, _, by rw [h0]⟩
  · exact ⟨_, _, rfl⟩
end Go.Proofs.YtckhkfchgcdajaaGreatDoor

namespace Go.Proofs.YtckhkfchgcdajaaGreatDoor
open Go.Fx Go.RowKit Go.Maps Go.Sort
def ltU (x y : Nat) : Bool := decide (x < y)
theorem swo_ltU : SWO ltU where
  irrefl x := by simp [ltU]
  trans x y z h1 h2 := by simp only [ltU, decide_eq_true_eq] at *; omega
  ntrans x y z h1 h2 := by simp only [ltU, decide_eq_false_iff_not] at *; omega
structure Srt (w0 : World) (g off sz : Nat) (d : Array Nat) (w : World) : Prop where
  kept : KeptBut (fun k => k = g) w0 w
  lt : g < w0.heap.size
  row : ∃ cur, w.heap[g]? = some (.cells cur 61 (0, 0)) ∧ cur.size = sz ∧ ∀ i, i < d.size → cur[off + i]? = some (encU d[i]!)
variable {w0 w : World} {g off sz : Nat} {d : Array Nat}
theorem Srt.cell (h : Srt w0 g off sz d w) {i : Nat} (hi : i < d.size) : w.cell? ⟨g, off + i, none⟩ = some (encU d[i]!) := by
  obtain ⟨cur, hc, _, hr⟩ := h.row
  simp [World.cell?, hc, hr i hi]
theorem Srt.frozen (h : Srt w0 g off sz d w) (i : Nat) : w.frozen? ⟨g, i, none⟩ = false := by
  obtain ⟨cur, hc, _, _⟩ := h.row
  simp [World.frozen?, hc]
theorem Srt.size (h : Srt w0 g off sz d w) : w0.heap.size ≤ w.heap.size := h.kept.size
theorem Srt.lt' (h : Srt w0 g off sz d w) : g < w.heap.size := Nat.lt_of_lt_of_le h.lt h.kept.size
theorem Srt.drewN (h : Srt w0 g off sz d w) (q : Nat) : Srt w0 g off sz d (w.drewN q) := ⟨⟨h.kept.os, h.kept.tape, h.kept.output, h.kept.size, h.kept.block⟩, h.lt, h.row⟩
theorem Srt.drew (h : Srt w0 g off sz d w) : Srt w0 g off sz d w.drew := ⟨⟨h.kept.os, h.kept.tape, h.kept.output, h.kept.size, h.kept.block⟩, h.lt, h.row⟩
theorem Srt.set (h : Srt w0 g off sz d w) {i x : Nat} (hi : i < d.size) : Srt w0 g off sz (d.setIfInBounds i x) (w.setCell ⟨g, off + i, none⟩ (encU x)) := by
  obtain ⟨cur, hc, hs, hr⟩ := h.row
  refine ⟨⟨h.kept.os, h.kept.tape, h.kept.output, by simpa [World.setCell] using h.kept.size, fun k hk hne => ?_⟩, h.lt, ⟨cur.setIfInBounds (off + i) (encU x), ?_, by simpa using hs, fun k hk => ?_⟩⟩
  · rw [Below.heap_setCell _ _ _ _ hne]; exact h.kept.block k hk hne
  · simp [World.setCell, Array.getElem?_modify, hc]
  · have hk' : k < d.size := by simpa using hk
    by_cases e : k = i
    · subst e
      rw [getElem!_set_same d k x hi]
      have := hr k hi
      have hlt : off + k < cur.size := by
        rcases Nat.lt_or_ge (off + k) cur.size with h | h
        · exact h
        · rw [Array.getElem?_eq_none h] at this; cases this
      simp [hlt]
    · rw [getElem!_set_other d i k x e, ← hr k hk', Array.getElem?_setIfInBounds, if_neg (by omega)]
theorem Srt.swap (h : Srt w0 g off sz d w) {i j : Nat} (hi : i < d.size) (hj : j < d.size) :
    Srt w0 g off sz (swp d i j) ((w.setCell ⟨g, off + i, none⟩ (encU d[j]!)).setCell ⟨g, off + j, none⟩ (encU d[i]!)) :=
  (h.set hi).set (by simpa using hj)
theorem Srt.beside (h : Srt w0 g off sz d w) {a : Addr} (ha : w0.heap.size ≤ a.block) (v : Value) : Srt w0 g off sz d (w.setCell a v) := by
  have hb : ∀ k, k < w0.heap.size → (w.setCell a v).heap[k]? = w.heap[k]? := fun k hk => Below.heap_setCell _ _ _ _ (by omega)
  obtain ⟨cur, hc, hs, hr⟩ := h.row
  exact ⟨⟨h.kept.os, h.kept.tape, h.kept.output, by simpa [World.setCell] using h.kept.size, fun k hk hne => (hb k hk).trans (h.kept.block k hk hne)⟩, h.lt, ⟨cur, (hb g h.lt).trans hc, hs, hr⟩⟩
theorem Srt.alloc (h : Srt w0 g off sz d w) (o : Obj) : Srt w0 g off sz d (w.alloc o) := by
  have hb : ∀ k, k < w0.heap.size → (w.alloc o).heap[k]? = w.heap[k]? := fun k hk => Below.heap_alloc _ _ _ (Nat.lt_of_lt_of_le hk h.kept.size)
  obtain ⟨cur, hc, hs, hr⟩ := h.row
  exact ⟨⟨h.kept.os, h.kept.tape, h.kept.output, Nat.le_trans h.kept.size (by simp), fun k hk hne => (hb k hk).trans (h.kept.block k hk hne)⟩, h.lt, ⟨cur, (hb g h.lt).trans hc, hs, hr⟩⟩
theorem nan_u (x : Nat) (w : World) : Calls Tryz.prog 243 #[.int .u32 (x : Int)] w fun e w' => e = .returned (.bool false) ∧ w' = w := by
  go_enter Tryz.func243, Tryz.ntmps243
  go_wp2
  go_ret
  exact ⟨by simp, rfl⟩
theorem less_u (x y : Nat) (w : World) : Calls Tryz.prog 232 #[.int .u32 (x : Int), .int .u32 (y : Int)] w fun e w' => e = .returned (.bool (ltU x y)) ∧ w' = w := by
  go_enter Tryz.func232, Tryz.ntmps232
  go_wp2_with (go_at_call 243; refine (nan_u _ _).mono ?_; rintro e w' ⟨rfl, rfl⟩)
  go_ret
  exact ⟨by simp [ltU], rfl⟩
end Go.Proofs.YtckhkfchgcdajaaGreatDoor

namespace Go.Proofs.YtckhkfchgcdajaaGreatDoor
open Go.Fx Go.RowKit Go.Maps Go.Sort
variable {w0 w : World} {g off sz : Nat} {d : Array Nat}
theorem ins_u {cap a b : Nat} (h : Srt w0 g off sz d w) (hab : a ≤ b) (hb : b ≤ d.size) (hsz : d.size < 4611686018427387904) :
    Calls Tryz.prog 226 #[.slice (some ⟨g, off, none⟩) d.size cap, .int .i64 (a : Int), .int .i64 (b : Int)] w fun e w' =>
      e = .returned (.tuple #[]) ∧ Srt w0 g off sz (insertionSort ltU d a b) w' := by
  have H : Hid (Srt w0 g off sz d w) := h
  clear h
  go_enter Tryz.func226, Tryz.ntmps226
  go_wp2
  go_loopw [6] (fun vi wr => ∃ (i : Nat) (dk : Array Nat), vi = .int .i64 i ∧ a < i ∧ i ≤ b + 1 ∧ dk.size = d.size ∧ Hid (Srt w0 g off sz dk wr) ∧
      Hid (insOuter ltU a b i dk = insOuter ltU a b (a + 1) d)) (fun vi _ => b + 1 - (intOf vi).toNat)
  case atStart => exact ⟨a + 1, d, by go_num, by omega, by omega, rfl, H, rfl⟩
  case round =>
    obtain ⟨i, dk, rfl, hai, hib, hsk, HK, HO⟩ := hrel
    go_wp2
    · have hlt : i < b := by assumption
      go_loopw [7] (fun vj wr2 => ∃ (j : Nat) (dj : Array Nat), vj = .int .i64 j ∧ a ≤ j ∧ j ≤ i ∧ dj.size = d.size ∧ Hid (Srt w0 g off sz dj wr2) ∧
          Hid (insInner ltU a j dj = insInner ltU a i dk)) (fun vj _ => (intOf vj).toNat)
      case atStart => exact ⟨i, dk, rfl, by omega, Nat.le_refl _, hsk, HK, rfl⟩
      case round =>
        obtain ⟨j, dj, rfl, haj, hji, hsj, HJ, HI⟩ := hrel
        obtain ⟨G, hG⟩ : ∃ G : Nat → Nat, ∀ t, G t = dj[t]! := ⟨fun t => dj[t]!, fun _ => rfl⟩
        have hcw : ∀ t, t < d.size → wr.cell? ⟨g, off + t, none⟩ = some (.int .u32 (G t : Int)) := fun t ht => by rw [hG]; exact HJ.out.cell (by omega)
        have hfw : ∀ t, t < d.size → wr.frozen? ⟨g, off + t, none⟩ = false := fun t _ => HJ.out.frozen _
        have HG : Hid (∀ t, G t = dj[t]!) := hG
        clear hG
        have OUT : Hid ((j ≤ a ∨ ltU dj[j]! dj[j - 1]! = false) → ∀ q, ∃ (i' : Nat) (dk' : Array Nat), Value.int .i64 ((i : Int) + 1) = .int .i64 (i' : Nat) ∧ a < i' ∧ i' ≤ b + 1 ∧ dk'.size = d.size ∧
            Hid (Srt w0 g off sz dk' (wr.drewN q)) ∧ Hid (insOuter ltU a b i' dk' = insOuter ltU a b (a + 1) d)) := fun hs q =>
          ⟨i + 1, dj, by go_num, by omega, by omega, hsj, HJ.out.drewN q, by
            show insOuter ltU a b (i + 1) dj = _
            rw [← HO.out, insOuter_go _ _ _ _ _ hlt, ← HI.out, insInner_stop _ _ _ _ hs]⟩
        go_wp2
        by_cases hja : a < j
        · go_quiet (first | (go_at_call 232; refine Calls.quiet_of_same (less_u _ _ _)))
          go_wp2
          · have hl : ltU (G j) (G (j - 1)) = true := by assumption
            go_region
            all_goals go_wp2
            go_roundw
            case rel =>
              refine ⟨j - 1, swp dj j (j - 1), by congr 1; omega, by omega, by omega, by rw [size_swp]; exact hsj, ?_, ?_⟩
              · have := (HJ.out.drewN (nq + 1)).swap (i := j) (j := j - 1) (by omega) (by omega)
                rw [HG.out, HG.out]
                exact this
              · show insInner ltU a (j - 1) _ = _
                rw [← HI.out, insInner_go ltU a j dj hja (by rw [← HG.out, ← HG.out]; exact hl)]
            case measure => simp [intOf]; omega
          · have hl : ltU (G j) (G (j - 1)) = false := by assumption
            go_roundw
            case rel => exact OUT.out (Or.inr (by rw [← HG.out, ← HG.out]; exact hl)) nq
            case measure => simp [intOf]; omega
        · go_quiet (first | (go_at_call 232; refine Calls.quiet_of_same (less_u _ _ _)))
          go_wp2
          go_roundw
          case rel => exact OUT.out (Or.inl (by omega)) nq
          case measure => simp [intOf]; omega
    · have hge : ¬ i < b := by assumption
      go_end0
      refine ⟨rfl, ?_⟩
      unfold insertionSort
      rw [← HO.out, insOuter_stop _ _ _ _ _ hge]
      exact HK.out
end Go.Proofs.YtckhkfchgcdajaaGreatDoor

namespace Go.Proofs.YtckhkfchgcdajaaGreatDoor
open Go.Fx Go.RowKit Go.Maps Go.Sort
variable {w0 w : World} {g off sz : Nat} {d : Array Nat}
set_option maxRecDepth 100000 in
theorem rev_u {cap a b : Nat} (h : Srt w0 g off sz d w) (hab : a ≤ b) (hb : b ≤ d.size) (hsz : d.size < 4611686018427387904) :
    Calls Tryz.prog 230 #[.slice (some ⟨g, off, none⟩) d.size cap, .int .i64 (a : Int), .int .i64 (b : Int)] w fun e w' =>
      e = .returned (.tuple #[]) ∧ Srt w0 g off sz (reverseRange d a b) w' := by
  have H : Hid (Srt w0 g off sz d w) := h
  clear h
  go_enter Tryz.func230, Tryz.ntmps230
  go_wp2
  go_loopg [6, 7] (b - a) (fun k s6 s7 wr => ∃ (i j : Nat) (z : Int) (dk : Array Nat), s6 = .int .i64 i ∧ s7 = .int .i64 z ∧ ((i : Int) < z → z = j ∧ j < d.size) ∧ (¬ (i : Int) < z → ¬ i < j) ∧ j - i ≤ k ∧
    dk.size = d.size ∧ Hid (Srt w0 g off sz dk wr) ∧ Hid (reverseLoop i j dk = reverseLoop a (b - 1) d))
  case atStart => exact ⟨a, b - 1, (b : Int) - 1, d, rfl, rfl, fun h => ⟨by omega, by omega⟩, fun h => by omega, by omega, rfl, H, rfl⟩
  case round =>
    obtain ⟨i, j, z, dk, rfl, rfl, h1, h2, hk, hds, HK, HE⟩ := hrel
    by_cases hlt : (i : Int) < z
    · obtain ⟨rfl, hj⟩ := h1 hlt
      have hij : i < j := by omega
      obtain ⟨x, hx⟩ : ∃ x, x = dk[i]! := ⟨_, rfl⟩
      obtain ⟨y, hy⟩ : ∃ y, y = dk[j]! := ⟨_, rfl⟩
      have ci : wr.cell? ⟨g, off + i, none⟩ = some (.int .u32 (x : Int)) := by rw [hx]; exact HK.out.cell (by omega)
      have fi : wr.frozen? ⟨g, off + i, none⟩ = false := HK.out.frozen _
      have cj : wr.cell? ⟨g, off + j, none⟩ = some (.int .u32 (y : Int)) := by rw [hy]; exact HK.out.cell (by omega)
      have fj : wr.frozen? ⟨g, off + j, none⟩ = false := HK.out.frozen _
      have X : Hid (x = dk[i]!) := hx
      have Y : Hid (y = dk[j]!) := hy
      clear h1 h2 hx hy
      go_wp2_with fail
      go_region
      go_wp2
      go_roundg (j - 1 - (i + 1))
      case measure => omega
      case rel =>
        refine ⟨i + 1, j - 1, (j : Int) - 1, swp dk i j, by simp, rfl, fun h => ⟨by omega, by omega⟩, fun h => by omega, Nat.le_refl _, by rw [size_swp]; exact hds, ?_, ?_⟩
        · have := (HK.out.swap (i := i) (j := j) (by omega) (by omega)).drew
          rw [← X.out, ← Y.out] at this
          exact this
        · show reverseLoop (i + 1) (j - 1) _ = _
          have := HE.out
          rw [reverseLoop, if_pos hij] at this
          exact this
    · have hnot := h2 hlt
      go_wp2
      go_end0
      have := HE.out
      rw [reverseLoop, if_neg hnot] at this
      refine ⟨rfl, ?_⟩
      rw [reverseRange, ← this]
      exact HK.out
def Cnt (w : World) (sb s : Nat) : Prop := w.cell? ⟨sb, 0, none⟩ = some (.int .i64 (s : Int)) ∧ w.frozen? ⟨sb, 0, none⟩ = false
theorem Cnt.drew {sb s : Nat} (h : Cnt w sb s) : Cnt w.drew sb s := h
theorem Cnt.set {sb s : Nat} (h : Cnt w sb s) (t : Nat) : Cnt (w.setCell ⟨sb, 0, none⟩ (.int .i64 (t : Int))) sb t :=
  ⟨World.cell?_setCell_same _ _ _ h.1, by rw [World.frozen?_setCell]; exact h.2⟩
set_option maxRecDepth 100000 in
theorem order2_u {cap a b sb s : Nat} (h : Srt w0 g off sz d w) (hC : Cnt w sb s) (hsb : w0.heap.size ≤ sb) (ha : a < d.size) (hb : b < d.size) (hsz : d.size < 4611686018427387904) (hs : s < 1000) :
    Calls Tryz.prog 248 #[.slice (some ⟨g, off, none⟩) d.size cap, .int .i64 (a : Int), .int .i64 (b : Int), .pointer (some ⟨sb, 0, none⟩)] w fun e w' =>
      ∃ x y s' : Nat, e = .returned (.tuple #[.int .i64 (x : Int), .int .i64 (y : Int)]) ∧ (x = a ∧ y = b ∨ x = b ∧ y = a) ∧ s' ≤ s + 1 ∧ Srt w0 g off sz d w' ∧ Cnt w' sb s' := by
  have ca := h.cell ha
  have cb := h.cell hb
  obtain ⟨cs, fs⟩ := hC
  have C : Hid (Cnt w sb s) := ⟨cs, fs⟩
  have H : Hid (Srt w0 g off sz d w) := h
  clear h
  generalize d[a]! = u at *
  generalize d[b]! = v at *
  go_enter Tryz.func248, Tryz.ntmps248
  go_wp2
  go_region_with (go_at_call 232; refine (less_u _ _ _).mono ?_; rintro e w' ⟨rfl, rfl⟩)
  all_goals (try go_wp2)
  all_goals go_ret2
  all_goals first
    | exact ⟨b, a, s + 1, rfl, .inr ⟨rfl, rfl⟩, Nat.le_refl _, (H.out.drew.beside (a := ⟨sb, 0, none⟩) hsb _), C.out.drew.set (s + 1)⟩
    | exact ⟨a, b, s, rfl, .inl ⟨rfl, rfl⟩, by omega, H.out.drew, C.out.drew⟩
set_option maxRecDepth 100000 in
theorem median_u {cap a b c sb s : Nat} (h : Srt w0 g off sz d w) (hC : Cnt w sb s) (hsb : w0.heap.size ≤ sb) (ha : a < d.size) (hb : b < d.size) (hc : c < d.size) (hsz : d.size < 4611686018427387904) (hs : s < 900) :
    Calls Tryz.prog 242 #[.slice (some ⟨g, off, none⟩) d.size cap, .int .i64 (a : Int), .int .i64 (b : Int), .int .i64 (c : Int), .pointer (some ⟨sb, 0, none⟩)] w fun e w' =>
      ∃ x s' : Nat, e = .returned (.int .i64 (x : Int)) ∧ (x = a ∨ x = b ∨ x = c) ∧ s' ≤ s + 3 ∧ Srt w0 g off sz d w' ∧ Cnt w' sb s' := by
  go_enter Tryz.func242, Tryz.ntmps242
  go_wp2_with fail
  refine (order2_u h hC hsb ha hb hsz (by omega)).mono ?_
  rintro e w1 ⟨a1, b1, s1, rfl, h1, hs1, H1, C1⟩
  have ha1 : a1 < d.size := by omega
  have hb1 : b1 < d.size := by omega
  go_wp2_with fail
  refine (order2_u H1 C1 hsb hb1 hc hsz (by omega)).mono ?_
  rintro e w2 ⟨b2, c2, s2, rfl, h2, hs2, H2, C2⟩
  have hb2 : b2 < d.size := by omega
  go_wp2_with fail
  refine (order2_u H2 C2 hsb ha1 hb2 hsz (by omega)).mono ?_
  rintro e w3 ⟨a3, b3, s3, rfl, h3, hs3, H3, C3⟩
  go_wp2_with fail
  go_ret
  exact ⟨b3, s3, rfl, by omega, by omega, H3, C3⟩
set_option maxRecDepth 100000 in
theorem medAdj_u {cap a sb s : Nat} (h : Srt w0 g off sz d w) (hC : Cnt w sb s) (hsb : w0.heap.size ≤ sb) (h1 : 1 ≤ a) (ha : a + 1 < d.size) (hsz : d.size < 4611686018427387904) (hs : s < 900) :
    Calls Tryz.prog 241 #[.slice (some ⟨g, off, none⟩) d.size cap, .int .i64 (a : Int), .pointer (some ⟨sb, 0, none⟩)] w fun e w' =>
      ∃ x s' : Nat, e = .returned (.int .i64 (x : Int)) ∧ a - 1 ≤ x ∧ x ≤ a + 1 ∧ s' ≤ s + 3 ∧ Srt w0 g off sz d w' ∧ Cnt w' sb s' := by
  have e1 : (a : Int) - 1 = ((a - 1 : Nat) : Int) := by omega
  go_enter Tryz.func241, Tryz.ntmps241
  go_wp2_with fail
  refine (median_u (a := a - 1) (b := a) (c := a + 1) h hC hsb (by omega) (by omega) ha hsz (by omega)).mono ?_
  rintro e w1 ⟨x, s1, rfl, hx, hs1, H1, C1⟩
  go_wp2_with fail
  go_ret
  exact ⟨x, s1, rfl, by omega, by omega, by omega, H1, C1⟩
end Go.Proofs.YtckhkfchgcdajaaGreatDoor
