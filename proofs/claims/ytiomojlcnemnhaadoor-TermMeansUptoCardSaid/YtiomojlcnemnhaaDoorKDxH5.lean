import Derived.Test.YtiomojlcnemnhaaDoorKDxHa
import Derived.Test.YtiomojlcnemnhaaDoorKDxH4
/- Contracts, on: the document's operations. -/
namespace Go.Proofs.YtiomojlcnemnhaaDoor
open Go.Fx Go.RowKit Go.Ped
variable {G : World → Prop}

end Go.Proofs.YtiomojlcnemnhaaDoor

/- Contracts, on: how many characters a text has. -/
namespace Go.Proofs.YtiomojlcnemnhaaDoor
open Go.Fx Go.RowKit Go.Ped Go.Lib
variable {G : World → Prop}

theorem below_cell {N : Nat} {w w' : World} (h : Below N w w') {b : Nat} (hb : b < N) (o : Nat) : w'.cell? ⟨b, o, none⟩ = w.cell? ⟨b, o, none⟩ := by simp only [World.cell?, h.block b hb]

set_option maxRecDepth 100000 in
theorem m33c (a : Val) (sp : Sp) (hk : a.k = 2) (ho : a.ok = true) : Meets Tryd.prog GK 33 [.one (cI .i8 9), .one (.sl [a.row] sp)] (optR (some (numV (charsB a.s).length))) := by
  refine ⟨by kernel_rfl, fun w V vs hG hV ha => ?_⟩
  obtain ⟨v1, vs, rfl, h1, hn⟩ := ha.head
  obtain ⟨v2, vs, rfl, h2, hn⟩ := hn.head
  obtain rfl := hn.nil_left
  obtain rfl : v1 = .int .i8 9 := by cases h1; rfl
  have hfits := (m101g (G := GK) 3 [a] sp (by decide) (by decide)).2
  have hft : fitsV 3 [a] = true := by simp [fitsV, hk, ho]
  rw [hft] at hfits
  have hnum := (m102v (G := GK) (charsB a.s).length).2
  obtain ⟨b, o, cap, rfl, hc⟩ : ∃ b o cap, v2 = .slice (some ⟨b, o, none⟩) 1 cap ∧ (w.cell? ⟨b, o + 2, none⟩ = some (.string (bs a.s)) ∧ V b (o + 2)) := by
    have h2' : RepC V w (.sl [a.row] sp) v2 := h2
    generalize hE : [a.row] = E at h2'
    cases h2' with
    | nil c => cases hE
    | emp x => cases hE
    | sl _ _ s b o n cap us hn hc hm hw hul hu hr =>
      subst hE
      have hfl : ([a.row] ++ sp).flatten = a.row ++ sp.flatten := by simp
      have h3 : us.length = 3 + sp.flatten.length := by rw [hul, hfl]; simp [Val.row]; omega
      have hj : us[2]? = some us[2] := List.getElem?_eq_getElem (by omega)
      have hr2 := hr 2 (cS (bs a.s)) us[2] (by rw [hfl]; rfl) hj
      have e : us[2] = .string (bs a.s) := by generalize us[2] = u at hr2; cases hr2; rfl
      have := hu 2 _ hj
      rw [e] at this
      exact ⟨b, o, cap, by rw [hn]; rfl, this⟩
  obtain ⟨hc, hVc⟩ := hc
  have hb := hV _ _ hVc
  have ht : ∀ w1, Below w.heap.size w w1 → w1.cell? ⟨0, 9, none⟩ = some (.int .i8 3) := fun w1 h => takes_at 9 (by decide) w1 (hG w1 h)
  have hB0 : Below w.heap.size w (w.alloc (Obj.cells #[Value.int IntKind.i8 0, Value.int IntKind.i64 0, Value.string { data := #[] }] 39)) := Below.alloc (Below.refl _ _) (Nat.le_refl _) _
  have ht' := ht _ hB0
  show Calls Tryd.prog 33 #[.int .i8 9, .slice (some ⟨b, o, none⟩) 1 cap] w _
  go_enter Tryd.func33, Tryd.ntmps33
  go_wp2_with fail
  have hsz0 : (w.alloc (Obj.cells #[Value.int IntKind.i8 0, Value.int IntKind.i64 0, Value.string { data := #[] }] 39)).heap.size = w.heap.size + 1 := alloc_size _ _
  have hN0 : (w.alloc (Obj.cells #[Value.int IntKind.i8 0, Value.int IntKind.i64 0, Value.string { data := #[] }] 39)).heap[w.heap.size]? = some (Obj.cells #[Value.int IntKind.i8 0, Value.int IntKind.i64 0, Value.string { data := #[] }] 39) := by rw [alloc_heap, if_pos rfl]
  generalize w.alloc (Obj.cells #[Value.int IntKind.i8 0, Value.int IntKind.i64 0, Value.string { data := #[] }] 39) = w0 at *
  refine (hfits w0 V _ (hG.later hB0) (fun b o h => Nat.lt_of_lt_of_le (hV b o h) hB0.size) (All2.cons (.v _ rfl) (All2.cons (RepC.mono (fun _ _ h => h) (fun b o h => below_cell hB0 (hV b o h) o) h2) All2.nil))).mono ?_
  rintro e w1 ⟨v, rfl, hv, hb1⟩
  obtain rfl : v = .bool true := by cases hv; rfl
  have hB1 : Below w.heap.size w w1 := hB0.trans (hb1.mono (by omega))
  have hN1 := (hb1.block w.heap.size (by omega)).trans hN0
  have hc1 := (below_cell hB1 hb (o + 2)).trans hc
  have hs1 := hb1.size
  clear hN0 hB0 ht' hb1 h2 hfits hv
  go_wp2_with fail
  have hlen : (bs a.s).size = a.s.length := by simp [bs, ByteArray.size]
  have hmax : a.s.length ≤ 200 := txt_len hk ho
  go_loopw [8] (fun n w' => ∃ (pos m : Nat) (acc : Nat), w' = w1.iter (bs a.s) pos ∧ n = .int .i64 (acc : Int) ∧ acc + (segs (bs a.s) m pos).length = (charsB a.s).length ∧ (bs a.s).size ≤ pos + m ∧ acc + m ≤ 1000) (fun _ w' => (bs a.s).size - w'.iterPos w1.heap.size)
  case atStart => exact ⟨0, a.s.length, 0, rfl, rfl, by simp [charsB], by omega, by omega⟩
  case round =>
    obtain ⟨pos, m, acc, rfl, rfl, hcnt, hbd, hac⟩ := hrel
    by_cases hp : pos < (bs a.s).size
    · have hnx : ∀ ty, (Instr.next (.pointer (some ⟨w1.heap.size, 0, none⟩)) true ty).run Tryd.prog (w1.iter (bs a.s) pos) = _ := fun ty => run_next_any w1 (bs a.s) pos ty hp
      go_wp2_with fail
      have hwd := decode_pos (bs a.s) pos hp
      obtain ⟨m, rfl⟩ : ∃ k, m = k + 1 := ⟨m - 1, by omega⟩
      go_roundw
      case rel =>
        refine ⟨pos + (Utf8.decode (bs a.s) pos).2, m, acc + 1, rfl, ?_, ?_, by omega, by omega⟩
        · exact congrArg (Value.int .i64) (by omega)
        · rw [← hcnt]
          simp only [segs, if_pos hp, List.length_cons]
          omega
      case measure =>
        simp
        omega
    · have hnx : ∀ ty, (Instr.next (.pointer (some ⟨w1.heap.size, 0, none⟩)) true ty).run Tryd.prog (w1.iter (bs a.s) pos) = _ := fun ty => run_next_end w1 (bs a.s) pos ty hp
      have hend : segs (bs a.s) m pos = [] := by
        cases m with
        | zero => rfl
        | succ k => exact if_neg hp
      rw [hend] at hcnt
      simp only [List.length_nil, Nat.add_zero] at hcnt
      subst hcnt
      go_wp2_with fail
      have hB2 : Below w.heap.size w (w1.iter (bs a.s) pos) := Below.alloc hB1 (by omega) _
      have hN2 : (w1.iter (bs a.s) pos).heap[w.heap.size]? = some (Obj.cells #[Value.int IntKind.i8 0, Value.int IntKind.i64 0, Value.string { data := #[] }] 39) := by rw [iter_alloc, alloc_heap, if_neg (by omega)]; exact hN1
      have hs2 : w1.heap.size + 1 = (w1.iter (bs a.s) pos).heap.size := (alloc_size _ _).symm
      clear hnx
      generalize w1.iter (bs a.s) pos = w2 at *
      refine (hnum w2 V _ (hG.later hB2) (fun b o h => Nat.lt_of_lt_of_le (hV b o h) hB2.size) (All2.cons (.v _ rfl) All2.nil)).mono ?_
      rintro e w3 ⟨v, rfl, ⟨vs, rfl, hv⟩, hb3⟩
      obtain ⟨x1, vs1, hvs, ⟨us, hus, hx⟩, hv1⟩ := hv.head
      obtain ⟨x2, vs2, hvs2, hx2, hv2⟩ := hv1.head
      obtain rfl := hv2.nil_left
      subst hvs2 hvs hus
      obtain ⟨y1, us1, hu1, hy1, hx1⟩ := hx.head
      obtain ⟨y2, us2, hu2, hy2, hx2'⟩ := hx1.head
      obtain ⟨y3, us3, hu3, hy3, hx3⟩ := hx2'.head
      obtain rfl := hx3.nil_left
      subst hu3 hu2 hu1
      obtain rfl : x2 = .bool true := by cases hx2; rfl
      obtain rfl : y1 = .int .i8 1 := by cases hy1; rfl
      obtain rfl : y2 = .int .i64 (charsB a.s).length := by cases hy2; rfl
      obtain rfl : y3 = .string (bs []) := by cases hy3; rfl
      have hB3 : Below w.heap.size w w3 := hB2.trans (hb3.mono (by omega))
      have hN3 := (hb3.block w.heap.size (by omega)).trans hN2
      have hs3 := hb3.size
      have c0 : w3.cell? ⟨w.heap.size, 0, none⟩ = some (.int .i8 0) := by simp only [World.cell?, hN3]; rfl
      have z0 : w3.frozen? ⟨w.heap.size, 0, none⟩ = false := by simp only [World.frozen?, hN3]; rfl
      have c1 : (w3.setCell ⟨w.heap.size, 0, none⟩ (.int .i8 1)).cell? ⟨w.heap.size, 1, none⟩ = some (.int .i64 0) := by rw [World.cell?_setCell_other _ _ _ _ (by simp)]; simp only [World.cell?, hN3]; rfl
      have z1 : (w3.setCell ⟨w.heap.size, 0, none⟩ (.int .i8 1)).frozen? ⟨w.heap.size, 1, none⟩ = false := by rw [World.frozen?_setCell]; simp only [World.frozen?, hN3]; rfl
      have c2 : ((w3.setCell ⟨w.heap.size, 0, none⟩ (.int .i8 1)).setCell ⟨w.heap.size, 1, none⟩ (.int .i64 (charsB a.s).length)).cell? ⟨w.heap.size, 2, none⟩ = some (.string ⟨#[]⟩) := by rw [World.cell?_setCell_other _ _ _ _ (by simp), World.cell?_setCell_other _ _ _ _ (by simp)]; simp only [World.cell?, hN3]; rfl
      have z2 : ((w3.setCell ⟨w.heap.size, 0, none⟩ (.int .i8 1)).setCell ⟨w.heap.size, 1, none⟩ (.int .i64 (charsB a.s).length)).frozen? ⟨w.heap.size, 2, none⟩ = false := by rw [World.frozen?_setCell, World.frozen?_setCell]; simp only [World.frozen?, hN3]; rfl
      have r0 : (((w3.setCell ⟨w.heap.size, 0, none⟩ (.int .i8 1)).setCell ⟨w.heap.size, 1, none⟩ (.int .i64 (charsB a.s).length)).setCell ⟨w.heap.size, 2, none⟩ (.string (bs []))).cell? ⟨w.heap.size, 0, none⟩ = some (.int .i8 1) := by
        rw [World.cell?_setCell_other _ _ _ _ (by simp), World.cell?_setCell_other _ _ _ _ (by simp)]; exact World.cell?_setCell_same _ _ _ c0
      have r1 : (((w3.setCell ⟨w.heap.size, 0, none⟩ (.int .i8 1)).setCell ⟨w.heap.size, 1, none⟩ (.int .i64 (charsB a.s).length)).setCell ⟨w.heap.size, 2, none⟩ (.string (bs []))).cell? ⟨w.heap.size, 1, none⟩ = some (.int .i64 (charsB a.s).length) := by
        rw [World.cell?_setCell_other _ _ _ _ (by simp)]; exact World.cell?_setCell_same _ _ _ c1
      have r2 : (((w3.setCell ⟨w.heap.size, 0, none⟩ (.int .i8 1)).setCell ⟨w.heap.size, 1, none⟩ (.int .i64 (charsB a.s).length)).setCell ⟨w.heap.size, 2, none⟩ (.string (bs []))).cell? ⟨w.heap.size, 2, none⟩ = some (.string (bs [])) := World.cell?_setCell_same _ _ _ c2
      have hB6 : Below w.heap.size w (((w3.setCell ⟨w.heap.size, 0, none⟩ (.int .i8 1)).setCell ⟨w.heap.size, 1, none⟩ (.int .i64 (charsB a.s).length)).setCell ⟨w.heap.size, 2, none⟩ (.string (bs []))) :=
        Below.setCell (Below.setCell (Below.setCell hB3 (Nat.le_refl _) _) (Nat.le_refl _) _) (Nat.le_refl _) _
      clear hN2 hB2 hN1 hB1 hb3 hnum hN3
      go_wp2_with fail
      first
        | go_ret
        | go_end0
        | simp [bodyPost, results, Tryd.results33, r0, r1, r2, go_sem]
      exact ⟨⟨_, rfl, All2.cons ⟨_, rfl, All2.cons (.v _ rfl) (All2.cons (.v _ rfl) (All2.cons (.v _ rfl) All2.nil))⟩ (All2.cons (.v _ rfl) All2.nil)⟩, hB6⟩

theorem m33 (op : Int) (h1 : 1 ≤ op) (h2 : op ≤ 10) (l : List Val) (sp : Sp) : Meets Tryd.prog GK 33 [.one (cI .i8 op), .one (.sl (l.map Val.row) sp)] (optR (arithV op l)) := by
  have h : op = 1 ∨ op = 2 ∨ op = 3 ∨ op = 4 ∨ op = 5 ∨ op = 6 ∨ op = 7 ∨ op = 8 ∨ op = 9 ∨ op = 10 := by omega
  rcases h with rfl | rfl | rfl | rfl | rfl | rfl | rfl | rfl | rfl | rfl
  · exact m33_1 l sp
  · exact m33_2 l sp
  · exact m33_3 l sp
  · exact m33_4 l sp
  · exact m33_5 l sp
  · exact m33_6 l sp
  · exact m33_7 l sp
  · exact m33_8 l sp
  · exact m33_9 l sp fun a hk ho => m33c a sp hk ho
  · exact m33_10 l sp
end Go.Proofs.YtiomojlcnemnhaaDoor
