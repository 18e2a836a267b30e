import Derived.Test.YtiomojlcnemnhaaDoorTDxIcN
import Derived.Test.YtiomojlcnemnhaaDoorTDxM3
import Derived.Test.YtiomojlcnemnhaaDoorTDxCardK
import Derived.Lib.DecodeN
import Derived.Test.YtiomojlcnemnhaaDoorTDxX11
/- Contracts, on: a text's characters, as the document has them. -/
namespace Go.Proofs.YtiomojlcnemnhaaDoor
open Go.Fx Go.RowKit Go.Ped
variable {G : World → Prop}

theorem ret_three {L : List (Nat × T)} {O : List (Nat × Box)} {U : List (Nat × Fx.Tok)} {H : FHp} {a b c : IRes} {cs : List CX} : retO (st L O U H) [a, b, c] (.tup cs) = ((resO (st L O U H) a).need ∧ (resO (st L O U H) b).need ∧ (resO (st L O U H) c).need ∧ closeRs (st L O U H) [a, b, c] = some cs) := by
  refine propext ⟨fun ⟨h1, c1, h2, h3⟩ => ?_, fun ⟨h1, h2, h3, h4⟩ => ⟨fun x hx => ?_, cs, h4, rfl⟩⟩
  · injection h3 with h3; subst h3
    exact ⟨h1 a (by simp), h1 b (by simp), h1 c (by simp), h2⟩
  · simp only [List.mem_cons, List.not_mem_nil, or_false] at hx
    rcases hx with rfl | rfl | rfl
    · exact h1
    · exact h2
    · exact h3
attribute [local simp] ret_three
end Go.Proofs.YtiomojlcnemnhaaDoor

/- Contracts, on: what operations give. -/
namespace Go.Proofs.YtiomojlcnemnhaaDoor
open Go.Fx Go.RowKit Go.Ped
variable {G : World → Prop}

/-- Are these what an operation takes so? -/
def fitsV (how : Int) (l : List Val) : Bool := !(how == 0) && (l.length == (if how = 2 ∨ how = 4 then 2 else 1)) && l.all fun v => (v.k == (if how = 4 ∨ how = 3 then 2 else 1)) && v.ok
def numV (n : Int) : Val := ⟨1, n, []⟩
def txtO (s : List UInt8) : Option Val := if s.length ≤ 200 then some ⟨2, 0, s⟩ else none
/-- A text's characters. -/
def charsB (s : List UInt8) : List (List UInt8) := segs (bs s) s.length 0
def backB (s : List UInt8) : List UInt8 := (charsB s).reverse.flatten
/-- What an operation gives. -/
def arithV (op : Int) (l : List Val) : Option Val :=
  if op < 0 ∨ 11 ≤ op then none
  else if fitsV (takesTab.getD op.toNat 0) l = false then none
  else if op = 1 then some (numV (IntKind.i64.wrap (-(l.getD 0 zeroV).n)))
  else if op = 2 then some (numV (IntKind.i64.wrap ((l.getD 0 zeroV).n + (l.getD 1 zeroV).n)))
  else if op = 3 then some (numV (IntKind.i64.wrap ((l.getD 0 zeroV).n - (l.getD 1 zeroV).n)))
  else if op = 4 then some (numV (IntKind.i64.wrap ((l.getD 0 zeroV).n * (l.getD 1 zeroV).n)))
  else if op = 5 ∨ op = 6 then (divGo op (l.getD 0 zeroV).n (l.getD 1 zeroV).n).map numV
  else if op = 7 then txtO ((l.getD 0 zeroV).s ++ (l.getD 1 zeroV).s)
  else if op = 8 then some (numV (l.getD 0 zeroV).s.length)
  else if op = 9 then some (numV (charsB (l.getD 0 zeroV).s).length)
  else txtO (backB (l.getD 0 zeroV).s)
end Go.Proofs.YtiomojlcnemnhaaDoor

/- Contracts, on: the document's operations. -/
namespace Go.Proofs.YtiomojlcnemnhaaDoor
open Go.Fx Go.RowKit Go.Ped
variable {G : World → Prop}

end Go.Proofs.YtiomojlcnemnhaaDoor

/- Contracts, on: how many characters a text has. -/
namespace Go.Proofs.YtiomojlcnemnhaaDoor
open Go.Fx Go.RowKit Go.Ped Go.Lib
variable {G : World → Prop}

theorem below_cell {N : Nat} {w w' : World} (h : Below N w w') {b : Nat} (hb : b < N) (o : Nat) : w'.cell? ⟨b, o, none⟩ = w.cell? ⟨b, o, none⟩ := by simp only [World.cell?, h.block b hb]

end Go.Proofs.YtiomojlcnemnhaaDoor

/- Contracts, on: the value of one sum, under one bind. -/
namespace Go.Proofs.YtiomojlcnemnhaaDoor
open Go.Fx Go.RowKit Go.Ped
variable {G : World → Prop}

theorem hp_renX (π : Ren) (O : List (Nat × Box)) (U : List (Nat × Fx.Tok)) (E : XP) : (hp O U (FX E)).ren π = hp (O.map fun p => (π.f p.1, p.2.ren π.f)) (U.map fun p => (π.f p.1, p.2)) (FX E) := by
  unfold Hp.ren hp
  simp only [Hp.mk.injEq]
  refine ⟨funext fun k => ?_, funext fun k => ?_, trivial⟩
  · rw [lookO_ren]
    show ((lookO O (π.g k)).or none).map _ = ((lookO O (π.g k)).map _).or none
    simp
  · rw [lookT_ren]; rfl

theorem m95 (rows : List (List C)) (sp : Sp) : MeetsH Tryd.prog G 95 [.one (.c (.sl rows sp))] (hp [] [] F0) (.x (.one (.clo 159 [] [.ref 1 0 0]))) (hp [(1, ⟨25, 1, [[.c (.sl rows sp)]], none⟩)] [] F0) := by
  refine meetsH [] Tryd.func95 ie95 ig95 (Nat.le_of_ble_eq_true rfl) (by simp) (by simp) (by simp) (by simp) (by simp) (sameKeys_refl F0) (by simp) (by simp) ?_
  simp [ic95, ir95]
  exact ret_st (by simp) (by simp) (by simp) (by simp) (by simp) (by simp)

abbrev OY (a b : Nat) (m : List Tm) : List (Nat × Box) := [(a, ⟨138, 1, [[.mapr b]], none⟩), (b, ⟨0, 4, m.map mpRow, some (.string, false)⟩)]
attribute [simp] OY
theorem ren_mpRow (r : Nat → Nat) (t : Tm) : renL r (mpRow t) = mpRow t := by simp [mpRow, Val.row]
theorem ren_mpRow' (r : Nat → Nat) : renL r ∘ mpRow = mpRow := funext fun t => ren_mpRow r t

/-- One round: the last bind, handed over. -/
theorem m159 (Z : XP) (l : Nat) (ta : Array Value) (t : Tm) (sp : Sp) (m1 m2 : List Tm)
    (hY : MeetsV Tryd.prog G (.yld l ta [6] [.ref 10006 0 0]) [.one (.c (cI .i64 0)), .agg (t.row.map A.c)] (hp (OY 10006 10013 m1) [] (FX Z)) (rB true) (hp (OY 10006 10013 m2) [] (FX Z))) :
    MeetsH Tryd.prog G 159 [.one (.yld l ta [6] [.ref 10006 0 0]), .one (.ref 10001 0 0)] (hp ((10001, ⟨25, 1, [[.c (.sl [t.row] sp)]], none⟩) :: OY 10006 10013 m1) [] (FX Z)) (.tup []) (hp ((10001, ⟨25, 1, [[.c (.sl [t.row] sp)]], none⟩) :: OY 10006 10013 m2) [] (FX Z)) := by
  refine meetsH [] Tryd.func159 ie159 ig159 (Nat.le_of_ble_eq_true rfl) ?_ (by simp) (by simp [ownKey]) (by simp) (by simp) (sameKeys_refl _) ?_ (by simp) ?_
  · simp [midKey, ownKey, mpRow, Val.row]
  · simp [mpRow, Val.row]
  have hr : t.row = [cS (bs t.v), cI .i8 t.x.k, cI .i64 t.x.n, cS (bs t.x.s)] := rfl
  simp [ic159, ir159]
  refine w_loopA [] [] [0, 1, 3] (by simp)
    (fun b : Bool => st [(0, .k true (.x (.one (.yld l ta [6] [.ref 10006 0 0])))), (1, .k true (.x (.one (.ref 10001 0 0)))), (3, tI .i64 (bif b then -1 else 0))] ((10001, ⟨25, 1, [[.c (.sl [t.row] sp)]], none⟩) :: OY 10006 10013 (bif b then m2 else m1)) [] (FX Z)) (fun b => bif b then 0 else 1)
    (fun _ => True) false (by simp; try rfl) trivial ?_
  rintro b K hK -
  cases b with
  | false =>
    simp [ic159l0]
    refine r_callW _ _ (OY 10006 10013 m1) [] _ (OY 10006 10013 m2) [] hY rfl rfl rfl (by simp [X.fits, A.fits]) (by simp) ?_
    simp
    exact hK true _ (by simp [show IntKind.i64.wrap (0 - 1) = -1 by decide, show IntKind.i64.wrap (-1) = -1 by decide]) trivial (by simp)
  | true =>
    simp [ic159l0]
    exact ret_st (by simp) (by simp) (by simp) (by simp) (by simp) (by simp)
theorem v159 (Z : XP) (l : Nat) (ta : Array Value) (t : Tm) (sp : Sp) (m1 m2 : List Tm)
    (hY : MeetsV Tryd.prog G (.yld l ta [6] [.ref 10006 0 0]) [.one (.c (cI .i64 0)), .agg (t.row.map A.c)] (hp (OY 10006 10013 m1) [] (FX Z)) (rB true) (hp (OY 10006 10013 m2) [] (FX Z))) :
    MeetsV Tryd.prog G (.clo 159 [] [.ref 1 0 0]) [.one (.yld l ta [6] [.ref 6 0 0])] (hp ((1, ⟨25, 1, [[.c (.sl [t.row] sp)]], none⟩) :: OY 6 13 m1) [] (FX Z)) (.tup []) (hp ((1, ⟨25, 1, [[.c (.sl [t.row] sp)]], none⟩) :: OY 6 13 m2) [] (FX Z)) := by
  have h := (((clo_of (f := 159) (fs := []) (args := [.one (.yld l ta [6] [.ref 10006 0 0])]) (cs := [.ref 10001 0 0]) rfl (m159 Z l ta t sp m1 m2 hY)).ren (π := swR 10001 1)).ren (π := swR 10006 6)).ren (π := swR 10013 13)
  simp [swF, hp_renX, ren_mpRow'] at h
  simpa using h
abbrev sumR : List C := [cI .i8 2, cS (bs []), cI .i8 0, cI .i64 0, cS (bs []), .sl [lfR [88] zeroV [], lfR [] ⟨1, 2, []⟩ []] []]
abbrev bX : Tm := ⟨[88], ⟨1, 1, []⟩⟩
theorem v96 (Z : XP) : MeetsV Tryd.prog GK (fnA 96) [.agg (sumR.map A.c), .one (.mapr 13)] (hp [(13, ⟨0, 4, [bX].map mpRow, some (.string, false)⟩)] [] (FX Z)) (.tup [.agg ((nmR 3).map A.c), .one (.c (cB true))]) (hp [(13, ⟨0, 4, [bX].map mpRow, some (.string, false)⟩)] [] (FX Z)) := by
  have h := (MeetsV.of_fun (e96a Z [bX] (lfR [88] zeroV []) (lfR [] ⟨1, 2, []⟩ []) 1 2 [] rfl rfl (by decide) (by decide) (e96v Z [bX] [88] zeroV ⟨1, 1, []⟩ [] (by simp) rfl rfl) (e96c Z [bX] ⟨1, 2, []⟩ []))).ren (π := swR 10040 13)
  simp [swF, hp_renX, ren_mpRow] at h
  simpa using h
def sumE : Ex := .mk 2 ⟨[], zeroV⟩ [.mk 0 ⟨[88], zeroV⟩ [] [], .mk 0 ⟨[], ⟨1, 2, []⟩⟩ [] []] []
theorem sumE_row : sumE.row = sumR := by simp [sumE, Ex.row_mk, zeroV]
theorem sumE_ok : exOk 8 sumE = true := by kernel_rfl
theorem sumE_small : sumE.small 1048576 := by
  refine Ex.small_mk.2 ⟨by simp, fun k hk => ?_⟩
  simp only [List.mem_cons, List.not_mem_nil, or_false] at hk
  rcases hk with rfl | rfl <;> exact Ex.small_mk.2 ⟨by simp, by simp⟩
theorem m26a (sp : Sp) : Meets Tryd.prog GK 26 [.agg sumR, .one (.sl [bX.row] sp)] (.tup [.agg (nmR 3), .one (cB true)]) := by
  have h94 := m94 (G := GK) sumE sumE_small
  rw [sumE_ok, sumE_row, if_pos rfl] at h94
  refine meets Tryd.func26 ie26 ig26 (Nat.le_of_ble_eq_true rfl) ?_
  simp [ic26, ir26]
  refine call_of h94 ?_
  simp
  refine r_callW _ _ [] [] _ _ [] (MeetsV.of_fun (m95 [bX.row] sp)) rfl rfl rfl (by simp) (by simp) ?_
  simp
  refine w_rangeF [6] [.ref 6 0 0] rfl trivial rfl ?_ (by simp) (by simp)
  intro l ta E B m hE hB hR
  have hY := hR [.ref 10006 0 0] [.one (.c (cI .i64 0)), .agg (bX.row.map A.c)] (OY 10006 10013 []) [] (OY 10006 10013 [bX]) [] .normal rfl rfl trivial ?_ ?_
  · refine ⟨_, [], _, [], _, .normal, v159 (E .normal) l ta bX sp [] [bX] hY, ?_, trivial, fun Z hZ => ?_⟩
    · simp
    · simp
      refine r_callW _ _ [(13, ⟨0, 4, [bX].map mpRow, some (.string, false)⟩)] [] _ [(13, ⟨0, 4, [bX].map mpRow, some (.string, false)⟩)] [] (v96 Z) rfl rfl rfl (by simp [X.fits, A.fits]) (by simp) ?_
      simp [hZ]
  · refine ⟨?_, by simp, by simp [Tm.row], by simp [ownKey], by simp, by simp, ?_⟩
    · simp [midKey, ownKey]
    · simp [ownKey, mpRow, Val.row]
  · simp [ic26a0, roundL]
    refine roundA_mk ?_
    simp [ic26l0]
    exact ⟨rfl, roundQ_mk (by simp [mapPut, mpRow, Val.row]) (by simp)⟩
end Go.Proofs.YtiomojlcnemnhaaDoor

/- Contracts, on: the values of expressions. -/
namespace Go.Proofs.YtiomojlcnemnhaaDoor
open Go.Fx Go.RowKit Go.Ped
variable {G : World → Prop}

/-- The value of a term by a list of binds. -/
def leafV (m : List Tm) (t : Tm) : Option Val := if t.v = [] then some t.x else match bindOf m t.v with | some w => if w.ok then some w else none | none => none
mutual
/-- The value of an expression. -/
def Ex.val (m : List Tm) : Ex → Option Val
  | .mk op t kids _ => if op = 0 then leafV m t else match exVals m kids with | none => none | some vs => arithV op vs
def exVals (m : List Tm) : List Ex → Option (List Val)
  | [] => some []
  | e :: l => match e.val m with | none => none | some v => match exVals m l with | none => none | some vs => some (v :: vs)
end
end Go.Proofs.YtiomojlcnemnhaaDoor

/- Contracts, on: the value of an expression under any list of binds. -/
namespace Go.Proofs.YtiomojlcnemnhaaDoor
open Go.Fx Go.RowKit Go.Ped
variable {G : World → Prop}

end Go.Proofs.YtiomojlcnemnhaaDoor

/- Contracts, on: Eval. -/
namespace Go.Proofs.YtiomojlcnemnhaaDoor
open Go.Fx Go.RowKit Go.Ped
variable {G : World → Prop}

end Go.Proofs.YtiomojlcnemnhaaDoor
