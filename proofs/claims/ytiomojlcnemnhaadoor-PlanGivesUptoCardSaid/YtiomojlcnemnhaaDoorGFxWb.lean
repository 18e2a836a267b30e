import Derived.Test.YtiomojlcnemnhaaDoorGFxV
import Derived.IntWalk
namespace Go.Fx
open Go.RowKit
attribute [simp] e_skip e_exit e_ret e_seq e_block e_cond e_region strike_st strikeO strikeU put_st put_st0 setObj_st setTok_st ret_one ret_cell ret_two ret_nil resO closeLL freeze_nil F0_ext promote_st FHp.objs_near FHp.toks_near
attribute [simp] r_build r_load r_faddr r_field r_iaddr r_sindex r_bin r_eqs r_eqb r_un r_conv r_bytes r_len r_slen r_ssl r_vsl r_ext r_move r_pick r_box r_zero r_store r_mkmap r_mapup r_mlook g_mlook r_clo g_clo r_mki g_mki r_asrt g_asrt r_nilchk r_gidx g_nilchk mlookO formX MapKept.IsKey
attribute [simp] g_build g_load g_faddr g_field g_iaddr g_sindex g_bin g_eqs g_eqb g_un g_conv g_bytes g_len g_slen g_ssl g_vsl g_ext g_move guardO_look
attribute [simp] pureO binO eqbO eqV eqRows eqsO unO convO slenO lenO bytesO iaddrO sindexO faddrO partO fieldO splice X.cells R.cells fillO intD sslO vslO extO loadO onesO cloO mkiO asrtO nilchkO gidxO A.strike strikeL X.strike R.strike T.strike A.rows? R.rows? R.key?
attribute [simp] A.close closeL X.close T.close R.close closeArgs CX.open CR.open closeRs
abbrev tI (k : IntKind) (n : Int) : T := .k true (rI k n)
abbrev tB (b : Bool) : T := .k true (rB b)
abbrev tS (l : List UInt8) : T := .k true (rS (bs l))
abbrev tL (es : List (List C)) : T := .k true (.x (.one (.c (.sl es []))))
abbrev cI (k : IntKind) (n : Int) : C := .v (.int k n)
abbrev cB (n : Bool) : C := .v (.bool n)
abbrev cS (n : ByteArray) : C := .v (.string n)
@[simp] theorem bs_size (l : List UInt8) : (bs l).size = l.length := rfl
@[simp] theorem bs_data (l : List UInt8) : (bs l).data = l.toArray := rfl
@[simp] theorem bs_inj (l m : List UInt8) : bs l = bs m ↔ l = m := by
  constructor
  · intro h; exact congrArg (fun s : ByteArray => s.data.toList) h
  · intro h; rw [h]
@[simp] theorem bs_beq (l m : List UInt8) : (bs l == bs m) = (l == m) := by
  have h : (bs l == bs m) = (l.toArray == m.toArray) := rfl
  rw [h]; simp
@[simp] theorem bs_append (l m : List UInt8) : bs l ++ bs m = bs (l ++ m) := by
  apply ByteArray.ext
  simp
theorem at_list {α : Type} {l : List α} {i : Nat} (h : i < l.length) : ∃ c, l[i]? = some c ∧ l.drop i = c :: l.drop (i + 1) := ⟨l[i], List.getElem?_eq_getElem h, List.drop_eq_getElem_cons h⟩
theorem wrap_next {i n : Nat} (h : i < n) (hn : n ≤ 9223372036854775807) : IntKind.i64.wrap ((i : Int) + 1) = ((i + 1 : Nat) : Int) := by
  rw [Go.IntWalk.i64_in _ (by omega)]; rfl
end Go.Fx

namespace Go.Fx
open Go.RowKit
def mfF (k : Nat) : Nat := if 10000 ≤ k ∧ k < 15000 then k + 5000 else if 15000 ≤ k ∧ k < 20000 then k - 5000 else k
def nfF (k : Nat) : Nat := if k < 5000 then k + 15000 else if 15000 ≤ k ∧ k < 20000 then k - 15000 else k
def nmF (k : Nat) : Nat := if k < 5000 then k + 10000 else if 10000 ≤ k ∧ k < 15000 then k - 10000 else k
theorem mfF_mfF (k : Nat) : mfF (mfF k) = k := by unfold mfF; split <;> (try split) <;> (try split) <;> (try split) <;> omega
theorem nfF_nfF (k : Nat) : nfF (nfF k) = k := by unfold nfF; split <;> (try split) <;> (try split) <;> (try split) <;> omega
theorem nmF_nmF (k : Nat) : nmF (nmF k) = k := by unfold nmF; split <;> (try split) <;> (try split) <;> (try split) <;> omega
def midFar : Ren := ⟨mfF, mfF, mfF_mfF, mfF_mfF⟩
def nearFar : Ren := ⟨nfF, nfF, nfF_nfF, nfF_nfF⟩
def nearMid : Ren := ⟨nmF, nmF, nmF_nmF, nmF_nmF⟩
@[simp] theorem midFar_f : midFar.f = mfF := rfl
@[simp] theorem nearFar_f : nearFar.f = nfF := rfl
@[simp] theorem nearMid_f : nearMid.f = nmF := rfl
section
variable {P : Program} {G : World → Prop} {L : List (Nat × T)} {O : List (Nat × Box)} {U : List (Nat × Tok)}
theorem lookO_ren (π : Ren) : ∀ (O : List (Nat × Box)) (k : Nat), lookO (O.map fun p => (π.f p.1, p.2.ren π.f)) k = (lookO O (π.g k)).map (Box.ren π.f)
  | [], _ => rfl
  | (d, b) :: O, k => by
    simp only [List.map_cons, lookO_cons, lookO_ren π O k]
    by_cases h : k = π.f d
    · subst h; rw [if_pos rfl, π.gf, if_pos rfl]; rfl
    · rw [if_neg h, if_neg (fun e => h (by rw [← e, π.fg]))]
theorem lookT_ren (π : Ren) : ∀ (O : List (Nat × Tok)) (k : Nat), lookT (O.map fun p => (π.f p.1, p.2)) k = lookT O (π.g k)
  | [], _ => rfl
  | (d, b) :: O, k => by
    simp only [List.map_cons, lookT_cons, lookT_ren π O k]
    by_cases h : k = π.f d
    · subst h; rw [if_pos rfl, π.gf, if_pos rfl]
    · rw [if_neg h, if_neg (fun e => h (by rw [← e, π.fg]))]
theorem hp_ren (π : Ren) (O : List (Nat × Box)) (U : List (Nat × Tok)) : (hp O U F0).ren π = hp (O.map fun p => (π.f p.1, p.2.ren π.f)) (U.map fun p => (π.f p.1, p.2)) F0 := by
  unfold Hp.ren hp
  simp only [Hp.mk.injEq, and_true]
  refine ⟨funext fun k => ?_, funext fun k => ?_⟩
  · rw [lookO_ren]
    show ((lookO O (π.g k)).or none).map _ = ((lookO O (π.g k)).map _).or none
    simp
  · rw [lookT_ren]; rfl
def FHp.of (O : List (Nat × Box)) (U : List (Nat × Tok)) (hO : ∀ p ∈ O, farKey p.1 ∧ ∀ r ∈ p.2.rows, onlyL farKey (fun k => lookT U k ≠ none) r) (hU : ∀ p ∈ U, farKey p.1) : FHp :=
  ⟨⟨lookO O, lookT U, XP.emp⟩, fun k h => by
    rcases h with h | h
    · cases hb : lookO O k with
      | none => exact absurd hb h
      | some b => exact (hO _ (lookO_mem hb)).1
    · cases hb : lookT U k with
      | none => exact absurd hb h
      | some b => exact hU _ (lookT_mem hb), fun k b hb r hr => (hO _ (lookO_mem hb)).2 r hr⟩
theorem hp_of {hO : ∀ p ∈ O, farKey p.1 ∧ ∀ r ∈ p.2.rows, onlyL farKey (fun k => lookT U k ≠ none) r} {hU : ∀ p ∈ U, farKey p.1} : hp [] [] (FHp.of O U hO hU) = hp O U F0 := by
  unfold hp FHp.of
  simp only [lookO_nil, lookT_nil, Option.none_or, Hp.mk.injEq]
  exact ⟨funext fun k => by show _ = (lookO O k).or none; simp, funext fun k => by show _ = (lookT U k).or none; simp, rfl⟩
theorem renL_c (r : Nat → Nat) (l : List C) : renL r (l.map A.c) = l.map A.c := by
  rw [renL_map, List.map_map]; exact List.map_congr_left fun _ _ => rfl
theorem strikeL_c (ks : List Nat) (l : List C) : strikeL ks (l.map A.c) = l.map A.c := by
  rw [strikeL_map, List.map_map]; exact List.map_congr_left fun _ _ => rfl
theorem freezeL_c (B : Nat → Option (List (List C))) (l : List C) : freezeL B (l.map A.c) = l.map A.c := by
  rw [freezeL_map, List.map_map]; exact List.map_congr_left fun _ _ => rfl
theorem onlyL_c {p q : Nat → Prop} (l : List C) : onlyL p q (l.map A.c) := onlyL_iff.2 fun a ha => by obtain ⟨c, _, rfl⟩ := List.mem_map.1 ha; trivial
theorem closeL_c : ∀ (l : List C), closeL (l.map A.c) = some l
  | [] => rfl
  | c :: l => by simp only [List.map_cons, closeL, A.close, closeL_c l]
theorem closeLL_c : ∀ (l : List (List C)), closeLL (l.map fun r => r.map A.c) = some l
  | [] => rfl
  | r :: l => by simp only [List.map_cons, closeLL, closeL_c, closeLL_c l]
theorem A.fits_refl (a : A) : a.fits a := by
  cases a <;> first | rfl | trivial
theorem fitsL_refl : ∀ (l : List A), fitsL l l
  | [] => trivial
  | a :: l => ⟨A.fits_refl a, fitsL_refl l⟩
theorem X.fits_refl (x : X) : x.fits x := by
  cases x with
  | one a => exact A.fits_refl a
  | agg l => exact fitsL_refl l
attribute [simp] A.fits_refl fitsL_refl X.fits_refl fitsR fitRes
attribute [simp] A.ren renL X.ren R.ren Box.ren renL_c strikeL_c freezeL_c onlyL_c closeL_c closeLL_c hp_ren A.only onlyL X.only R.only
attribute [simp] A.freeze freezeL X.freeze R.freeze T.freeze
theorem r_call0 {H : FHp} {l : List IOper} {K : S → Prop} {d : Nat} {f : D} {args : List D} {gd : Option (Nat × Bool)} {fv : A} {xs : List X} {res : R} (hm : MeetsV P G fv xs (hp [] [] H) res (hp [] [] H))
    (hg : guardO (st L O U H) gd = some true) (hf : f.val (st L O U H) = .k true (.x (.one fv))) (ha : (args.all fun d => (d.val (st L O U H)).g) = true) (hx : fitsR (args.map fun d => (d.val (st L O U H)).r) xs)
    (hO : ∀ p ∈ O, p.1 < 15000) (hU : ∀ p ∈ U, p.1 < 15000) (h : runK P G l (st ((d, .k true res) :: L) O U H) K) : runK P G (⟨some d, .call f args, gd, none⟩ :: l) (st L O U H) K :=
  r_callV fv xs [] [] res [] [] H hm hg hf ha hx (fun _ h => by cases h) (fun _ h => by cases h) hO hU (fun _ h => by cases h) (fun _ h => by cases h) (fun _ h => by cases h) (fun _ h => by cases h) (sameKeys_refl H) rfl h
theorem clo_of {f : FuncId} {fs cs : List A} {args : List X} {h : Hp} {res : R} {h' : Hp} {as : List X} (e : fs.map X.one ++ args ++ cs.map X.one = as) (hm : MeetsH P G f as h res h') : MeetsV P G (.clo f fs cs) args h res h' := MeetsV.of_clo (e ▸ hm)
theorem plainV {f : FuncId} {cs : List CX} {res : CR} (hm : Meets P G f cs res) (H : FHp) : MeetsV P G (fnA f) (cs.map CX.open) (hp [] [] H) res.open (hp [] [] H) :=
  MeetsV.of_fun (MeetsH.of_plain hm (by rw [hp_far]; exact fun k b hb r hr => onlyL_mono (fun _ _ => trivial) (fun _ h => h) (H.names k b hb r hr)))
end
end Go.Fx

namespace Go.Fx
open Go.RowKit
def FX (E : XP) : FHp := ⟨⟨fun _ => none, fun _ => none, E⟩, fun _ h => h.elim (fun h => absurd rfl h) fun h => absurd rfl h, fun _ _ h => by cases h⟩
@[simp] theorem FX_ext (E : XP) : (FX E).ext = E := rfl
@[simp] theorem FX_objs (E : XP) (k : Nat) : (FX E).objs k = none := rfl
@[simp] theorem FX_toks (E : XP) (k : Nat) : (FX E).toks k = none := rfl
section
variable {P : Program} {G : World → Prop} {L : List (Nat × T)} {O : List (Nat × Box)} {U : List (Nat × Tok)} {Q : Exit → S → Prop}
theorem ext_st {H : FHp} (E : XP) (h : H.objs = fun _ => none) (h' : H.toks = fun _ => none) : { st L O U H with ext := E } = st L O U (FX E) := by
  unfold st
  simp only [S.mk.injEq, true_and, and_true]
  exact ⟨funext fun k => by rw [h]; rfl, funext fun k => by rw [h']; rfl, rfl⟩
def roundL (ks : List Nat) (zs : List A) (ps : List Nat) (args : List X) : List (Nat × T) := (ps.zip args).foldl (fun L p => (p.1, .k true (.x p.2)) :: L) ((ks.zip zs).map fun p => (p.1, .k true (.x (.one p.2))))
theorem look_zip (t : Nat) : ∀ (l : List (Nat × A)), look (l.map fun p => (p.1, T.k true (.x (.one p.2)))) t = match l.find? (·.1 == t) with | some p => .k true (.x (.one p.2)) | none => .lost
  | [] => rfl
  | p :: l => by
    simp only [List.map_cons, look_cons, List.find?_cons]
    by_cases h : t = p.1
    · rw [if_pos h, show (p.1 == t) = true by simp [h]]
    · rw [if_neg h, show (p.1 == t) = false by simp [Ne.symm h]]; exact look_zip t l
theorem fold_st {H : FHp} : ∀ (l : List (Nat × X)) (L : List (Nat × T)), l.foldl (fun σ p => σ.put (some p.1) (.k true (.x p.2))) (st L O U H) = st (l.foldl (fun L p => (p.1, .k true (.x p.2)) :: L) L) O U H
  | [], _ => rfl
  | p :: l, L => by simp only [List.foldl_cons, put_st]; exact fold_st l _
theorem round_st (ks : List Nat) (zs : List A) (ps : List Nat) (args : List X) (E B : XP) : S.round ks zs ps args (hp O U (FX E)) B = st (roundL ks zs ps args) O U (FX B) := by
  unfold S.round roundL
  rw [← fold_st]
  congr 1
  unfold st hp
  simp only [S.mk.injEq, and_true]
  exact ⟨funext fun t => (look_zip t _).symm, rfl, rfl, rfl⟩
def roundQ (O2 : List (Nat × Box)) (U2 : List (Nat × Tok)) (B : XP) (e : Exit) (e' : Exit) (σ : S) : Prop := e' = e ∧ ∃ ks L O U, σ.freeze ks = st L O U (FX B) ∧ (∀ p ∈ O2, lookO O p.1 = some p.2) ∧ ∀ p ∈ U2, lookT U p.1 = some p.2
theorem roundQ_mk {O2 : List (Nat × Box)} {U2 : List (Nat × Tok)} {B : XP} {e : Exit} (h1 : ∀ p ∈ O2, lookO O p.1 = some p.2) (h2 : ∀ p ∈ U2, lookT U p.1 = some p.2) : roundQ O2 U2 B e e (st L O U (FX B)) :=
  ⟨rfl, [], L, O, U, freeze_nil, h1, h2⟩
def roundA (P : Program) (G : World → Prop) (b : IC) (O2 : List (Nat × Box)) (U2 : List (Nat × Tok)) (E B : XP) (e : Exit) (e1 : Exit) (σ1 : S) : Prop := e1 = .normal ∧ ∃ L O U, σ1 = st L O U (FX E) ∧ wpI P G b (roundQ O2 U2 B e) (st L O U (FX B))
theorem roundA_mk {b : IC} {O2 : List (Nat × Box)} {U2 : List (Nat × Tok)} {E B : XP} {e : Exit} (h : wpI P G b (roundQ O2 U2 B e) (st L O U (FX B))) : roundA P G b O2 U2 E B e .normal (st L O U (FX E)) := ⟨rfl, L, O, U, rfl, h⟩
structure RndL (zs : List A) (args : List X) (O1 : List (Nat × Box)) (U1 : List (Nat × Tok)) (O2 : List (Nat × Box)) (U2 : List (Nat × Tok)) : Prop where
  O : ∀ p ∈ O1, midKey p.1 ∧ ∀ r ∈ p.2.rows, onlyL (fun k => ¬ ownKey k) (fun k => lookT U1 k ≠ none) r
  U : ∀ p ∈ U1, midKey p.1
  args : ∀ x ∈ args, x.only (fun k => ¬ ownKey k) (fun k => lookT U1 k ≠ none)
  zs : onlyL (fun k => ¬ ownKey k) (fun k => lookT U1 k ≠ none) zs
  keyO : ∀ p ∈ O1, lookO O2 p.1 ≠ none
  keyT : ∀ p ∈ U1, lookT U2 p.1 ≠ none
  O' : ∀ p ∈ O2, ∀ r ∈ p.2.rows, onlyL (fun k => ¬ ownKey k ∨ lookO O2 k ≠ none) (fun k => lookT U2 k ≠ none) r
theorem hp_objs_FX (E : XP) (k : Nat) : (hp O U (FX E)).objs k = lookO O k := by simp [hp]
theorem hp_toks_FX (E : XP) (k : Nat) : (hp O U (FX E)).toks k = lookT U k := by simp [hp]
theorem RndL.rnd {zs : List A} {args : List X} {O1 : List (Nat × Box)} {U1 : List (Nat × Tok)} {O2 : List (Nat × Box)} {U2 : List (Nat × Tok)} (h : RndL zs args O1 U1 O2 U2) (E E' : XP) : Rnd zs args (hp O1 U1 (FX E)) (hp O2 U2 (FX E')) := by
  have e1 : ∀ k, (hp O1 U1 (FX E)).objs k = lookO O1 k := hp_objs_FX E
  have e2 : ∀ k, (hp O1 U1 (FX E)).toks k = lookT U1 k := hp_toks_FX E
  have e3 : ∀ k, (hp O2 U2 (FX E')).objs k = lookO O2 k := hp_objs_FX E'
  have e4 : ∀ k, (hp O2 U2 (FX E')).toks k = lookT U2 k := hp_toks_FX E'
  exact {
    own := fun k hk => ⟨by
        rw [e1]
        cases hb : lookO O1 k with
        | none => rfl
        | some b => exact absurd hk (mid_not (h.O _ (lookO_mem hb)).1), by
        rw [e2]
        cases hb : lookT U1 k with
        | none => rfl
        | some b => exact absurd hk (mid_not (h.U _ (lookT_mem hb)))⟩
    only := fun k b hk r hr => by
      rw [e1] at hk
      simp only [e2]
      exact (h.O _ (lookO_mem hk)).2 r hr
    args := fun x hx => by simp only [e2]; exact h.args x hx
    zs := by simp only [e2]; exact h.zs
    keyO := fun k hk => by
      rw [e1] at hk; rw [e3]
      cases hb : lookO O1 k with
      | none => exact absurd hb hk
      | some b => exact h.keyO _ (lookO_mem hb)
    keyT := fun k hk => by
      rw [e2] at hk; rw [e4]
      cases hb : lookT U1 k with
      | none => exact absurd hb hk
      | some b => exact h.keyT _ (lookT_mem hb)
    only' := fun k b hk r hr => by
      rw [e3] at hk
      simp only [e3, e4]
      exact h.O' _ (lookO_mem hk) r hr }
theorem w_rangeF {g : D} {ps : List Nat} {a b : IC} {gv : A} (ks : List Nat) (xs : List A) (hg : g.val (st L O U F0) = .k true (.x (.one gv))) (hfn : gv.isFn) (htm : ks.map (look L) = xs.map (fun x => T.k true (.x (.one x))))
    (h : ∀ (l : Nat) (ta : Array Value) (E : Exit → XP) (B : XP) (m : Nat), (∀ e, (E e).mark = some m) → B.mark = some m →
      (∀ (zs : List A) (args : List X) (O1 : List (Nat × Box)) (U1 : List (Nat × Tok)) (O2 : List (Nat × Box)) (U2 : List (Nat × Tok)) (e : Exit), zs.length = ks.length → args.length = ps.length → RoundExit e → RndL zs args O1 U1 O2 U2 →
        wpI P G a (roundA P G b O2 U2 (E .normal) B e) (st (roundL ks zs ps args) O1 U1 (FX (E .normal))) → MeetsV P G (.yld l ta ks zs) args (hp O1 U1 (FX (E .normal))) (rB (goesOn e)) (hp O2 U2 (FX (E e)))) →
      ∃ (O1 : List (Nat × Box)) (U1 : List (Nat × Tok)) (O2 : List (Nat × Box)) (U2 : List (Nat × Tok)) (res : R) (e : Exit), MeetsV P G gv [.one (.yld l ta ks xs)] (hp O1 U1 (FX (E .normal))) res (hp O2 U2 (FX (E e))) ∧
        ((∀ p ∈ O1, lookO O p.1 = some p.2 ∧ p.1 < 15000) ∧ (∀ p ∈ U1, lookT U p.1 = some p.2 ∧ p.1 < 15000) ∧ (∀ p ∈ O1, lookO O2 p.1 ≠ none) ∧ (∀ p ∈ U1, lookT U2 p.1 ≠ none) ∧
          (∀ p ∈ O2, lookO O1 p.1 = none → lookO O p.1 = none ∧ p.1 < 10000) ∧ (∀ p ∈ U2, lookT U1 p.1 = none → lookT U p.1 = none ∧ p.1 < 10000)) ∧ RoundExit e ∧ ∀ X : XP, X.mark = some m → Q e (st L (updsO O2 O) (updsT U2 U) (FX X)))
    (hO : ∀ p ∈ O, p.1 < 15000) (hU : ∀ p ∈ U, p.1 < 15000) : wpI P G (.rangeF g ps a b) Q (st L O U F0) := by
  refine ⟨rfl, gv, ks, xs, hg, hfn, htm, fun l ta E B m hE hB hb => ?_⟩
  obtain ⟨O1, U1, O2, U2, res, e, hm, ⟨h1, h2, h3, h4, h5, h6⟩, he, hq⟩ := h l ta E B m hE hB fun zs args O1 U1 O2 U2 e q1 q2 q3 q4 q5 => by
    refine hb zs args _ _ e q1 q2 q3 rfl rfl (q4.rnd _ _) ?_
    rw [round_st]
    refine wpI_mono (fun e1 σ1 hq1 => ?_) q5
    obtain ⟨rfl, L1, O1', U1', rfl, hq1⟩ := hq1
    refine ⟨rfl, rfl, ?_⟩
    rw [ext_st B rfl rfl]
    refine wpI_mono (fun e' σ' hq => ?_) hq1
    obtain ⟨rfl, kk, L', O', U', g1, g2, g3⟩ := hq
    refine ⟨rfl, st L' O' U' (FX B), g1 ▸ .freeze kk σ', fun k b hk => ?_, fun k t hk => ?_, rfl⟩
    · rw [hp_objs_FX] at hk
      simp only [st_objs, FX_objs, Option.or_none]
      exact g2 _ (lookO_mem hk)
    · rw [hp_toks_FX] at hk
      simp only [st_toks, FX_toks, Option.or_none]
      exact g3 _ (lookT_mem hk)
  have e0 : { st L O U F0 with ext := E .normal } = st L O U (FX (E .normal)) := ext_st _ rfl rfl
  refine ⟨_, _, res, e, hm, ?_, rfl, he, fun X hX => ?_⟩
  · rw [e0]
    exact lends_st h1 h2 hO hU h3 h4 h5 h6 (fun k hk => absurd rfl hk) (fun k hk => absurd rfl hk) (fun k hk => absurd rfl hk) (fun k hk => absurd rfl hk) ((hE e).trans (hE .normal).symm)
  · rw [e0, over_st hO hU (fun k hk => absurd rfl hk) (fun k hk => absurd rfl hk)]
    have := hq X hX
    rwa [ext_st X rfl rfl]
end
end Go.Fx
