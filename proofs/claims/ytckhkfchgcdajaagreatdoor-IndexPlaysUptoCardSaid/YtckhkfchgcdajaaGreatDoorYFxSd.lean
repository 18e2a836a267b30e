import Derived.Test.YtckhkfchgcdajaaGreatDoorYFxV
import Derived.IntWalk
namespace Go.Fx
open Go.RowKit
attribute [simp] e_skip e_exit e_ret e_seq e_block e_cond e_region strike_st strikeO strikeU put_st put_st0 setObj_st setTok_st ret_one ret_cell ret_two ret_nil resO closeLL freeze_nil F0_ext promote_st FHp.objs_near FHp.toks_near
attribute [simp] r_build r_load r_faddr r_field r_iaddr r_sindex r_bin r_eqs r_eqb r_un r_conv r_bytes r_len r_slen r_ssl r_vsl r_ext r_move r_pick r_box r_zero r_store r_mkmap r_mapup r_mlook g_mlook r_clo g_clo r_mki g_mki r_asrt g_asrt r_nilchk r_gidx g_nilchk mlookO formX MapKept.IsKey
attribute [simp] g_build g_load g_faddr g_field g_iaddr g_sindex g_bin g_eqs g_eqb g_un g_conv g_bytes g_len g_slen g_ssl g_vsl g_ext g_move guardO_look
attribute [simp] pureO binO eqbO eqV eqRows eqsO unO convO slenO lenO bytesO iaddrO sindexO faddrO partO fieldO splice X.cells R.cells fillO intD sslO vslO extO loadO onesO cloO mkiO asrtO nilchkO gidxO A.strike strikeL X.strike R.strike T.strike A.rows? R.rows? R.key?
attribute [simp] A.close closeL X.close T.close R.close closeArgs CX.open CR.open closeRs
abbrev cI (k : IntKind) (n : Int) : C := .v (.int k n)
abbrev cB (n : Bool) : C := .v (.bool n)
@[simp] theorem bs_size (l : List UInt8) : (bs l).size = l.length := rfl
@[simp] theorem bs_data (l : List UInt8) : (bs l).data = l.toArray := rfl
@[simp] theorem bs_inj (l m : List UInt8) : bs l = bs m ↔ l = m := by
  constructor
  · intro h; exact congrArg (fun s : ByteArray => s.data.toList) h
  · intro h; rw [h]
@[simp] theorem bs_beq (l m : List UInt8) : (bs l == bs m) = (l == m) := by
  have h : (bs l == bs m) = (l.toArray == m.toArray) := rfl
  rw [h]; simp
@[simp] theorem bs_append (l m : List UInt8) : bs l ++ bs m = bs (l ++ m) := by
  apply ByteArray.ext
  simp
end Go.Fx

namespace Go.Fx
open Go.RowKit
def mfF (k : Nat) : Nat := if 10000 ≤ k ∧ k < 15000 then k + 5000 else if 15000 ≤ k ∧ k < 20000 then k - 5000 else k
def nfF (k : Nat) : Nat := if k < 5000 then k + 15000 else if 15000 ≤ k ∧ k < 20000 then k - 15000 else k
def nmF (k : Nat) : Nat := if k < 5000 then k + 10000 else if 10000 ≤ k ∧ k < 15000 then k - 10000 else k
theorem mfF_mfF (k : Nat) : mfF (mfF k) = k := by unfold mfF; split <;> (try split) <;> (try split) <;> (try split) <;> omega
theorem nfF_nfF (k : Nat) : nfF (nfF k) = k := by unfold nfF; split <;> (try split) <;> (try split) <;> (try split) <;> omega
theorem nmF_nmF (k : Nat) : nmF (nmF k) = k := by unfold nmF; split <;> (try split) <;> (try split) <;> (try split) <;> omega
def midFar : Ren := ⟨mfF, mfF, mfF_mfF, mfF_mfF⟩
def nearFar : Ren := ⟨nfF, nfF, nfF_nfF, nfF_nfF⟩
def nearMid : Ren := ⟨nmF, nmF, nmF_nmF, nmF_nmF⟩
@[simp] theorem midFar_f : midFar.f = mfF := rfl
@[simp] theorem nearFar_f : nearFar.f = nfF := rfl
@[simp] theorem nearMid_f : nearMid.f = nmF := rfl
section
variable {P : Program} {G : World → Prop} {L : List (Nat × T)} {O : List (Nat × Box)} {U : List (Nat × Tok)}
theorem lookO_ren (π : Ren) : ∀ (O : List (Nat × Box)) (k : Nat), lookO (O.map fun p => (π.f p.1, p.2.ren π.f)) k = (lookO O (π.g k)).map (Box.ren π.f)
  | [], _ => rfl
  | (d, b) :: O, k => by
    simp only [List.map_cons, lookO_cons, lookO_ren π O k]
    by_cases h : k = π.f d
    · subst h; rw [if_pos rfl, π.gf, if_pos rfl]; rfl
    · rw [if_neg h, if_neg (fun e => h (by rw [← e, π.fg]))]
theorem lookT_ren (π : Ren) : ∀ (O : List (Nat × Tok)) (k : Nat), lookT (O.map fun p => (π.f p.1, p.2)) k = lookT O (π.g k)
  | [], _ => rfl
  | (d, b) :: O, k => by
    simp only [List.map_cons, lookT_cons, lookT_ren π O k]
    by_cases h : k = π.f d
    · subst h; rw [if_pos rfl, π.gf, if_pos rfl]
    · rw [if_neg h, if_neg (fun e => h (by rw [← e, π.fg]))]
theorem hp_ren (π : Ren) (O : List (Nat × Box)) (U : List (Nat × Tok)) : (hp O U F0).ren π = hp (O.map fun p => (π.f p.1, p.2.ren π.f)) (U.map fun p => (π.f p.1, p.2)) F0 := by
  unfold Hp.ren hp
  simp only [Hp.mk.injEq, and_true]
  refine ⟨funext fun k => ?_, funext fun k => ?_⟩
  · rw [lookO_ren]
    show ((lookO O (π.g k)).or none).map _ = ((lookO O (π.g k)).map _).or none
    simp
  · rw [lookT_ren]; rfl
def FHp.of (O : List (Nat × Box)) (U : List (Nat × Tok)) (hO : ∀ p ∈ O, farKey p.1 ∧ ∀ r ∈ p.2.rows, onlyL farKey (fun k => lookT U k ≠ none) r) (hU : ∀ p ∈ U, farKey p.1) : FHp :=
  ⟨⟨lookO O, lookT U, XP.emp⟩, fun k h => by
    rcases h with h | h
    · cases hb : lookO O k with
      | none => exact absurd hb h
      | some b => exact (hO _ (lookO_mem hb)).1
    · cases hb : lookT U k with
      | none => exact absurd hb h
      | some b => exact hU _ (lookT_mem hb), fun k b hb r hr => (hO _ (lookO_mem hb)).2 r hr⟩
theorem renL_c (r : Nat → Nat) (l : List C) : renL r (l.map A.c) = l.map A.c := by
  rw [renL_map, List.map_map]; exact List.map_congr_left fun _ _ => rfl
theorem strikeL_c (ks : List Nat) (l : List C) : strikeL ks (l.map A.c) = l.map A.c := by
  rw [strikeL_map, List.map_map]; exact List.map_congr_left fun _ _ => rfl
theorem freezeL_c (B : Nat → Option (List (List C))) (l : List C) : freezeL B (l.map A.c) = l.map A.c := by
  rw [freezeL_map, List.map_map]; exact List.map_congr_left fun _ _ => rfl
theorem onlyL_c {p q : Nat → Prop} (l : List C) : onlyL p q (l.map A.c) := onlyL_iff.2 fun a ha => by obtain ⟨c, _, rfl⟩ := List.mem_map.1 ha; trivial
theorem closeL_c : ∀ (l : List C), closeL (l.map A.c) = some l
  | [] => rfl
  | c :: l => by simp only [List.map_cons, closeL, A.close, closeL_c l]
theorem closeLL_c : ∀ (l : List (List C)), closeLL (l.map fun r => r.map A.c) = some l
  | [] => rfl
  | r :: l => by simp only [List.map_cons, closeLL, closeL_c, closeLL_c l]
theorem A.fits_refl (a : A) : a.fits a := by
  cases a <;> first | rfl | trivial
theorem fitsL_refl : ∀ (l : List A), fitsL l l
  | [] => trivial
  | a :: l => ⟨A.fits_refl a, fitsL_refl l⟩
theorem X.fits_refl (x : X) : x.fits x := by
  cases x with
  | one a => exact A.fits_refl a
  | agg l => exact fitsL_refl l
attribute [simp] A.fits_refl fitsL_refl X.fits_refl fitsR fitRes
attribute [simp] A.ren renL X.ren R.ren Box.ren renL_c strikeL_c freezeL_c onlyL_c closeL_c closeLL_c hp_ren A.only onlyL X.only R.only
attribute [simp] A.freeze freezeL X.freeze R.freeze T.freeze
end
end Go.Fx

namespace Go.Fx
open Go.RowKit
def FX (E : XP) : FHp := ⟨⟨fun _ => none, fun _ => none, E⟩, fun _ h => h.elim (fun h => absurd rfl h) fun h => absurd rfl h, fun _ _ h => by cases h⟩
@[simp] theorem FX_ext (E : XP) : (FX E).ext = E := rfl
@[simp] theorem FX_objs (E : XP) (k : Nat) : (FX E).objs k = none := rfl
@[simp] theorem FX_toks (E : XP) (k : Nat) : (FX E).toks k = none := rfl
section
variable {P : Program} {G : World → Prop} {L : List (Nat × T)} {O : List (Nat × Box)} {U : List (Nat × Tok)} {Q : Exit → S → Prop}
end
end Go.Fx

namespace Go.Fx
open Go.RowKit
section
variable {P : Program} {G : World → Prop} {α : Type} [DecidableEq α] {s : Nat} {ks : List Kd}
end
end Go.Fx

namespace Go.Fx
open Go.RowKit
section
variable {P : Program} {G : World → Prop} {α : Type} {s : Nat} {ks : List Kd}
end
end Go.Fx

namespace Go.Fx
open Go.RowKit
section
variable {P : Program} {G : World → Prop} {L : List (Nat × T)} {O : List (Nat × Box)} {U : List (Nat × Tok)} {H : FHp} {l : List IOper} {K : S → Prop} {d : Nat}
def AccS (k j : Nat) (ty : TypeId) (size : Nat) (es : List (List C)) (a : A) (U : List (Nat × Tok)) : Prop :=
  (es = [] ∧ a = .nil ∧ U = []) ∨ (a = .own k es ∧ U = [(k, ⟨ty, size, es.length⟩), (j, ⟨ty, size, 1⟩)]) ∨ (a = .own k es ∧ U = [(j, ⟨ty, size, 1⟩), (k, ⟨ty, size, es.length⟩)])
theorem AccS.nil {k j size : Nat} {ty : TypeId} : AccS k j ty size [] .nil [] := .inl ⟨rfl, rfl, rfl⟩
theorem AccS.own {k j size : Nat} {ty : TypeId} {es : List (List C)} {n : Nat} (h : n = es.length) : AccS k j ty size es (.own k es) [(k, ⟨ty, size, n⟩), (j, ⟨ty, size, 1⟩)] := .inr (.inl ⟨rfl, by rw [h]⟩)
theorem AccS.close {k j size : Nat} {ty : TypeId} {es : List (List C)} {t : A} {U : List (Nat × Tok)} (h : AccS k j ty size es t U) : t.close = some (.sl es []) := by
  rcases h with ⟨rfl, rfl, rfl⟩ | ⟨rfl, rfl⟩ | ⟨rfl, rfl⟩ <;> rfl
theorem AccS.args {k j size : Nat} {ty : TypeId} {es : List (List C)} {t : A} {U : List (Nat × Tok)} (h : AccS k j ty size es t U) : (X.one t).close = some (.one (.sl es [])) := by
  simp only [X.close, h.close, Option.map_some]
theorem AccS.strike {k j size : Nat} {ty : TypeId} {es : List (List C)} {t : A} {U : List (Nat × Tok)} (h : AccS k j ty size es t U) {l : Nat} (hl : l ≠ k) : A.strike [l] t = t := by
  rcases h with ⟨rfl, rfl, rfl⟩ | ⟨rfl, rfl⟩ | ⟨rfl, rfl⟩
  · rfl
  all_goals simp [Ne.symm hl]
theorem AccS.strikeU {k j size : Nat} {ty : TypeId} {es : List (List C)} {t : A} {U : List (Nat × Tok)} (h : AccS k j ty size es t U) {l : Nat} (hl : l ≠ k) (hj : l ≠ j) : strikeU [l] U = U := by
  rcases h with ⟨rfl, rfl, rfl⟩ | ⟨rfl, rfl⟩ | ⟨rfl, rfl⟩
  · rfl
  all_goals simp [Ne.symm hl, Ne.symm hj]
end
end Go.Fx

namespace Go.Fx
open Go.RowKit
section
def AccN (k : Nat) (ty : TypeId) (size : Nat) (es : List (List C)) (a : A) (U : List (Nat × Tok)) : Prop :=
  (es = [] ∧ a = .nil ∧ U = []) ∨ (a = .own k es ∧ U = [(k, ⟨ty, size, es.length⟩)])
theorem AccN.nil {k size : Nat} {ty : TypeId} : AccN k ty size [] .nil [] := .inl ⟨rfl, rfl, rfl⟩
theorem AccN.own {k size : Nat} {ty : TypeId} {es : List (List C)} {n : Nat} (h : n = es.length) : AccN k ty size es (.own k es) [(k, ⟨ty, size, n⟩)] := .inr ⟨rfl, by rw [h]⟩
theorem AccN.args {k size : Nat} {ty : TypeId} {es : List (List C)} {t : A} {U : List (Nat × Tok)} (h : AccN k ty size es t U) : (X.one t).close = some (.one (.sl es [])) := by
  rcases h with ⟨rfl, rfl, rfl⟩ | ⟨rfl, rfl⟩ <;> rfl
theorem AccN.strike {k size : Nat} {ty : TypeId} {es : List (List C)} {t : A} {U : List (Nat × Tok)} (h : AccN k ty size es t U) {l : Nat} (hl : l ≠ k) : A.strike [l] t = t := by
  rcases h with ⟨rfl, rfl, rfl⟩ | ⟨rfl, rfl⟩
  · rfl
  · simp [Ne.symm hl]
theorem AccN.strikeU {k size : Nat} {ty : TypeId} {es : List (List C)} {t : A} {U : List (Nat × Tok)} (h : AccN k ty size es t U) {l : Nat} (hl : l ≠ k) : strikeU [l] U = U := by
  rcases h with ⟨rfl, rfl, rfl⟩ | ⟨rfl, rfl⟩
  · rfl
  · simp [Ne.symm hl]
end
end Go.Fx
