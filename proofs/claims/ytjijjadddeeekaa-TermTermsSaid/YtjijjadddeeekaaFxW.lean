/- Fx, part W: what simp is to know. -/
import Derived.Test.YtjijjadddeeekaaFxV
import Derived.IntWalk
namespace Go.Fx
open Go.RowKit

attribute [simp] e_skip e_exit e_ret e_seq e_block e_cond e_region strike_st strikeO strikeU put_st setObj_st setTok_st ret_one
attribute [simp] r_build r_load r_faddr r_field r_iaddr r_sindex r_bin r_eqs r_eqb r_un r_conv r_bytes r_len r_slen r_ssl r_vsl r_ext r_move r_pick r_box r_zero r_store
attribute [simp] g_build g_load g_faddr g_field g_iaddr g_sindex g_bin g_eqs g_eqb g_un g_conv g_bytes g_len g_slen g_ssl g_vsl g_ext g_move guardO_look
attribute [simp] pureO binO eqbO eqV eqRows eqsO unO convO slenO lenO bytesO iaddrO sindexO faddrO partO fieldO splice X.cells R.cells fillO intD sslO vslO extO loadO A.strike X.strike R.strike T.strike A.rows? R.rows?
attribute [simp] A.close closeL X.close T.close R.close closeArgs CX.open CR.open closeEnd closeEndL closeEndR closeEndRs init_eq

abbrev tI (k : IntKind) (n : Int) : T := .k true (rI k n)
abbrev tB (b : Bool) : T := .k true (rB b)
abbrev tS (l : List UInt8) : T := .k true (rS (bs l))
abbrev tL (es : List (List C)) : T := .k true (.x (.one (.c (.sl es []))))
abbrev cI (k : IntKind) (n : Int) : C := .v (.int k n)
abbrev cB (n : Bool) : C := .v (.bool n)
abbrev cS (n : ByteArray) : C := .v (.string n)

@[simp] theorem bs_size (l : List UInt8) : (bs l).size = l.length := rfl
@[simp] theorem bs_data (l : List UInt8) : (bs l).data = l.toArray := rfl
@[simp] theorem bs_inj (l m : List UInt8) : bs l = bs m ↔ l = m := by
  constructor
  · intro h; exact congrArg (fun s : ByteArray => s.data.toList) h
  · intro h; rw [h]
@[simp] theorem bs_beq (l m : List UInt8) : (bs l == bs m) = (l == m) := by
  have h : (bs l == bs m) = (l.toArray == m.toArray) := rfl
  rw [h]; simp
theorem bs_of (s : ByteArray) : s = bs s.data.toList := rfl
@[simp] theorem bs_append (l m : List UInt8) : bs l ++ bs m = bs (l ++ m) := by
  apply ByteArray.ext
  simp

theorem at_list {α : Type} {l : List α} {i : Nat} (h : i < l.length) : ∃ c, l[i]? = some c ∧ l.drop i = c :: l.drop (i + 1) := ⟨l[i], List.getElem?_eq_getElem h, List.drop_eq_getElem_cons h⟩
theorem wrap_next {i n : Nat} (h : i < n) (hn : n ≤ 9223372036854775807) : IntKind.i64.wrap ((i : Int) + 1) = ((i + 1 : Nat) : Int) := by
  rw [Go.IntWalk.i64_in _ (by omega)]; rfl

end Go.Fx
