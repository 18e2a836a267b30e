import Derived.Test.YtiomojlcnemnhaaGreatDoorRGxW4
import Derived.Test.YtiomojlcnemnhaaGreatDoorRPedF
import Derived.Test.YtiomojlcnemnhaaGreatDoorRGxZ4
import Derived.Test.YtiomojlcnemnhaaGreatDoorRGxIcZ
namespace Go.Proofs.YtiomojlcnemnhaaGreatDoor
open Go.Fx Go.RowKit Go.Ped
variable {G:World→Prop}
mutual
def Ex.put (s:List Pr):Ex→Ex
  | .mk op t kids _=>.mk op (putS s t) (exPuts s kids) []
def exPuts (s:List Pr):List Ex→List Ex
  | []=>[]
  | e :: l=>e.put s :: exPuts s l
end
theorem exPuts_map (s:List Pr):∀ l:List Ex,exPuts s l = l.map (Ex.put s)
  | []=>rfl
  | e :: l=>by rw [exPuts,exPuts_map s l]; rfl
theorem Ex.put_mk (s:List Pr) (op:Int) (t:Tm) (kids:List Ex) (sp:Sp):(Ex.mk op t kids sp).put s = .mk op (putS s t) (kids.map (Ex.put s)) []:=by rw [Ex.put,exPuts_map]
end Go.Proofs.YtiomojlcnemnhaaGreatDoor

namespace Go.Proofs.YtiomojlcnemnhaaGreatDoor
open Go.Fx Go.RowKit Go.Ped
inductive Nd where
  | mk (op:Int) (t:Tm) (blk cap:Nat) (kids:List Nd)
  deriving Inhabited
def Nd.op:Nd→Int | .mk op _ _ _ _=>op
def Nd.t:Nd→Tm | .mk _ t _ _ _=>t
def Nd.blk:Nd→Nat | .mk _ _ b _ _=>b
def Nd.cap:Nd→Nat | .mk _ _ _ c _=>c
def Nd.kids:Nd→List Nd | .mk _ _ _ _ kids=>kids
mutual
theorem Nd.ind {Q:Nd→Prop} (h:∀ op t b c kids,(∀ k∈kids,Q k)→Q (.mk op t b c kids)):∀ n,Q n
  | .mk op t b c kids=>h op t b c kids (Nd.indL h kids)
theorem Nd.indL {Q:Nd→Prop} (h:∀ op t b c kids,(∀ k∈kids,Q k)→Q (.mk op t b c kids)):∀ l:List Nd,∀ k∈l,Q k
  | [],_,hk=>by cases hk
  | n :: l,k,hk=>match List.mem_cons.1 hk with
    | .inl e1=>e1 ▸ Nd.ind h n
    | .inr hk=>Nd.indL h l k hk
end
def slV (b cap:Nat) (n:Nat):Value:=if n = 0 then .slice none 0 0 else .slice (some ⟨b,0,none⟩) n cap
def Nd.sl:Nd→Value | .mk _ _ b cap kids=>slV b cap kids.length
def tmCells (t:Tm):List Value:=[.string (bs t.v),.int .i8 t.x.k,.int .i64 t.x.n,.string (bs t.x.s)]
def Nd.cells (n:Nd):List Value:=.int .i8 n.op :: (tmCells n.t++[n.sl])
@[simp] theorem Nd.cells_length (n:Nd):n.cells.length = 6:=rfl
@[simp] theorem tmCells_length (t:Tm):(tmCells t).length = 4:=rfl
mutual
def Nd.ex:Nd→Ex
  | .mk op t _ _ kids=>.mk op t (ndsEx kids) []
def ndsEx:List Nd→List Ex
  | []=>[]
  | k :: l=>k.ex :: ndsEx l
end
theorem putS_nil (t:Tm):putS [] t = t:=by unfold putS; split <;> rfl
abbrev Ex.bare (e:Ex):Ex:=e.put []
theorem Ex.bare_mk (op:Int) (t:Tm) (kids:List Ex) (sp:Sp):(Ex.mk op t kids sp).bare = .mk op t (kids.map Ex.bare) []:=by unfold Ex.bare; rw [Ex.put_mk,putS_nil]
end Go.Proofs.YtiomojlcnemnhaaGreatDoor
