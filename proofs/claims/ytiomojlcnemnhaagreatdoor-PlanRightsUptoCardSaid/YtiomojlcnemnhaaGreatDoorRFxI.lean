import Derived.Test.YtiomojlcnemnhaaGreatDoorRFxG
namespace Go.Fx
open Go.RowKit
section
variable {P:Program} {w0:World} {V0:Base} {N:Nat} {env:Env} {σ σ':S} {a:Act} {w:World} {o:Oper} {toks:Nat→Option Tok}
theorem ofCell_rep {v:Value} {x:A} (h:ofCell v = some x):RepA env toks w x v:=by
  unfold ofCell at h
  split at h
  · injection h with h; subst h; rfl
  · cases h
  · cases h
  · injection h with h; subst h
    refine .v _ ?_
    rename_i h1 h2 h3
    cases v <;> first | rfl | (exfalso; exact h2 _ rfl) | (exfalso; exact h3 _ rfl)
theorem ofCells_rep:∀ {l:List Value} {as:List A},ofCells l = some as→All2 (RepA env toks w) as l
  | [],as,h=>by simp [ofCells] at h; subst h; exact All2.nil
  | v :: l,as,h=>by
    unfold ofCells at h
    split at h
    · rename_i a' as' h1 h2
      injection h with h; subst h
      exact All2.cons (ofCell_rep h1) (ofCells_rep h2)
    · cases h
theorem ofValue_rep {v:Value} {r:R} (h:ofValue v = some r):RepR env toks w r v:=by
  unfold ofValue at h
  split at h
  · rename_i cs
    cases hc:ofCells cs.toList with
    | none=>rw [hc] at h; cases h
    | some l =>
      rw [hc] at h
      simp at h; subst h
      exact ⟨cs.toList,by simp,ofCells_rep hc⟩
  · cases hc:ofCell v with
    | none=>rw [hc] at h; cases h
    | some l =>
      rw [hc] at h
      simp at h; subst h
      exact ofCell_rep hc
theorem Sim.opd (h:Sim w0 V0 N env σ a w) {x:Operand} {d:D} (hx:cmpD x = some d):RepT env σ.toks w (d.val σ) (a.eval x):=by
  unfold cmpD at hx
  split at hx
  · injection hx with hx; subst hx; exact h.tmps _
  · rename_i v
    cases hv:ofValue v with
    | none=>rw [hv] at hx; cases hx
    | some r =>
      rw [hv] at hx; simp at hx; subst hx
      simp only [D.val,RepT,if_true,Act.eval]
      exact ofValue_rep hv
  · injection hx with hx; subst hx
    simp only [D.val,RepT,if_true,Act.eval]
    exact RepC.v _ rfl
  · cases hx
theorem RepT.r {t:T} {v:Value} (h:RepT env toks w t v) (hg:t.g = true):RepR env toks w t.r v:=by
  cases t with
  | k g r=>simp only [T.g] at hg; subst hg; exact h
  | lost=>cases hg
theorem Sim.opr (h:Sim w0 V0 N env σ a w) {x:Operand} {d:D} (hx:cmpD x = some d) (hg:(d.val σ).g = true):RepR env σ.toks w (d.val σ).r (a.eval x):=(h.opd hx).r hg
abbrev FW (rd:Option Nat):Fence:={ Fence.wide with round:=rd }
def Good (P:Program) (w0:World) (V0:Base) (N:Nat) (o:Oper) (σ σ':S):Prop :=
  ∀ (rd:Option Nat) (n:Nat) env a w K Q,Sim w0 V0 N env σ a w→(∀ env' a' w',Sim w0 V0 N env' σ' a' w'→K a' w')→o.wpIn (FW rd) n P a w K Q
theorem wp_next {rd:Option Nat} {n:Nat} {K:Act→World→Prop} {Q:Exit→Act→World→Prop} {x:Next} {w':World} (h:(execOp a.eval o).run P w = .ok x w') (hx:∀ d,x≠.defer d)
    (hK:o.uponIn (FW rd) n P a K Q (.ok x w')):o.wpIn (FW rd) n P a w K Q:=by
  refine ⟨fun _ _=>trivial,?_⟩
  rw [Oper.semAt_eq,h]
  · exact hK
  · intro c hc
    have h':=h
    simp only [execOp,hc,Sem.run_bind] at h'
    cases hr:(resolve a.eval c o.type).run P w with
    | ok d w2=>rw [hr] at h'; simp [Result.andThen] at h'; exact hx d h'.1.symm
    | halt y w2=>rw [hr] at h'; simp [Result.andThen] at h'
theorem wp_value {rd:Option Nat} {n:Nat} {v:Value} {w':World} {K:Act→World→Prop} {Q:Exit→Act→World→Prop} (h:(execOp a.eval o).run P w = .ok (.value v) w') (hK:K (a.put o.dst v) w'):o.wpIn (FW rd) n P a w K Q :=
  wp_next h (fun d e=>by cases e) hK
theorem wp_skipped {rd:Option Nat} {n:Nat} {w':World} {K:Act→World→Prop} {Q:Exit→Act→World→Prop} (h:(execOp a.eval o).run P w = .ok .skip w') (hK:K (a.put o.dst undef) w'):o.wpIn (FW rd) n P a w K Q :=
  wp_next h (fun d e=>by cases e) hK
theorem Good.pure {t:T} (hd:∀ n,o.dst = some n→n < N) (h:∀ env a w,Sim w0 V0 N env σ a w→∃ v,(execOp a.eval o).run P w = .ok (.value v) w∧RepT env σ.toks w t v) :
    Good P w0 V0 N o σ (σ.put o.dst t):=fun rd n env a w K Q hs hK=>by
  obtain ⟨v,hr,ht⟩:=h env a w hs
  exact wp_value hr (hK env _ _ (hs.put hd ht))
theorem rep_int {k:IntKind} {n:Int} {v:Value} (h:RepR env toks w (rI k n) v):v = .int k n:=by cases h; rfl
theorem rep_bool {b:Bool} {v:Value} (h:RepR env toks w (rB b) v):v = .bool b:=by cases h; rfl
theorem rep_str {s:ByteArray} {v:Value} (h:RepR env toks w (rS s) v):v = .string s:=by cases h; rfl
theorem rep_I {k:IntKind} {n:Int}:RepR env toks w (rI k n) (.int k n):=RepC.v _ rfl
theorem rep_B {b:Bool}:RepR env toks w (rB b) (.bool b):=RepC.v _ rfl
theorem rep_S {s:ByteArray}:RepR env toks w (rS s) (.string s):=RepC.v _ rfl
theorem beq_bytes (x y:ByteArray):(x.toList == y.toList) = (x == y):=(beq_toListBytes x y).symm
theorem binO_sound (op:BinOp) (ty:TypeId) (x y:Operand) {rx ry:R} {vx vy:Value} (hx:RepR env toks w rx vx) (hy:RepR env toks w ry vy) (hn:(binO op rx ry).need) :
    ∃ v,(do eqGuard op ty x y vx vy; binOp op ty vx vy:Sem Value).run P w = .ok v w∧RepR env toks w (binO op rx ry).val v:=by
  unfold binO at hn ⊢
  split at hn
  · cases hx; cases hy
    split at hn <;> first
      | (simp only [] at hn; subst hn; exact ⟨_,by simp [go_sem,eqGuard_at_int],rep_I⟩)
      | (simp only [] at hn; subst hn; exact ⟨_,by simp [go_sem,eqGuard_at_int],rep_B⟩)
      | (simp only [] at hn; obtain ⟨hk,hb⟩:=hn; subst hk; exact ⟨_,by simp [go_sem,eqGuard_at_int,Op.intDiv,hb],rep_I⟩)
      | (simp only [] at hn; exact ⟨_,by simp [go_sem,eqGuard_at_int,binOp,Op.shift,Int.not_lt.mpr hn],rep_I⟩)
      | exact hn.elim
  · cases hx; cases hy
    split at hn <;> first
      | (simp only [] at hn; exact ⟨_,by (simp [eqGuard_at_string,binOp,Op.stringOp]; omega),rep_S⟩)
      | exact ⟨_,by simp [eqGuard_at_string,binOp,Op.stringOp,beq_bytes],rep_B⟩
      | exact hn.elim
  · exact hn.elim
theorem eqbO_sound (neg:Bool) (ty:TypeId) (x y:Operand) {rx ry:R} {vx vy:Value} (hx:RepR env toks w rx vx) (hy:RepR env toks w ry vy) (hn:(eqbO neg rx ry).need) (ht:P.underlying ty = some .bool) :
    ∃ v,(do eqGuard (if neg then .neq else .eql) ty x y vx vy; binOp (if neg then .neq else .eql) ty vx vy:Sem Value).run P w = .ok v w∧RepR env toks w (eqbO neg rx ry).val v:=by
  unfold eqbO at hn ⊢
  split at hn
  · rename_i p q
    have hb:∀ d,(Op.equalIn (d + 1) ty (.bool p) (.bool q)).run P w = .ok (p == q) w:=fun d=>run_equalIn_bool' w d ty p q ht
    have e1:=rep_bool hx
    have e2:=rep_bool hy
    subst e1; subst e2
    cases neg <;> exact ⟨_,by simp [eqGuard_at_bool,binOp,Op.equal,Op.maxDepth,hb],rep_B⟩
  · exact hn.elim
theorem unO_sound (op:UnOp) {rx:R} {vx:Value} (hx:RepR env toks w rx vx) (hn:(unO op rx).need) :
    ∃ v,(Op.unary op vx).run P w = .ok v w∧RepR env toks w (unO op rx).val v:=by
  unfold unO at hn ⊢
  split at hn
  · have e:=rep_int hx
    subst e
    split at hn <;> first
      | exact hn.elim
      | exact ⟨_,by simp [Op.unary,Op.intArith],rep_I⟩
  · have e:=rep_bool hx
    subst e
    split at hn <;> first
      | exact hn.elim
      | exact ⟨_,by simp [Op.unary],rep_B⟩
  · exact hn.elim
theorem convO_sound (src dst:TypeId) {k ks:IntKind} (hs:P.underlying src = some (.int ks)) (hd:P.underlying dst = some (.int k)) {rx:R} {vx:Value} (hx:RepR env toks w rx vx) (hn:(convO k rx).need) :
    ∃ v,(convert src dst vx).run P w = .ok v w∧RepR env toks w (convO k rx).val v:=by
  unfold convO at hn ⊢
  split at hn
  · have e:=rep_int hx
    subst e
    exact ⟨_,by simp [convert,run_underlying hs,run_underlying hd,Conv.intToInt],rep_I⟩
  · exact hn.elim
theorem rep_sl {V:Nat→Nat→Prop} {es sp:List (List C)} {v:Value} (h:RepC V w (.sl es sp) v) :
    ((v = .slice none 0 0∨∃ a,v = .slice (some a) 0 0)∧es = []∧sp = [])∨∃ b o cap,v = .slice (some ⟨b,o,none⟩) es.length cap∧es.length + sp.length≤cap∧cap≤maxLen:=by
  cases h with
  | nil c=>exact .inl ⟨.inl rfl,rfl,rfl⟩
  | emp a=>exact .inl ⟨.inr ⟨a,rfl⟩,rfl,rfl⟩
  | sl _ _ s b o n cap us hn hc hm=>subst hn; exact .inr ⟨b,o,cap,rfl,hc,hm⟩
theorem lenO_sound (t ty:TypeId) {e:TypeId} {rx:R} {vx:Value} (hx:RepR env toks w rx vx) (hn:(lenO rx).need) (ht:P.underlying t = some (.slice e)) :
    ∃ v,(Builtin.len_ #[t] ty #[vx]).run P w = .ok v w∧RepR env toks w (lenO rx).val v:=by
  have slc:∀ (b:Option Addr) (n c:Nat),vx = .slice b n c→(Builtin.len_ #[t] ty #[vx]).run P w = .ok (.int .i64 n) w:=fun b n c e=>by
    subst e
    simp [Builtin.len_,run_underlying ht,goInt]
  have hsl:∀ es sp,RepC env.V w (.sl es sp) vx→∃ b c,vx = .slice b es.length c:=fun es sp h=>by
    rcases rep_sl h with ⟨e | ⟨a,e⟩,h1,h2⟩ | ⟨b,o,cap,e,_⟩
    · subst h1; exact ⟨_,_,e⟩
    · subst h1; exact ⟨_,_,e⟩
    · exact ⟨_,_,e⟩
  unfold lenO at hn ⊢
  split at hn
  · have e:vx = .slice none 0 0:=hx
    exact ⟨_,slc _ _ _ e,rep_I⟩
  · obtain ⟨b,c,e⟩:=hsl _ _ hx
    exact ⟨_,slc _ _ _ e,rep_I⟩
  · obtain ⟨b,c,e⟩:=hsl _ _ hx.1
    exact ⟨_,slc _ _ _ e,rep_I⟩
  · obtain ⟨b,s,_,_,e,_⟩:=hx
    exact ⟨_,slc _ _ _ e,rep_I⟩
  · exact hn.elim
theorem slenO_sound (t ty:TypeId) {rx:R} {vx:Value} (hx:RepR env toks w rx vx) (hn:(slenO rx).need) (ht:P.underlying t = some .string) :
    ∃ v,(Builtin.len_ #[t] ty #[vx]).run P w = .ok v w∧RepR env toks w (slenO rx).val v:=by
  unfold slenO at hn ⊢
  split at hn
  · have e:=rep_str hx
    subst e
    exact ⟨_,by simp [Builtin.len_,run_underlying ht,goInt],rep_I⟩
  · exact hn.elim
theorem faddrO_sound (off:Nat) (t:TypeId) {fs:Array Field} {f:Nat} {fl:Field} {i:TypeInfo} {rx:R} {vx:Value} (hx:RepR env toks w rx vx) (hn:(faddrO off rx).need)
    (ht:P.underlying t = some (.struct fs)) (hf:fs[f]? = some fl) (hi:P.info? fl.type = some i) (h0:i.size≠0) (ho:fl.offset = off) :
    ∃ v,(Instr.fieldAt t vx f).run P w = .ok v w∧RepR env toks w (faddrO off rx).val v:=by
  have key:∀ b o,vx = .pointer (some ⟨b,o,none⟩)→(Instr.fieldAt t vx f).run P w = .ok (.pointer (some ⟨b,o + off,none⟩)) w:=fun b o e=>by
    subst e; subst ho
    simp [Instr.fieldAt,run_underlying ht,hf,Instr.sureAddr,fieldPlace,sizeOf,typeInfo,hi,h0,add_at]
  unfold faddrO at hn ⊢
  split at hn
  · obtain ⟨b,s,hρ,e⟩:=hx
    exact ⟨_,key _ _ e,b,s,hρ,by rw [Nat.add_assoc]⟩
  · obtain ⟨b,o,n,cap,s,e,h1,h2,h3⟩:=hx
    exact ⟨_,key _ _ e,b,o,n,cap,s,by rw [Nat.add_assoc],h1,h2,h3⟩
  · exact hn.elim
theorem iaddrO_sound (size:Nat) (t:TypeId) {e:TypeId} {inf:TypeInfo} {rx ri:R} {vx vi:Value} (hx:RepR env σ.toks w rx vx) (hri:RepR env σ.toks w ri vi) (hs:Sim w0 V0 N env σ a w) (hn:(iaddrO σ size rx ri).need)
    (ht:P.underlying t = some (.slice e)) (hinf:P.info? e = some inf) (hsz:inf.size = size) :
    ∃ v,(Instr.indexAt t vx vi).run P w = .ok v w∧RepR env σ.toks w (iaddrO σ size rx ri).val v:=by
  have key:∀ b o n cap (k:IntKind) (i:Int),vx = .slice (some ⟨b,o,none⟩) n cap→vi = .int k i→0≤i→i < n →
      (Instr.indexAt t vx vi).run P w = .ok (.pointer (some ⟨b,o + i.toNat * size,none⟩)) w:=fun b o n cap k i e1 e2 h0 h1=>by
    subst e1; subst e2; subst hsz
    simp [Instr.indexAt,asIntOf,run_underlying ht,sizeOf,typeInfo,hinf,h0,h1,add_at]
  have closed:∀ es sp (k:IntKind) (i:Int),RepC env.V w (.sl es sp) vx→vi = .int k i→(0≤i∧i < es.length∧(es.getD i.toNat []).length = size) →
      ∃ v,(Instr.indexAt t vx vi).run P w = .ok v w∧RepA env σ.toks w (.elem es sp i.toNat 0) v:=fun es sp k i hrep e2 ⟨h0,h1,h2⟩=>by
    cases hrep with
    | nil c=>simp at h1; omega
    | emp a=>simp at h1; omega
    | sl _ _ s b o n cap us hn hc hm hw hl hu hr =>
      have hin:i.toNat < es.length:=by omega
      have hs:s = size:=by
        rw [← h2,← hw (es.getD i.toNat []) (by rw [List.getD_eq_getElem?_getD,List.getElem?_eq_getElem hin]; simp)]
      refine ⟨_,key b o n cap k i rfl e2 h0 (by rw [hn]; exact h1),b,o,n,cap,s,by rw [hs,Nat.add_zero],hin,hw,?_⟩
      exact .sl es sp s b o n cap us hn hc hm hw hl hu hr
  unfold iaddrO at hn ⊢
  split at hn
  · exact closed _ _ _ _ hx (rep_int hri) hn
  · exact closed _ _ _ _ hx.1 (rep_int hri) hn
  · obtain ⟨b,s,c',hρ,e,_⟩:=hx
    obtain ⟨g1,g2,g3⟩:=hn
    split at g3
    · rename_i x hx
      obtain ⟨b',us,h1,_⟩:=hs.objs _ x hx
      rw [h1] at hρ
      injection hρ with hρ; injection hρ with hb hsz2
      obtain ⟨g3,_⟩:=g3
      subst hb; subst hsz2; subst g3
      refine ⟨_,key _ _ _ _ _ _ e (rep_int hri) g1 g2,b',x.size,h1,?_⟩
      rw [Nat.add_mul,Nat.add_zero]
    · exact g3.elim
  · exact hn.elim
theorem sindexO_sound (t:TypeId) {rx ri:R} {vx vi:Value} (hx:RepR env toks w rx vx) (hri:RepR env toks w ri vi) (hn:(sindexO rx ri).need) (ht:P.underlying t = some .string) :
    ∃ v,(Instr.index t vx vi).run P w = .ok v w∧RepR env toks w (sindexO rx ri).val v:=by
  unfold sindexO at hn ⊢
  split at hn
  · rename_i s k i
    have e1:=rep_str hx
    have e2:=rep_int hri
    subst e1; subst e2
    obtain ⟨h0,h1⟩:=hn
    have hlt:i.toNat < s.size:=by omega
    refine ⟨_,?_,rep_I⟩
    have hg:s[i.toNat]? = some (s.data.toList.getD i.toNat 0):=by
      have:s[i.toNat]? = some s[i.toNat]:=getElem?_pos s i.toNat hlt
      rw [this,List.getD_eq_getElem?_getD]
      simp only [Array.getElem?_toList]
      rw [Array.getElem?_eq_getElem (by exact hlt)]
      rfl
    simp [Instr.index,asIntOf,run_underlying ht,h0,hg]
  · exact hn.elim
theorem partO_sound (t:TypeId) {cs:List A} {off:Nat} {n:Option Nat} {us:List Value} (hx:All2 (RepA env toks w) cs us) (hn:(partO cs off n).need) (ht:cellsIn P t = some n) :
    ∃ v,(part t us.toArray off).run P w = .ok v w∧RepX env toks w (match (partO cs off n).val with | .x y=>y | _=>.one .lost) v:=by
  unfold cellsIn at ht
  cases n with
  | none =>
    simp only [partO] at hn ⊢
    obtain ⟨y,hy,hr⟩:=hx.get (List.getElem?_eq_getElem hn)
    refine ⟨y,?_,?_⟩
    · cases hu:P.underlying t with
      | none=>rw [hu] at ht; cases ht
      | some d =>
        rw [hu] at ht
        cases d <;> simp at ht <;> simp [part,isAgg,run_underlying hu,hy]
    · show RepA env toks w (cs.getD off .lost) y
      rw [List.getD_eq_getElem?_getD,List.getElem?_eq_getElem hn]
      exact hr
  | some n =>
    simp only [partO] at hn ⊢
    refine ⟨.agg ((us.drop off).take n).toArray,?_,_,rfl,(hx.drop off).take n⟩
    cases hu:P.underlying t with
    | none=>rw [hu] at ht; cases ht
    | some d =>
      rw [hu] at ht
      cases d <;> simp at ht
      all_goals
        obtain ⟨i,hi,hs⟩:=ht
        simp [part,isAgg,run_underlying hu,sizeOf,typeInfo,hi,hs]
theorem fieldO_sound (t:TypeId) {fs:Array Field} {f:Nat} {fl:Field} {n:Option Nat} {rx:R} {vx:Value} (hx:RepR env toks w rx vx) (hn:(fieldO fl.offset n rx).need)
    (ht:P.underlying t = some (.struct fs)) (hf:fs[f]? = some fl) (hc:cellsIn P fl.type = some n) :
    ∃ v,(Instr.field t vx f).run P w = .ok v w∧RepR env toks w (fieldO fl.offset n rx).val v:=by
  unfold fieldO at hn ⊢
  split at hn
  · obtain ⟨us,e,hu⟩:=hx
    subst e
    obtain ⟨v,hr,hv⟩:=partO_sound (P:=P) fl.type hu hn hc
    refine ⟨v,by simpa [Instr.field,run_underlying ht,hf,asAgg] using hr,?_⟩
    cases n <;> exact hv
  · exact hn.elim
theorem extO_sound (i:Nat) {rx:R} {vx:Value} (hx:RepR env toks w rx vx) (hn:(extO i rx).need) :
    ∃ v,(Instr.extract vx i).run P w = .ok v w∧RepR env toks w (extO i rx).val v:=by
  unfold extO at hn ⊢
  split at hn
  · obtain ⟨vs,e,hv⟩:=hx
    subst e
    obtain ⟨y,hy,hr⟩:=hv.get (List.getElem?_eq_getElem hn)
    refine ⟨y,by simp [Instr.extract,hy],?_⟩
    simp only [RepR]
    rw [List.getD_eq_getElem?_getD,List.getElem?_eq_getElem hn]
    exact hr
  · exact hn.elim
end
end Go.Fx

namespace Go.Fx
open Go.RowKit
section
variable {P:Program} {w0:World} {V0:Base} {N:Nat} {env:Env} {σ σ':S} {a:Act} {w:World} {o:Oper} {toks:Nat→Option Tok}
theorem app_at {α:Type} {us ex:List α} {j:Nat} {u:α} (h:us[j]? = some u):(us++ex)[j]? = some u:=by
  rw [List.getElem?_append_left (List.getElem?_eq_some_iff.1 h).1]; exact h
theorem block_row {us:List Value} {b:Nat} {ty:TypeId} (h:w.heap[b]? = some (.cells us.toArray ty (0,0))) (j:Nat):w.cell? ⟨b,j,none⟩ = us[j]?:=by
  rw [cell_of_row w b j us.toArray ty (0,0) h]
  simp
theorem len_dt {α:Type} (l:List α) (k n:Nat) (h:k + n≤l.length):((l.drop k).take n).length = n:=by
  rw [List.length_take,List.length_drop]; omega
theorem loadO_sound (t:TypeId) {n:Option Nat} {rx:R} {vx:Value} (hs:Sim w0 V0 N env σ a w) (hx:RepR env σ.toks w rx vx) (hn:(loadO σ n rx).need) (ht:cellsIn P t = some n) :
    ∃ v,(Instr.loadAt t vx).run P w = .ok v w∧RepR env σ.toks w (loadO σ n rx).val v:=by
  unfold loadO at hn ⊢
  split at hn
  · rename_i es sp i off
    obtain ⟨b,o,n',cap,s,e,hi,hw,hrep⟩:=hx
    subst e
    cases hrep with
    | emp ad=>exact absurd hi (by simp)
    | sl _ _ s2 b o n' cap us hn2 hc hm hw2 hl hu hr =>
      have hei:es[i]? = some (es.getD i []):=by rw [List.getD_eq_getElem?_getD,List.getElem?_eq_getElem hi]; rfl
      have hlen:(es.getD i []).length = s:=hw _ (List.mem_append_left _ (List.mem_of_getElem? hei))
      have hget:∀ m,m < s→((es++sp).flatten)[i * s + m]? = (es.getD i [])[m]?:=fun m hm=>by
        rw [flatten_at (es++sp) i m hw hm,List.getElem?_append_left hi,hei]
        rfl
      -- each cell of the row: its value,and that it reads
      have hcell:∀ m,m < s→∃ c u,(es.getD i [])[m]? = some c∧us[i * s + m]? = some u∧w.cell? ⟨b,o + (i * s + m),none⟩ = some u∧RepC env.V w c u:=fun m hm=>by
        have h1:(es.getD i [])[m]? = some ((es.getD i [])[m]'(by omega)):=List.getElem?_eq_getElem (by omega)
        have h2:=(hget m hm).trans h1
        have h3:i * s + m < us.length:=by rw [hl]; exact (List.getElem?_eq_some_iff.1 h2).1
        exact ⟨_,us[i * s + m],h1,List.getElem?_eq_getElem h3,(hu _ _ (List.getElem?_eq_getElem h3)).1,hr _ _ _ h2 (List.getElem?_eq_getElem h3)⟩
      cases n with
      | none =>
        simp only at hn ⊢
        obtain ⟨c,u,h1,h2,h3,h4⟩:=hcell off (by omega)
        refine ⟨u,run_loadAt_one ht (by rw [show o + i * s + off = o + (i * s + off) by omega]; exact h3),?_⟩
        show RepA env σ.toks w (((es.getD i []).map A.c).getD off .lost) u
        rw [List.getD_eq_getElem?_getD,List.getElem?_map,h1]
        exact h4
      | some n =>
        simp only at hn ⊢
        have hus:∀ m,m < n→(((us.drop (i * s + off)).take n))[m]? = us[i * s + (off + m)]?:=fun m hm=>by
          rw [List.getElem?_take,if_pos hm,List.getElem?_drop]
          congr 1; omega
        have hfull:i * s + off + n≤us.length:=by
          rcases Nat.eq_zero_or_pos n with h0 | h0
          · subst h0
            rcases Nat.eq_zero_or_pos s with hs0 | hs0
            · subst hs0; simp; omega
            · obtain ⟨c,u,h1,h2,_⟩:=hcell (s - 1) (by omega)
              have:=(List.getElem?_eq_some_iff.1 h2).1
              omega
          · obtain ⟨c,u,h1,h2,_⟩:=hcell (off + n - 1) (by omega)
            have:=(List.getElem?_eq_some_iff.1 h2).1
            omega
        refine ⟨_,run_loadAt_agg (us:=(us.drop (i * s + off)).take n) ht (len_dt _ _ _ hfull) (fun j u hj=>?_),_,rfl,?_⟩
        · have hjn:j < n:=by
            have:=(List.getElem?_eq_some_iff.1 hj).1
            simp at this; omega
          rw [hus j hjn] at hj
          obtain ⟨c,u',h1,h2,h3,_⟩:=hcell (off + j) (by omega)
          rw [h2] at hj; injection hj with hj; subst hj
          rw [← h3]
          congr 2; omega
        · refine ⟨by rw [len_dt _ _ _ (by rw [List.length_map]; exact hn),len_dt _ _ _ hfull],fun j x y hx hy=>?_⟩
          have hjn:j < n:=by
            have:=(List.getElem?_eq_some_iff.1 hy).1
            simp at this; omega
          rw [hus j hjn] at hy
          rw [List.getElem?_take,if_pos hjn,List.getElem?_drop,List.getElem?_map] at hx
          obtain ⟨c,u',h1,h2,_,h4⟩:=hcell (off + j) (by omega)
          rw [h1] at hx; rw [h2] at hy
          injection hx with hx; injection hy with hy
          subst hx; subst hy
          exact h4
  · rename_i k i off
    obtain ⟨b,s,hρ,e⟩:=hx
    subst e
    split at hn
    · rename_i x hx
      obtain ⟨b',us,h1,h2,h3,h4,h5,h6⟩:=hs.objs k x hx
      rw [h1] at hρ
      injection hρ with hρ; injection hρ with hb hsz
      subst hb; subst hsz
      obtain ⟨hmp,hi,hoff⟩:=hn
      obtain ⟨ex,h3⟩:=h3.cells hmp
      have hri:x.rows[i]? = some (x.rows.getD i []):=by rw [List.getD_eq_getElem?_getD,List.getElem?_eq_getElem hi]; rfl
      have hlen:(x.rows.getD i []).length = x.size:=h5 _ (List.mem_of_getElem? hri)
      have hget:∀ m,m < x.size→x.rows.flatten[i * x.size + m]? = (x.rows.getD i [])[m]?:=fun m hm=>by
        rw [flatten_at x.rows i m h5 hm,hri]; rfl
      have hcell:∀ m,m < x.size→∃ c u,(x.rows.getD i [])[m]? = some c∧us[i * x.size + m]? = some u∧w.cell? ⟨b',i * x.size + m,none⟩ = some u∧RepA env σ.toks w c u:=fun m hm=>by
        have g1:(x.rows.getD i [])[m]? = some ((x.rows.getD i [])[m]'(by omega)):=List.getElem?_eq_getElem (by omega)
        obtain ⟨u,g2,g3⟩:=h4.get ((hget m hm).trans g1)
        exact ⟨_,u,g1,g2,(block_row h3 _).trans (app_at g2),g3⟩
      cases n with
      | none =>
        simp only at hoff
        obtain ⟨c,u,g1,g2,g3,g4⟩:=hcell off (by omega)
        refine ⟨u,run_loadAt_one ht g3,?_⟩
        show RepA env σ.toks w ((x.rows.getD i []).getD off .lost) u
        rw [List.getD_eq_getElem?_getD,g1]
        exact g4
      | some n =>
        simp only at hoff
        have hus:∀ m,m < n→(((us.drop (i * x.size + off)).take n))[m]? = us[i * x.size + (off + m)]?:=fun m hm=>by
          rw [List.getElem?_take,if_pos hm,List.getElem?_drop]
          congr 1; omega
        have hfull:i * x.size + off + n≤us.length:=by
          have hl:us.length = x.rows.length * x.size:=by rw [← h4.1,length_flatten x.rows h5]
          have:(i + 1) * x.size≤x.rows.length * x.size:=Nat.mul_le_mul_right _ (by omega)
          rw [Nat.succ_mul] at this
          omega
        refine ⟨_,run_loadAt_agg (us:=(us.drop (i * x.size + off)).take n) ht (len_dt _ _ _ hfull) (fun j u hj=>?_),_,rfl,?_⟩
        · have hjn:j < n:=by
            have:=(List.getElem?_eq_some_iff.1 hj).1
            simp at this; omega
          rw [hus j hjn] at hj
          obtain ⟨c,u',g1,g2,g3,_⟩:=hcell (off + j) (by omega)
          rw [g2] at hj; injection hj with hj; subst hj
          rw [← g3]
          congr 2; omega
        · refine ⟨by rw [len_dt _ _ _ hoff,len_dt _ _ _ hfull],fun j c y hc hy=>?_⟩
          have hjn:j < n:=by
            have:=(List.getElem?_eq_some_iff.1 hy).1
            simp at this; omega
          rw [hus j hjn] at hy
          rw [List.getElem?_take,if_pos hjn,List.getElem?_drop] at hc
          obtain ⟨c',u',g1,g2,_,g4⟩:=hcell (off + j) (by omega)
          rw [g1] at hc; rw [g2] at hy
          injection hc with hc; injection hy with hy
          subst hc; subst hy
          exact g4
    · exact hn.elim
  · exact hn.elim
theorem intD_rep {x:Option Operand} {d:Option D} {dflt n:Int} (hs:Sim w0 V0 N env σ a w) (hx:x.map cmpD = d.map some) (hg:(d.all fun d=>(d.val σ).g) = true) (hn:intD (d.map fun d=>(d.val σ).r) dflt = some n) :
    (x = none∧n = dflt)∨∃ x' k,x = some x'∧a.eval x' = .int k n:=by
  cases d with
  | none =>
    cases x with
    | none=>simp [intD] at hn; exact .inl ⟨rfl,hn.symm⟩
    | some x'=>simp at hx
  | some d =>
    cases x with
    | none=>simp at hx
    | some x' =>
      simp at hx
      simp at hg
      have hr:=hs.opr hx hg
      simp only [Option.map_some,intD] at hn
      split at hn
      · rename_i he; cases he
      · rename_i k m he
        injection hn with hn; subst hn
        injection he with he
        rw [he] at hr
        exact .inr ⟨x',k,rfl,rep_int hr⟩
      · cases hn
theorem sliceBounds_run (isS:Bool) (len cap:Nat) {lo hi:Option Operand} {l h:Int} (hlo:(lo = none∧l = 0)∨∃ x k,lo = some x∧a.eval x = .int k l) (hhi:(hi = none∧h = len)∨∃ x k,hi = some x∧a.eval x = .int k h)
    (h0:0≤l) (h1:l≤h) (h2:h≤cap):(Instr.sliceBounds isS len cap (lo.map a.eval) (hi.map a.eval) none).run P w = .ok (l.toNat,h.toNat,cap) w:=by
  have sb:∀ (k:IntKind) (i:Int) (y:Nat) (c:BoundsCode),0≤i→i≤y→(Instr.sliceBound (.int k i) y c).run P w = .ok i.toNat w:=fun k i y c g0 g1=>by
    simp [Instr.sliceBound,asIntOf,g0,g1]
  have h1':l≤(h.toNat:Int):=by omega
  rcases hlo with ⟨rfl,rfl⟩ | ⟨x,k,rfl,hx⟩ <;> rcases hhi with ⟨rfl,rfl⟩ | ⟨y,k',rfl,hy⟩
  · simp [Instr.sliceBounds]
  · simp [Instr.sliceBounds,hy,sb k' h cap _ (by omega) h2]
  · simp only [Int.toNat_natCast] at h1'
    simp [Instr.sliceBounds,hx,sb k l len _ h0 h1]
  · simp [Instr.sliceBounds,hx,hy,sb k' h cap _ (by omega) h2,sb k l h.toNat _ h0 h1']
theorem sslO_sound (t:TypeId) {lo hi:Option Operand} {dl dh:Option D} {rx:R} {vx:Value} (hs:Sim w0 V0 N env σ a w) (hx:RepR env toks w rx vx)
    (hl:lo.map cmpD = dl.map some) (hh:hi.map cmpD = dh.map some) (gl:(dl.all fun d=>(d.val σ).g) = true) (gh:(dh.all fun d=>(d.val σ).g) = true)
    (hn:(sslO (dl.map fun d=>(d.val σ).r) (dh.map fun d=>(d.val σ).r) rx).need) (ht:P.underlying t = some .string) :
    ∃ v,(Instr.sliceAt t vx (lo.map a.eval) (hi.map a.eval) none).run P w = .ok v w∧RepR env toks w (sslO (dl.map fun d=>(d.val σ).r) (dh.map fun d=>(d.val σ).r) rx).val v:=by
  unfold sslO at hn ⊢
  split at hn
  · rename_i s
    have e:=rep_str hx
    subst e
    split at hn
    · rename_i l h el eh
      obtain ⟨h0,h1,h2⟩:=hn
      have hb:=sliceBounds_run (P:=P) (w:=w) (a:=a) false s.size s.size (intD_rep hs hl gl el) (intD_rep hs hh gh eh) h0 h1 h2
      refine ⟨.string (s.extract l.toNat h.toNat),by simp [Instr.sliceAt,Instr.slice,run_underlying ht,hb],?_⟩
      simp only
      exact rep_S
    · exact hn.elim
  · exact hn.elim
theorem vslO_sound (t:TypeId) {e:TypeId} {inf:TypeInfo} {lo hi:Option Operand} {dl dh:Option D} {rx:R} {vx:Value} (hs:Sim w0 V0 N env σ a w) (hx:RepR env σ.toks w rx vx)
    (hl:lo.map cmpD = dl.map some) (hh:hi.map cmpD = dh.map some) (gl:(dl.all fun d=>(d.val σ).g) = true) (gh:(dh.all fun d=>(d.val σ).g) = true)
    (hn:(vslO inf.size (dl.map fun d=>(d.val σ).r) (dh.map fun d=>(d.val σ).r) rx).need) (ht:P.underlying t = some (.slice e)) (hinf:P.info? e = some inf) :
    ∃ v,(Instr.sliceAt t vx (lo.map a.eval) (hi.map a.eval) none).run P w = .ok v w∧RepR env σ.toks w (vslO inf.size (dl.map fun d=>(d.val σ).r) (dh.map fun d=>(d.val σ).r) rx).val v:=by
  have closed:∀ (es sp:List (List C)) (l h:Int),RepC env.V w (.sl es sp) vx→(∀ x∈es++sp,x.length = inf.size) →
      intD (dl.map fun d=>(d.val σ).r) 0 = some l→intD (dh.map fun d=>(d.val σ).r) es.length = some h→(0≤l∧l≤h∧h≤es.length + sp.length) →
      ∃ v,(Instr.sliceAt t vx (lo.map a.eval) (hi.map a.eval) none).run P w = .ok v w∧RepC env.V w (.sl (((es++sp).take h.toNat).drop l.toNat) ((es++sp).drop h.toNat)) v:=by
    intro es sp l h hrep hsz el eh ⟨h0,h1,h2⟩
    cases hrep with
    | nil c =>
      have e1:l = 0:=by simp at h2; omega
      have e2:h = 0:=by simp at h2; omega
      subst e1; subst e2
      have hb:=sliceBounds_run (P:=P) (w:=w) (a:=a) true 0 0 (intD_rep hs hl gl el) (intD_rep hs hh gh eh) (by omega) (by omega) (by omega)
      refine ⟨.slice none 0 0,?_,by simpa using RepC.nil 0⟩
      simp [Instr.sliceAt,Instr.slice,run_underlying ht,hb,sizeOf,typeInfo,hinf]
    | emp ad =>
      have e1:l = 0:=by simp at h2; omega
      have e2:h = 0:=by simp at h2; omega
      subst e1; subst e2
      have hb:=sliceBounds_run (P:=P) (w:=w) (a:=a) true 0 0 (intD_rep hs hl gl el) (intD_rep hs hh gh eh) (by omega) (by omega) (by omega)
      refine ⟨.slice (some ad) 0 0,?_,by simpa using RepC.emp ad⟩
      simp [Instr.sliceAt,Instr.slice,run_underlying ht,hb,sizeOf,typeInfo,hinf]
    | sl _ _ s b o n cap us hn hc hm hw hl' hu hr =>
      subst hn
      have hb:=sliceBounds_run (P:=P) (w:=w) (a:=a) true es.length cap (intD_rep hs hl gl el) (intD_rep hs hh gh eh) h0 h1 (by omega)
      have hLl:(es++sp).length = es.length + sp.length:=List.length_append
      generalize es++sp = L at hw hl' hr hsz hLl ⊢
      have hrow:(L.take h.toNat).drop l.toNat++L.drop h.toNat = L.drop l.toNat:=by
        have:L.drop l.toNat = (L.take h.toNat++L.drop h.toNat).drop l.toNat:=by rw [List.take_append_drop]
        rw [this,List.drop_append_of_le_length (by rw [List.length_take]; omega)]
      have hlen1:((L.take h.toNat).drop l.toNat).length = h.toNat - l.toNat:=by
        rw [List.length_drop,List.length_take]; omega
      by_cases hcap:cap = l.toNat
      · -- nothing is left: the address stays
        have hall:es.length + sp.length = l.toNat:=by omega
        have hhl:h.toNat = l.toNat:=by omega
        refine ⟨.slice (some ⟨b,o,none⟩) 0 0,?_,?_⟩
        · rw [hcap] at hb
          simp [Instr.sliceAt,Instr.slice,run_underlying ht,hb,sizeOf,typeInfo,hinf,hcap,hhl]
        · have e1:(L.take h.toNat).drop l.toNat = []:=List.drop_eq_nil_of_le (by rw [List.length_take]; omega)
          have e2:L.drop h.toNat = []:=List.drop_eq_nil_of_le (by omega)
          rw [e1,e2]
          exact .sl [] [] s b o 0 0 [] rfl (by simp) (by simp) (fun x hx=>by simp at hx) rfl (fun j u h=>by simp at h) (fun j c u h=>by simp at h)
      · refine ⟨.slice (some ⟨b,o + l.toNat * s,none⟩) (h.toNat - l.toNat) (cap - l.toNat),?_,?_⟩
        · have hss:L = []∨s = inf.size:=by
            cases hes:L with
            | nil=>exact .inl rfl
            | cons x xs =>
              have hx1:x∈L:=by rw [hes]; simp
              exact .inr ((hw x hx1).symm.trans (hsz x hx1))
          have hadd:Addr.add ⟨b,o,none⟩ (l.toNat * inf.size) = ⟨b,o + l.toNat * s,none⟩:=by
            rw [add_at]
            rcases hss with h0' | h0'
            · have:es.length + sp.length = 0:=by rw [← hLl,h0']; rfl
              have:l.toNat = 0:=by omega
              rw [this]; simp
            · rw [h0']
          simp [Instr.sliceAt,Instr.slice,run_underlying ht,hb,sizeOf,typeInfo,hinf,hcap,hadd]
        · have hfl:(L.drop l.toNat).flatten = L.flatten.drop (l.toNat * s):=by
            have hl2:(L.take l.toNat).flatten.length = l.toNat * s:=by
              rw [length_flatten _ (fun x hx=>hw x (List.mem_of_mem_take hx)),List.length_take,Nat.min_eq_left (by omega)]
            have:L.flatten = (L.take l.toNat).flatten++(L.drop l.toNat).flatten:=by rw [← List.flatten_append,List.take_append_drop]
            rw [this]; exact (List.drop_left' hl2).symm
          refine .sl _ _ s b (o + l.toNat * s) (h.toNat - l.toNat) (cap - l.toNat) (us.drop (l.toNat * s)) hlen1.symm ?_ (by omega) ?_ ?_ ?_ ?_
          · rw [← List.length_append,hrow,List.length_drop]; omega
          · rw [hrow]; exact fun x hx=>hw x (List.mem_of_mem_drop hx)
          · rw [hrow,hfl,List.length_drop,List.length_drop,hl']
          · intro j u hj
            rw [List.getElem?_drop] at hj
            have:=hu _ u hj
            rw [show o + l.toNat * s + j = o + (l.toNat * s + j) by omega]
            exact this
          · intro j c u hc' hj
            rw [hrow,hfl,List.getElem?_drop] at hc'
            rw [List.getElem?_drop] at hj
            exact hr _ c u hc' hj
  unfold vslO at hn ⊢
  split at hn
  · rename_i es sp
    split at hn
    · rename_i l h el eh
      obtain ⟨v,hv,hrep⟩:=closed es sp l h hx hn.2 el eh hn.1
      refine ⟨v,hv,?_⟩
      simp only
      exact hrep
    · exact hn.elim
  · rename_i k es
    split at hn
    · rename_i l h el eh
      obtain ⟨v,hv,hrep⟩:=closed es [] l h hx.1 (by simpa using hn.2) el eh (by simpa using hn.1)
      refine ⟨v,hv,?_⟩
      simp only
      rw [List.append_nil] at hrep
      exact hrep
    · exact hn.elim
  · rename_i k off n cap
    split at hn
    · rename_i l h el eh
      obtain ⟨h0,h1,h2⟩:=hn
      subst h0
      obtain ⟨b,s,cap',hρ,e,hc1,hc2⟩:=hx
      subst e
      have hb:=sliceBounds_run (P:=P) (w:=w) (a:=a) true n cap' (intD_rep hs hl gl el) (intD_rep hs hh gh eh) (by omega) h1 (by omega)
      refine ⟨.slice (some ⟨b,off * s,none⟩) h.toNat cap',?_,?_⟩
      · simp [Instr.sliceAt,Instr.slice,run_underlying ht,hb,sizeOf,typeInfo,hinf,Addr.add_zero']
      · simp only
        exact ⟨b,s,cap',hρ,rfl,hc1,hc2⟩
    · exact hn.elim
  · exact hn.elim
end
end Go.Fx
