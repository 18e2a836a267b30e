import Derived.Test.YtiomojlcnemnhaaGreatDoorRFxP
namespace Go.Fx
open Go.RowKit
structure Delta where
  t:T
  ob:Nat→Option Box
  tk:Nat→Option Tok
  ex:Option XP
def no {α:Type}:Nat→Option α:=fun _=>none
def on1 {α:Type} (k:Nat) (x:α):Nat→Option α:=fun j=>if j = k then some x else none
def S.app (σ:S) (d:Option Nat) (δ:Delta):S :=
  { tmps:=(σ.put d δ.t).tmps,
    objs:=fun k=>match δ.ob k with | some b=>some b | none=>σ.objs k,
    toks:=fun k=>match δ.tk k with | some t=>some t | none=>σ.toks k,
    ext:=δ.ex.getD σ.ext }
def D.tmp? : D→List Nat
  | .t n=>[n]
  | .k _=>[]
def IOp.tmps:IOp→List Nat
  | .move x | .box _ x | .load _ x | .faddr _ x | .field _ _ x | .un _ x | .conv _ x | .bytes x | .len x | .slen x | .ext x _ | .mki _ x | .asrt _ _ _ _ x | .nilchk x | .gidx _ _ _ x | .gload x=>x.tmp?
  | .pick c a b=>c.tmp?++(a.tmp?++b.tmp?)
  | .zero _ _ | .mkmap _ _ _=>[]
  | .mlook _ _ _ _ m k=>m.tmp?++k.tmp?
  | .mapup _ _ m k v=>m.tmp?++(k.tmp?++v.tmp?)
  | .build _ ps=>ps.flatMap fun p=>p.2.2.tmp?
  | .row _ _ ps | .rowb _ _ ps=>ps.flatMap D.tmp?
  | .store _ x y | .iaddr _ x y | .sindex x y | .bin _ x y | .eqs _ _ x y | .eqb _ x y | .app _ _ _ x y | .appb _ _ _ x y | .make _ _ _ _ x y=>x.tmp?++y.tmp?
  | .ssl x lo hi | .vsl _ x lo hi=>x.tmp?++(lo.elim [] D.tmp?++hi.elim [] D.tmp?)
  | .call f args | .callp f args=>f.tmp?++args.flatMap D.tmp?
  | .clo _ fs cs=>fs.flatMap D.tmp?++cs.flatMap D.tmp?
def IOper.reads (o:IOper):List Nat:=o.op.tmps++(match o.guard with | some (s,_)=>[s] | none=>[])
def IOper.ro (o:IOper):Option (List Nat) :=
  match o.op with
  | .load .. | .iaddr .. | .mlook .. | .store .. | .mapup .. | .call ..=>o.fp
  | _=>some []
def IOper.wo (o:IOper):Option (List Nat) :=
  match o.op with
  | .box .. | .zero .. | .make .. | .mkmap .. | .rowb .. | .appb ..=>some o.dst.toList
  | .store .. | .mapup .. | .call ..=>o.fp
  | _=>some []
def IOper.wt (o:IOper):Option (List Nat) :=
  match o.op with
  | .row ..=>some o.dst.toList
  | .app ..=>o.fp.map (o.dst.toList++·)
  | .call ..=>o.fp
  | _=>some []
def IOper.isCall (o:IOper):Bool :=
  match o.op with
  | .call ..=>true
  | _=>false
def disj:Option (List Nat)→Option (List Nat)→Bool
  | some [],_=>true
  | _,some []=>true
  | some x,some y=>x.all fun k=>!y.contains k
  | _,_=>false
theorem disj_spec {x y:Option (List Nat)} (h:disj x y = true) {k:Nat} (hx:fpK x k) (hy:fpK y k):False:=by
  unfold disj at h
  split at h
  · simp [fpK] at hx
  · simp [fpK] at hy
  · simp only [fpK] at hx hy
    have:=List.all_eq_true.1 h k hx
    simp [hy] at this
  · cases h
def apartI (a b:IOper):Bool :=
  (match a.dst with | some d=>!b.reads.contains d && b.dst != some d | none=>true) &&
  (match b.dst with | some d=>!a.reads.contains d | none=>true) &&
  (disj a.wo b.ro && disj a.wo b.wo && disj b.wo a.ro && disj a.wt b.wt && !(a.isCall && b.isCall))
def Eff (P:Program) (G:World→Prop) (o:IOper) (σ:S) (δ:Delta):Prop :=
  match o.op with
  | .move x=>∃ g,guardO σ o.guard = some g∧δ = ⟨moveT g (x.val σ),no,no,none⟩
  | .pick c a b=>∃ g,guardO σ o.guard = some g∧∃ gc t,c.val σ = .k gc (rB t)∧(g = true→gc = true)∧δ = ⟨pickT g t (a.val σ) (b.val σ),no,no,none⟩
  | .call f args=>∃ g,guardO σ o.guard = some g∧∃ (fv:A) (xs:List X) (x:Bool) (h:Hp) (res:R) (h':Hp),
      (g = true→(args.all fun d=>(d.val σ).g) = true∧fitsR (args.map fun d=>(d.val σ).r) xs∧f.val σ = .k true (.x (.one fv))∧MeetsV P G fv xs h res h'∧Lends σ x h h' ∧
        ∀ k,(h.objs k≠none∨h.toks k≠none∨h'.objs k≠none∨h'.toks k≠none)→fpK o.fp k) ∧
      δ = if g then ⟨.k true res,h'.objs,h'.toks,if x then some h'.ext else none⟩ else ⟨.k false res,no,no,none⟩
  | .callp f args=>∃ g,guardO σ o.guard = some g∧∃ cs res,(g = true→(args.all fun d=>(d.val σ).g) = true∧closeArgs (args.map fun d=>(d.val σ).r) = some cs∧∃ fn,f.val σ = .k true (rF fn)∧Meets P G fn cs res) ∧
      δ = ⟨.k g res.open,no,no,none⟩
  | .gload x=>∃ g,guardO σ o.guard = some g∧∃ a v,(g = true→x.val σ = .k true (.x (.one (.c (.v (.pointer (some a))))))∧v.oneCell' = true∧∀ w,G w→w.cell? a = some v) ∧
      δ = ⟨.k g (.x (.one (.c (.v v)))),no,no,none⟩
  | .box ty x=>o.guard = none∧∃ d y,o.dst = some d∧σ.objs d = none∧x.val σ = .k true (.x y) ∧
      δ = ⟨.k true (.x (.one (.ref d 0 0))),on1 d ⟨ty,y.cells.length,[y.cells],none⟩,no,none⟩
  | .mkmap dk size one=>o.guard = none∧∃ d,o.dst = some d∧σ.objs d = none∧δ = ⟨.k true (.x (.one (.mapr d))),on1 d ⟨0,size,[],some (dk,one)⟩,no,none⟩
  | .mapup dk one m k v=>o.guard = none∧∃ j b x yv,m.val σ = .k true (.x (.one (.mapr j)))∧σ.objs j = some b∧b.mp = some (dk,one)∧k.val σ = .k true (.x (.one (.c (.v x))))∧MapKept.IsKey dk x ∧
      v.val σ = .k true (.x yv)∧formX one yv.cells = yv∧yv.cells.length + 1 = b.size∧δ = ⟨nothing,on1 j { b with rows:=mapPut b.rows x yv.cells },no,none⟩
  | .zero ty z=>o.guard = none∧∃ d,o.dst = some d∧σ.objs d = none∧δ = ⟨.k true (.x (.one (.ref d 0 0))),on1 d ⟨ty,z.length,[z],none⟩,no,none⟩
  | .rowb ty size ps=>o.guard = none∧∃ d es,o.dst = some d∧σ.objs d = none∧((ps.all fun d=>(d.val σ).g) = true∧rowsO (ps.map fun d=>(d.val σ).r) = some es∧∀ e∈es,e.length = size) ∧
      δ = ⟨.k true (.x (.one (.arr d 0 es.length es.length))),on1 d ⟨ty,size,es.map (·.map A.c),none⟩,no,none⟩
  | .appb ty size bytes x y=>o.guard = none∧∃ d news,o.dst = some d∧σ.objs d = none∧(x.val σ = .k true (.x (.one .nil))∧(y.val σ).g = true∧(∃ sp,(y.val σ).r.rows? = some (news,sp))∧(∀ e∈news,e.length = size)∧news≠[]∧news.length≤maxLen∧news.length * bytes≤maxBytes) ∧
      δ = ⟨.k true (.x (.one (.arr d 0 news.length news.length))),on1 d ⟨ty,size,news.map (·.map A.c),none⟩,no,none⟩
  | .row ty size ps=>(ps.all fun d=>(d.val σ).g) = true∧∃ es,rowsO (ps.map fun d=>(d.val σ).r) = some es∧(∀ e∈es,e.length = size) ∧
      match o.guard with
      | none=>∃ d,o.dst = some d∧σ.toks d = none∧δ = ⟨.k true (.x (.one (.own d es))),no,on1 d ⟨ty,size,es.length⟩,none⟩
      | some _=>∃ g,guardO σ o.guard = some g∧δ = ⟨.k g (.x (.one (.c (.sl es [])))),no,no,none⟩
  | .app ty size bytes x y=>guardO σ o.guard = some true∧(x.val σ).g = true∧(y.val σ).g = true∧∃ news sp,(y.val σ).r.rows? = some (news,sp)∧(∀ e∈news,e.length = size) ∧
      match (x.val σ).r with
      | .x (.one (.own k es))=>∃ t,σ.toks k = some t∧t.ty = ty∧t.size = size∧es.length = t.n∧es.length + news.length≤maxLen∧(es.length + news.length) * bytes≤maxBytes ∧
          δ = ⟨.k true (.x (.one (.own k (es++news)))),no,on1 k ⟨ty,size,es.length + news.length⟩,none⟩
      | .x (.one .nil)=>∃ d,o.dst = some d∧σ.toks d = none∧news.length≤maxLen∧news.length * bytes≤maxBytes ∧
          δ = ⟨.k true (.x (.one (.own d news))),no,on1 d ⟨ty,size,news.length⟩,none⟩
      | _=>False
  | .make ty size bytes z l c=>o.guard = none∧∃ d n m,o.dst = some d∧σ.objs d = none∧l.val σ = .k true (rI .i64 n)∧c.val σ = .k true (rI .i64 m) ∧
      0≤n∧n≤m∧m≤maxLen∧bytes * m≤maxBytes∧z.length = size ∧
      δ = ⟨.k true (.x (.one (.arr d 0 n.toNat m.toNat))),on1 d ⟨ty,size,List.replicate m.toNat z,none⟩,no,none⟩
  | .store n x y=>o.guard = none∧∃ k i off b yv,x.val σ = .k true (.x (.one (.ref k i off)))∧σ.objs k = some b∧b.mp = none∧y.val σ = .k true (.x yv) ∧
      i < b.rows.length∧off + yv.cells.length≤(b.rows.getD i []).length∧yv.cells.length = n.getD 1 ∧
      δ = ⟨nothing,on1 k { b with rows:=b.rows.set i (splice (b.rows.getD i []) off yv.cells) },no,none⟩
  | op=>∃ g,guardO σ o.guard = some g∧∃ out,pureO σ op = some out∧(g = true→out.need)∧δ = ⟨.k g out.val,no,no,none⟩
section
variable {P:Program} {G:World→Prop} {σ σ' τ:S}
theorem app_none (d:Option Nat) (t:T):σ.app d ⟨t,no,no,none⟩ = σ.put d t:=by cases d <;> rfl
theorem app_obj (d:Option Nat) (t:T) (k:Nat) (b:Box):σ.app d ⟨t,on1 k b,no,none⟩ = (σ.setObj k b).put d t:=by
  have e:(fun j=>match on1 k b j with | some b=>some b | none=>σ.objs j) = fun j=>if j = k then some b else σ.objs j:=by
    funext j; unfold on1; by_cases h:j = k <;> simp [h]
  cases d <;> simp only [S.app,S.put,S.setObj,no,Option.getD_none,e]
theorem app_tok (d:Option Nat) (t:T) (k:Nat) (q:Tok):σ.app d ⟨t,no,on1 k q,none⟩ = (σ.setTok k q).put d t:=by
  have e:(fun j=>match on1 k q j with | some b=>some b | none=>σ.toks j) = fun j=>if j = k then some q else σ.toks j:=by
    funext j; unfold on1; by_cases h:j = k <;> simp [h]
  cases d <;> simp only [S.app,S.put,S.setTok,no,Option.getD_none,e]
theorem app_over (d:Option Nat) (t:T) (x:Bool) (h:Hp):σ.app d ⟨t,h.objs,h.toks,if x then some h.ext else none⟩ = (σ.over x h).put d t:=by
  cases d <;> cases x <;> rfl
theorem eff_of_step {o:IOper} (h:StepI P G o σ σ'):∃ δ,Eff P G o σ δ∧σ' = σ.app o.dst δ:=by
  obtain ⟨dst,op,gd,fp⟩:=o
  cases op <;> first
    | (obtain ⟨g,h1,out,h2,h3,rfl⟩:=h; exact ⟨_,⟨g,h1,out,h2,h3,rfl⟩,(app_none _ _).symm⟩)
    | (obtain ⟨g,h1,rfl⟩:=h; exact ⟨_,⟨g,h1,rfl⟩,(app_none _ _).symm⟩)
    | (obtain ⟨g,h1,gc,t,h2,h3,rfl⟩:=h; exact ⟨_,⟨g,h1,gc,t,h2,h3,rfl⟩,(app_none _ _).symm⟩)
    | (obtain ⟨g,h1,cs,res,h2,rfl⟩:=h; exact ⟨_,⟨g,h1,cs,res,h2,rfl⟩,(app_none _ _).symm⟩)
    | (obtain ⟨g,h1,fv,xs,x,hh,res,hh',h2,rfl⟩:=h
       refine ⟨_,⟨g,h1,fv,xs,x,hh,res,hh',h2,rfl⟩,?_⟩
       cases g
       · exact (app_none _ _).symm
       · exact (app_over _ _ _ _).symm)
    | (obtain ⟨h0,d,y,h1,h2,h3,rfl⟩:=h; exact ⟨_,⟨h0,d,y,h1,h2,h3,rfl⟩,(app_obj _ _ _ _).symm⟩)
    | (obtain ⟨h0,d,h1,h2,rfl⟩:=h; exact ⟨_,⟨h0,d,h1,h2,rfl⟩,(app_obj _ _ _ _).symm⟩)
    | (obtain ⟨h0,j,b,x,yv,h1,h2,h3,h4,h5,h6,h7,h8,rfl⟩:=h; exact ⟨_,⟨h0,j,b,x,yv,h1,h2,h3,h4,h5,h6,h7,h8,rfl⟩,(app_obj _ _ _ _).symm⟩)
    | (obtain ⟨h0,d,n,m,h1,h2,h3,h4,h5,h6,h7,h8,h9,rfl⟩:=h; exact ⟨_,⟨h0,d,n,m,h1,h2,h3,h4,h5,h6,h7,h8,h9,rfl⟩,(app_obj _ _ _ _).symm⟩)
    | (obtain ⟨h0,k,i,off,b,yv,h1,h2,hmp,h3,h4,h5,h6,rfl⟩:=h; exact ⟨_,⟨h0,k,i,off,b,yv,h1,h2,hmp,h3,h4,h5,h6,rfl⟩,(app_obj _ _ _ _).symm⟩)
    | (obtain ⟨h0,es,h1,h2,h3⟩:=h
       cases gd with
       | none=>obtain ⟨d,h4,h5,rfl⟩:=h3; exact ⟨_,⟨h0,es,h1,h2,d,h4,h5,rfl⟩,(app_tok _ _ _ _).symm⟩
       | some gd=>obtain ⟨g,h4,rfl⟩:=h3; exact ⟨_,⟨h0,es,h1,h2,g,h4,rfl⟩,(app_none _ _).symm⟩)
    | (obtain ⟨h0,gx,gy,news,sp,h1,h2,h3⟩:=h
       split at h3
       · rename_i k es hx
         obtain ⟨t,q1,q2,q3,q4,q5,q6,rfl⟩:=h3
         exact ⟨_,⟨h0,gx,gy,news,sp,h1,h2,by rw [hx]; exact ⟨t,q1,q2,q3,q4,q5,q6,rfl⟩⟩,(app_tok _ _ _ _).symm⟩
       · rename_i hx
         obtain ⟨d,q1,q2,q3,q4,rfl⟩:=h3
         exact ⟨_,⟨h0,gx,gy,news,sp,h1,h2,by rw [hx]; exact ⟨d,q1,q2,q3,q4,rfl⟩⟩,(app_tok _ _ _ _).symm⟩
       · exact h3.elim)
theorem step_of_eff {o:IOper} {δ:Delta} (h:Eff P G o σ δ):StepI P G o σ (σ.app o.dst δ):=by
  obtain ⟨dst,op,gd,fp⟩:=o
  cases op <;> first
    | (obtain ⟨g,h1,out,h2,h3,rfl⟩:=h; exact ⟨g,h1,out,h2,h3,app_none _ _⟩)
    | (obtain ⟨g,h1,rfl⟩:=h; exact ⟨g,h1,app_none _ _⟩)
    | (obtain ⟨g,h1,gc,t,h2,h3,rfl⟩:=h; exact ⟨g,h1,gc,t,h2,h3,app_none _ _⟩)
    | (obtain ⟨g,h1,cs,res,h2,rfl⟩:=h; exact ⟨g,h1,cs,res,h2,app_none _ _⟩)
    | (obtain ⟨g,h1,fv,xs,x,hh,res,hh',h2,rfl⟩:=h
       refine ⟨g,h1,fv,xs,x,hh,res,hh',h2,?_⟩
       cases g
       · exact app_none _ _
       · exact app_over _ _ _ _)
    | (obtain ⟨h0,d,y,h1,h2,h3,rfl⟩:=h; exact ⟨h0,d,y,h1,h2,h3,app_obj _ _ _ _⟩)
    | (obtain ⟨h0,d,h1,h2,rfl⟩:=h; exact ⟨h0,d,h1,h2,app_obj _ _ _ _⟩)
    | (obtain ⟨h0,j,b,x,yv,h1,h2,h3,h4,h5,h6,h7,h8,rfl⟩:=h; exact ⟨h0,j,b,x,yv,h1,h2,h3,h4,h5,h6,h7,h8,app_obj _ _ _ _⟩)
    | (obtain ⟨h0,d,n,m,h1,h2,h3,h4,h5,h6,h7,h8,h9,rfl⟩:=h; exact ⟨h0,d,n,m,h1,h2,h3,h4,h5,h6,h7,h8,h9,app_obj _ _ _ _⟩)
    | (obtain ⟨h0,k,i,off,b,yv,h1,h2,hmp,h3,h4,h5,h6,rfl⟩:=h; exact ⟨h0,k,i,off,b,yv,h1,h2,hmp,h3,h4,h5,h6,app_obj _ _ _ _⟩)
    | (obtain ⟨h0,es,h1,h2,h3⟩:=h
       cases gd with
       | none=>obtain ⟨d,h4,h5,rfl⟩:=h3; exact ⟨h0,es,h1,h2,d,h4,h5,app_tok _ _ _ _⟩
       | some gd=>obtain ⟨g,h4,rfl⟩:=h3; exact ⟨h0,es,h1,h2,g,h4,app_none _ _⟩)
    | (obtain ⟨h0,gx,gy,news,sp,h1,h2,h3⟩:=h
       split at h3
       · rename_i k es hx
         obtain ⟨t,q1,q2,q3,q4,q5,q6,rfl⟩:=h3
         exact ⟨h0,gx,gy,news,sp,h1,h2,by rw [hx]; exact ⟨t,q1,q2,q3,q4,q5,q6,app_tok _ _ _ _⟩⟩
       · rename_i hx
         obtain ⟨d,q1,q2,q3,q4,rfl⟩:=h3
         exact ⟨h0,gx,gy,news,sp,h1,h2,by rw [hx]; exact ⟨d,q1,q2,q3,q4,app_tok _ _ _ _⟩⟩
       · exact h3.elim)
def Agree (l:List Nat) (σ τ:S):Prop:=∀ n∈l,σ.tmps n = τ.tmps n
theorem Agree.val {l:List Nat} (h:Agree l σ τ) {d:D} (hd:∀ n∈d.tmp?,n∈l):d.val σ = d.val τ:=by
  cases d with
  | t n=>exact h n (hd n (by simp [D.tmp?]))
  | k r=>rfl
theorem Agree.guard {gd:Option (Nat × Bool)} (h:∀ s b,gd = some (s,b)→σ.tmps s = τ.tmps s):guardO σ gd = guardO τ gd:=by
  cases gd with
  | none=>rfl
  | some p=>obtain ⟨s,b⟩:=p; simp only [guardO,h s b rfl]
structure Local (o:IOper) (σ τ:S):Prop where
  tmps:∀ n∈o.reads,σ.tmps n = τ.tmps n
  ro:∀ k,fpK o.ro k→σ.objs k = τ.objs k
  wo:∀ k,fpK o.wo k→σ.objs k = τ.objs k
  wt:∀ k,fpK o.wt k→σ.toks k = τ.toks k
  ext:o.isCall = true→σ.ext = τ.ext
theorem map_val {ds:List D} {α:Type} (f:T→α) (h:∀ d∈ds,d.val σ = d.val τ):ds.map (fun d=>f (d.val σ)) = ds.map (fun d=>f (d.val τ)) :=
  List.map_congr_left fun d hd=>by rw [h d hd]
theorem all_val {ds:List D} (h:∀ d∈ds,d.val σ = d.val τ):(ds.all fun d=>(d.val σ).g) = (ds.all fun d=>(d.val τ).g):=by
  induction ds with
  | nil=>rfl
  | cons d ds ih=>simp only [List.all_cons]; rw [h d (by simp),ih fun x hx=>h x (List.mem_cons_of_mem _ hx)]
theorem loadO_congr {n:Option Nat} {r:R} (h:∀ k,r.key? = some k→σ.objs k = τ.objs k):loadO σ n r = loadO τ n r:=by
  unfold loadO
  split
  · rfl
  · rename_i k i off; rw [h k rfl]
  · rfl
theorem iaddrO_congr {s:Nat} {r q:R} (h:∀ k,r.key? = some k→σ.objs k = τ.objs k):iaddrO σ s r q = iaddrO τ s r q:=by
  unfold iaddrO
  split
  · rfl
  · rfl
  · rename_i k off n c kk i; rw [h k rfl]
  · rfl
theorem mlookO_congr {d:TypeDesc} {one comma:Bool} {z:List A} {r q:R} (h:∀ k,r.key? = some k→σ.objs k = τ.objs k):mlookO σ d one comma z r q = mlookO τ d one comma z r q:=by
  unfold mlookO
  split
  · rename_i k x; rw [h k rfl]
  · rfl
theorem pureO_congr {op:IOp} (h:∀ n∈op.tmps,σ.tmps n = τ.tmps n) (ho:∀ x,op.main? = some x→∀ k,(x.val σ).r.key? = some k→σ.objs k = τ.objs k):pureO σ op = pureO τ op:=by
  have v:∀ d:D,(∀ n∈d.tmp?,n∈op.tmps)→d.val σ = d.val τ:=fun d hd=>Agree.val (l:=op.tmps) h hd
  cases op with
  | build z ps =>
    have hv:∀ p∈ps,p.2.2.val σ = p.2.2.val τ:=fun p hp=>v _ fun n hn=>by simp only [IOp.tmps,List.mem_flatMap]; exact ⟨p,hp,hn⟩
    have e1:(ps.map fun p=>(p.1,p.2.1,(p.2.2.val σ).r)) = ps.map fun p=>(p.1,p.2.1,(p.2.2.val τ).r):=List.map_congr_left fun p hp=>by rw [hv p hp]
    have e2:(ps.all fun p=>(p.2.2.val σ).g) = ps.all fun p=>(p.2.2.val τ).g:=by
      clear e1 v h ho
      induction ps with
      | nil=>rfl
      | cons p ps ih=>simp only [List.all_cons]; rw [hv p (by simp),ih fun x hx=>hv x (List.mem_cons_of_mem _ hx)]
    simp only [pureO,e1,e2]
  | load n x =>
    have e1:=v x (fun n hn=>by simp [IOp.tmps,hn])
    have e2:=loadO_congr (n:=n) (ho x rfl)
    simp only [pureO,e2]
    simp only [e1]
  | iaddr s x y =>
    have e1:=v x (fun n hn=>by simp [IOp.tmps,hn])
    have e2:=v y (fun n hn=>by simp [IOp.tmps,hn])
    have e4:=iaddrO_congr (s:=s) (q:=(y.val σ).r) (ho x rfl)
    simp only [pureO,e4]
    simp only [e1,e2]
  | mlook d b c z m k =>
    have e1:=v m (fun n hn=>by simp [IOp.tmps,hn])
    have e2:=v k (fun n hn=>by simp [IOp.tmps,hn])
    have e4:=mlookO_congr (d:=d) (one:=b) (comma:=c) (z:=z) (q:=(k.val σ).r) (ho m rfl)
    simp only [pureO,e4]
    simp only [e1,e2]
  | ssl x lo hi =>
    have e1:=v x (fun n hn=>by simp [IOp.tmps,hn])
    cases lo <;> cases hi <;> simp only [pureO,e1,Option.map_none,Option.all_none,Option.map_some,Option.all_some]
    · rename_i d; rw [v d (fun n hn=>by simp [IOp.tmps,hn])]
    · rename_i d; rw [v d (fun n hn=>by simp [IOp.tmps,hn])]
    · rename_i d e; rw [v d (fun n hn=>by simp [IOp.tmps,hn]),v e (fun n hn=>by simp [IOp.tmps,hn])]
  | vsl s x lo hi =>
    have e1:=v x (fun n hn=>by simp [IOp.tmps,hn])
    cases lo <;> cases hi <;> simp only [pureO,e1,Option.map_none,Option.all_none,Option.map_some,Option.all_some]
    · rename_i d; rw [v d (fun n hn=>by simp [IOp.tmps,hn])]
    · rename_i d; rw [v d (fun n hn=>by simp [IOp.tmps,hn])]
    · rename_i d e; rw [v d (fun n hn=>by simp [IOp.tmps,hn]),v e (fun n hn=>by simp [IOp.tmps,hn])]
  | clo f fs cs =>
    have h1:∀ d∈fs,d.val σ = d.val τ:=fun d hd=>v d fun n hn=>by simp only [IOp.tmps,List.mem_append,List.mem_flatMap]; exact .inl ⟨d,hd,hn⟩
    have h2:∀ d∈cs,d.val σ = d.val τ:=fun d hd=>v d fun n hn=>by simp only [IOp.tmps,List.mem_append,List.mem_flatMap]; exact .inr ⟨d,hd,hn⟩
    simp only [pureO,all_val h1,all_val h2,map_val T.r h1,map_val T.r h2]
  | mki t x=>simp only [pureO,v x (fun n hn=>by simp [IOp.tmps,hn])]
  | asrt t c o z x=>simp only [pureO,v x (fun n hn=>by simp [IOp.tmps,hn])]
  | nilchk x=>simp only [pureO,v x (fun n hn=>by simp [IOp.tmps,hn])]
  | sindex x y=>simp only [pureO,v x (fun n hn=>by simp [IOp.tmps,hn]),v y (fun n hn=>by simp [IOp.tmps,hn])]
  | bin op x y=>simp only [pureO,v x (fun n hn=>by simp [IOp.tmps,hn]),v y (fun n hn=>by simp [IOp.tmps,hn])]
  | eqs b ks x y=>simp only [pureO,v x (fun n hn=>by simp [IOp.tmps,hn]),v y (fun n hn=>by simp [IOp.tmps,hn])]
  | eqb b x y=>simp only [pureO,v x (fun n hn=>by simp [IOp.tmps,hn]),v y (fun n hn=>by simp [IOp.tmps,hn])]
  | faddr o x=>simp only [pureO,v x (fun n hn=>by simp [IOp.tmps,hn])]
  | field o q x=>simp only [pureO,v x (fun n hn=>by simp [IOp.tmps,hn])]
  | un o x=>simp only [pureO,v x (fun n hn=>by simp [IOp.tmps,hn])]
  | conv o x=>simp only [pureO,v x (fun n hn=>by simp [IOp.tmps,hn])]
  | bytes x=>simp only [pureO,v x (fun n hn=>by simp [IOp.tmps,hn])]
  | len x=>simp only [pureO,v x (fun n hn=>by simp [IOp.tmps,hn])]
  | slen x=>simp only [pureO,v x (fun n hn=>by simp [IOp.tmps,hn])]
  | ext x i=>simp only [pureO,v x (fun n hn=>by simp [IOp.tmps,hn])]
  | gidx a b c x=>simp only [pureO,v x (fun n hn=>by simp [IOp.tmps,hn])]
  | _=>rfl
theorem main_tmps {op:IOp} {x:D} (h:op.main? = some x):∀ n∈x.tmp?,n∈op.tmps:=by
  intro n hn
  cases op <;> simp only [IOp.main?,Option.some.injEq,reduceCtorEq] at h <;> subst h <;> simp [IOp.tmps,hn]
theorem touched_congr {o:IOper} (hl:∀ n∈o.op.tmps,σ.tmps n = τ.tmps n) (h:touched o σ):touched o τ:=by
  unfold touched at h ⊢
  split
  · trivial
  · rename_i x hx
    rw [hx] at h
    intro k hk
    rw [← Agree.val (l:=o.op.tmps) hl (main_tmps hx)] at hk
    exact h k hk
theorem Lends.congr {x:Bool} {h h':Hp} {fp:Option (List Nat)} (hl:Lends σ x h h') (hfp:∀ k,(h.objs k≠none∨h.toks k≠none∨h'.objs k≠none∨h'.toks k≠none)→fpK fp k)
    (h1:∀ k,fpK fp k→σ.objs k = τ.objs k) (h2:∀ k,fpK fp k→σ.toks k = τ.toks k) (h3:σ.ext = τ.ext):Lends τ x h h' where
  obj:=fun k b hk=>by rw [← h1 k (hfp k (.inl (by rw [hk]; simp)))]; exact hl.obj k b hk
  tok:=fun k b hk=>by rw [← h2 k (hfp k (.inr (.inl (by rw [hk]; simp))))]; exact hl.tok k b hk
  ext:=by rw [← h3]; exact hl.ext
  obj':=hl.obj'
  tok':=hl.tok'
  newO:=fun k hk hn=>by rw [← h1 k (hfp k (.inr (.inr (.inl hk))))]; exact hl.newO k hk hn
  newT:=fun k hk hn=>by rw [← h2 k (hfp k (.inr (.inr (.inr hk))))]; exact hl.newT k hk hn
theorem Eff.congr {o:IOper} {δ:Delta} (ht0:touched o σ) (h:Eff P G o σ δ) (hl:Local o σ τ):Eff P G o τ δ:=by
  obtain ⟨dst,op,gd,fp⟩:=o
  have ht:∀ n∈op.tmps,σ.tmps n = τ.tmps n:=fun n hn=>hl.tmps n (List.mem_append_left _ hn)
  have hg:guardO σ gd = guardO τ gd:=Agree.guard fun s b e=>hl.tmps s (by subst e; simp [IOper.reads])
  have v:∀ d:D,(∀ n∈d.tmp?,n∈op.tmps)→d.val σ = d.val τ:=fun d hd=>Agree.val (l:=op.tmps) ht hd
  have pure:(∃ g,guardO σ gd = some g∧∃ out,pureO σ op = some out∧(g = true→out.need)∧δ = ⟨.k g out.val,no,no,none⟩)→(∀ x,op.main? = some x→∀ k,(x.val σ).r.key? = some k→σ.objs k = τ.objs k) →
      (∃ g,guardO τ gd = some g∧∃ out,pureO τ op = some out∧(g = true→out.need)∧δ = ⟨.k g out.val,no,no,none⟩):=fun ⟨g,h1,out,h2,h3⟩ ho=>⟨g,by rw [← hg]; exact h1,out,by rw [← pureO_congr ht ho]; exact h2,h3⟩
  cases op with
  | move x =>
    obtain ⟨g,h1,rfl⟩:=h
    exact ⟨g,by rw [← hg]; exact h1,by rw [v x (fun n hn=>by simp [IOp.tmps,hn])]⟩
  | pick c a b =>
    obtain ⟨g,h1,gc,t,h2,h3,rfl⟩:=h
    exact ⟨g,by rw [← hg]; exact h1,gc,t,by rw [← v c (fun n hn=>by simp [IOp.tmps,hn])]; exact h2,h3,by rw [v a (fun n hn=>by simp [IOp.tmps,hn]),v b (fun n hn=>by simp [IOp.tmps,hn])]⟩
  | callp f args =>
    obtain ⟨g,h1,cs,res,h2,rfl⟩:=h
    have hv:∀ d∈args,d.val σ = d.val τ:=fun d hd=>v d fun n hn=>by simp only [IOp.tmps,List.mem_append,List.mem_flatMap]; exact .inr ⟨d,hd,hn⟩
    refine ⟨g,by rw [← hg]; exact h1,cs,res,fun e=>?_,rfl⟩
    obtain ⟨q1,q2,fn,q4,q3⟩:=h2 e
    exact ⟨by rw [← all_val hv]; exact q1,by rw [← map_val T.r hv]; exact q2,fn,by rw [← v f (fun n hn=>by simp [IOp.tmps,hn])]; exact q4,q3⟩
  | gload x =>
    obtain ⟨g,h1,a,u,h2,rfl⟩:=h
    exact ⟨g,by rw [← hg]; exact h1,a,u,fun e=>by rw [← v x (fun n hn=>by simp [IOp.tmps,hn])]; exact h2 e,rfl⟩
  | call f args =>
    obtain ⟨g,h1,fv,xs,x,hh,res,hh',h2,rfl⟩:=h
    have hv:∀ d∈args,d.val σ = d.val τ:=fun d hd=>v d fun n hn=>by simp only [IOp.tmps,List.mem_append,List.mem_flatMap]; exact .inr ⟨d,hd,hn⟩
    refine ⟨g,by rw [← hg]; exact h1,fv,xs,x,hh,res,hh',fun e=>?_,rfl⟩
    obtain ⟨q1,q2,q3,q4,q5,q6⟩:=h2 e
    exact ⟨by rw [← all_val hv]; exact q1,by rw [← map_val T.r hv]; exact q2,by rw [← v f (fun n hn=>by simp [IOp.tmps,hn])]; exact q3,q4,q5.congr q6 hl.ro hl.wt (hl.ext rfl),q6⟩
  | box ty x =>
    obtain ⟨h0,d,y,h1,h2,h3,rfl⟩:=h
    simp only at h1; subst h1
    exact ⟨h0,d,y,rfl,by rw [← hl.wo d (by simp [IOper.wo,fpK])]; exact h2,by rw [← v x (fun n hn=>by simp [IOp.tmps,hn])]; exact h3,rfl⟩
  | zero ty z =>
    obtain ⟨h0,d,h1,h2,rfl⟩:=h
    simp only at h1; subst h1
    exact ⟨h0,d,rfl,by rw [← hl.wo d (by simp [IOper.wo,fpK])]; exact h2,rfl⟩
  | rowb ty size ps =>
    obtain ⟨h0,d,es,h1,h2,⟨h3,h4,h5⟩,rfl⟩:=h
    simp only at h1; subst h1
    have hv:∀ d∈ps,d.val σ = d.val τ:=fun d hd=>v d fun n hn=>by simp only [IOp.tmps,List.mem_flatMap]; exact ⟨d,hd,hn⟩
    exact ⟨h0,d,es,rfl,by rw [← hl.wo d (by simp [IOper.wo,fpK])]; exact h2,⟨by rw [← all_val hv]; exact h3,by rw [← map_val T.r hv]; exact h4,h5⟩,rfl⟩
  | appb ty size bytes x y =>
    obtain ⟨h0,d,news,h1,h2,⟨h3,h4,⟨sp,h5⟩,h6⟩,rfl⟩:=h
    simp only at h1; subst h1
    have ex:=v x (fun n hn=>by simp [IOp.tmps,hn])
    have ey:=v y (fun n hn=>by simp [IOp.tmps,hn])
    exact ⟨h0,d,news,rfl,by rw [← hl.wo d (by simp [IOper.wo,fpK])]; exact h2,⟨by rw [← ex]; exact h3,by rw [← ey]; exact h4,⟨sp,by rw [← ey]; exact h5⟩,h6⟩,rfl⟩
  | row ty size ps =>
    obtain ⟨h0,es,h1,h2,h3⟩:=h
    have hv:∀ d∈ps,d.val σ = d.val τ:=fun d hd=>v d fun n hn=>by simp only [IOp.tmps,List.mem_flatMap]; exact ⟨d,hd,hn⟩
    refine ⟨by rw [← all_val hv]; exact h0,es,by rw [← map_val T.r hv]; exact h1,h2,?_⟩
    cases gd with
    | none =>
      obtain ⟨d,h4,h5,rfl⟩:=h3
      simp only at h4; subst h4
      exact ⟨d,rfl,by rw [← hl.wt d (by simp [IOper.wt,fpK])]; exact h5,rfl⟩
    | some gd=>obtain ⟨g,h4,rfl⟩:=h3; exact ⟨g,by rw [← hg]; exact h4,rfl⟩
  | app ty size bytes x y =>
    obtain ⟨h0,gx,gy,news,sp,h1,h2,h3⟩:=h
    have ex:=v x (fun n hn=>by simp [IOp.tmps,hn])
    have ey:=v y (fun n hn=>by simp [IOp.tmps,hn])
    have hk:∀ k,(x.val σ).r.key? = some k→fpK fp k:=ht0
    refine ⟨by rw [← hg]; exact h0,by rw [← ex]; exact gx,by rw [← ey]; exact gy,news,sp,by rw [← ey]; exact h1,h2,?_⟩
    rw [← ex]
    split at h3
    · rename_i k es hx
      obtain ⟨t,q1,q2⟩:=h3
      refine ⟨t,?_,q2⟩
      rw [← hl.wt k ?_]
      · exact q1
      · have:=hk k (by rw [hx]; rfl)
        cases fp with
        | none=>trivial
        | some ks=>simp only [IOper.wt,Option.map_some,fpK]; exact List.mem_append_right _ this
    · rename_i hx
      obtain ⟨d,q1,q2,q3⟩:=h3
      simp only at q1; subst q1
      refine ⟨d,rfl,?_,q3⟩
      rw [← hl.wt d ?_]
      · exact q2
      · cases fp with
        | none=>trivial
        | some ks=>simp [IOper.wt,fpK]
    · exact h3.elim
  | make ty size bytes z l c =>
    obtain ⟨h0,d,n,m,h1,h2,h3,h4,h5⟩:=h
    simp only at h1; subst h1
    exact ⟨h0,d,n,m,rfl,by rw [← hl.wo d (by simp [IOper.wo,fpK])]; exact h2,by rw [← v l (fun n hn=>by simp [IOp.tmps,hn])]; exact h3,by rw [← v c (fun n hn=>by simp [IOp.tmps,hn])]; exact h4,h5⟩
  | store n x y =>
    obtain ⟨h0,k,i,off,b,yv,h1,h2,hmp,h3,h4⟩:=h
    have hk:fpK fp k:=ht0 k (by rw [h1]; rfl)
    exact ⟨h0,k,i,off,b,yv,by rw [← v x (fun n hn=>by simp [IOp.tmps,hn])]; exact h1,by rw [← hl.ro k hk]; exact h2,hmp,by rw [← v y (fun n hn=>by simp [IOp.tmps,hn])]; exact h3,h4⟩
  | load n x=>exact pure h fun y hy k hk=>hl.ro k (by simp only [IOp.main?,Option.some.injEq] at hy; subst hy; exact ht0 k hk)
  | iaddr s x y=>exact pure h fun y hy k hk=>hl.ro k (by simp only [IOp.main?,Option.some.injEq] at hy; subst hy; exact ht0 k hk)
  | mlook d b c z m k=>exact pure h fun y hy k hk=>hl.ro k (by simp only [IOp.main?,Option.some.injEq] at hy; subst hy; exact ht0 k hk)
  | mkmap dk size one =>
    obtain ⟨h0,d,h1,h2,rfl⟩:=h
    simp only at h1; subst h1
    exact ⟨h0,d,rfl,by rw [← hl.wo d (by simp [IOper.wo,fpK])]; exact h2,rfl⟩
  | mapup dk one m k y =>
    obtain ⟨h0,j,b,x,yv,h1,h2,h3,h4,h5,h6,h7⟩:=h
    have hk:fpK fp j:=ht0 j (by rw [h1]; rfl)
    exact ⟨h0,j,b,x,yv,by rw [← v m (fun n hn=>by simp [IOp.tmps,hn])]; exact h1,by rw [← hl.ro j hk]; exact h2,h3,by rw [← v k (fun n hn=>by simp [IOp.tmps,hn])]; exact h4,h5,by rw [← v y (fun n hn=>by simp [IOp.tmps,hn])]; exact h6,h7⟩
  | _=>exact pure h fun y hy=>by cases hy
end
end Go.Fx

namespace Go.Fx
open Go.RowKit
section
variable {P:Program} {G:World→Prop} {σ σ' τ:S}
theorem on1_ne {α:Type} {j k:Nat} {x:α} (h:on1 j x k≠none):k = j:=by
  unfold on1 at h
  by_cases e:k = j
  · exact e
  · rw [if_neg e] at h; exact absurd rfl h
theorem Eff.supp {o:IOper} {δ:Delta} (ht0:touched o σ) (h:Eff P G o σ δ):(∀ k,δ.ob k≠none→fpK o.wo k)∧(∀ k,δ.tk k≠none→fpK o.wt k)∧(δ.ex≠none→o.isCall = true):=by
  obtain ⟨dst,op,gd,fp⟩:=o
  have nt:∀ t,(∀ k,(Delta.mk t no no none).ob k≠none→fpK (IOper.mk dst op gd fp).wo k)∧(∀ k,(Delta.mk t no no none).tk k≠none→fpK (IOper.mk dst op gd fp).wt k)∧((Delta.mk t no no none).ex≠none→(IOper.mk dst op gd fp).isCall = true) :=
    fun t=>⟨fun k h=>absurd rfl h,fun k h=>absurd rfl h,fun h=>absurd rfl h⟩
  have ob:∀ t d b,fpK (IOper.mk dst op gd fp).wo d→(∀ k,(Delta.mk t (on1 d b) no none).ob k≠none→fpK (IOper.mk dst op gd fp).wo k)∧(∀ k,(Delta.mk t (on1 d b) no none).tk k≠none→fpK (IOper.mk dst op gd fp).wt k)∧((Delta.mk t (on1 d b) no none).ex≠none→(IOper.mk dst op gd fp).isCall = true) :=
    fun t d b hd=>⟨fun k h=>by rw [on1_ne (show on1 d b k≠none from h)]; exact hd,fun k h=>absurd rfl h,fun h=>absurd rfl h⟩
  have tk:∀ t d b,fpK (IOper.mk dst op gd fp).wt d→(∀ k,(Delta.mk t no (on1 d b) none).ob k≠none→fpK (IOper.mk dst op gd fp).wo k)∧(∀ k,(Delta.mk t no (on1 d b) none).tk k≠none→fpK (IOper.mk dst op gd fp).wt k)∧((Delta.mk t no (on1 d b) none).ex≠none→(IOper.mk dst op gd fp).isCall = true) :=
    fun t d b hd=>⟨fun k h=>absurd rfl h,fun k h=>by rw [on1_ne (show on1 d b k≠none from h)]; exact hd,fun h=>absurd rfl h⟩
  cases op with
  | move x=>obtain ⟨g,h1,rfl⟩:=h; exact nt _
  | pick c a b=>obtain ⟨g,h1,gc,t,h2,h3,rfl⟩:=h; exact nt _
  | callp f args=>obtain ⟨g,h1,cs,res,h2,rfl⟩:=h; exact nt _
  | gload x=>obtain ⟨g,h1,a,v,h2,rfl⟩:=h; exact nt _
  | call f args =>
    obtain ⟨g,h1,fv,xs,x,hh,res,hh',h2,rfl⟩:=h
    cases g with
    | false=>exact nt _
    | true =>
      obtain ⟨q1,q2,q3,q4,q5,q6⟩:=h2 rfl
      exact ⟨fun k hk=>q6 k (.inr (.inr (.inl hk))),fun k hk=>q6 k (.inr (.inr (.inr hk))),fun _=>rfl⟩
  | box ty x=>obtain ⟨h0,d,y,h1,h2,h3,rfl⟩:=h; simp only at h1; subst h1; exact ob _ _ _ (by simp [IOper.wo,fpK])
  | zero ty z=>obtain ⟨h0,d,h1,h2,rfl⟩:=h; simp only at h1; subst h1; exact ob _ _ _ (by simp [IOper.wo,fpK])
  | mkmap dk size one=>obtain ⟨h0,d,h1,h2,rfl⟩:=h; simp only at h1; subst h1; exact ob _ _ _ (by simp [IOper.wo,fpK])
  | make ty size bytes z l c=>obtain ⟨h0,d,n,m,h1,h2,h3,h4,h5,h6,h7,h8,h9,rfl⟩:=h; simp only at h1; subst h1; exact ob _ _ _ (by simp [IOper.wo,fpK])
  | store n x y=>obtain ⟨h0,k,i,off,b,yv,h1,h2,hmp,h3,h4,h5,h6,rfl⟩:=h; exact ob _ _ _ (ht0 k (by rw [h1]; rfl))
  | mapup dk one m k v=>obtain ⟨h0,j,b,x,yv,h1,h2,h3,h4,h5,h6,h7,h8,rfl⟩:=h; exact ob _ _ _ (ht0 j (by rw [h1]; rfl))
  | rowb ty size ps=>obtain ⟨h0,d,y,h1,h2,h3,rfl⟩:=h; simp only at h1; subst h1; exact ob _ _ _ (by simp [IOper.wo,fpK])
  | appb ty size bytes x y=>obtain ⟨h0,d,y,h1,h2,h3,rfl⟩:=h; simp only at h1; subst h1; exact ob _ _ _ (by simp [IOper.wo,fpK])
  | row ty size ps =>
    obtain ⟨h0,es,h1,h2,h3⟩:=h
    cases gd with
    | none=>obtain ⟨d,h4,h5,rfl⟩:=h3; simp only at h4; subst h4; exact tk _ _ _ (by simp [IOper.wt,fpK])
    | some gd=>obtain ⟨g,h4,rfl⟩:=h3; exact nt _
  | app ty size bytes x y =>
    obtain ⟨h0,gx,gy,news,sp,h1,h2,h3⟩:=h
    split at h3
    · rename_i k es hx
      obtain ⟨t,q1,q2,q3,q4,q5,q6,rfl⟩:=h3
      refine tk _ _ _ ?_
      have:=ht0 k (by rw [hx]; rfl)
      cases fp with
      | none=>trivial
      | some ks=>simp only [IOper.wt,Option.map_some,fpK]; exact List.mem_append_right _ this
    · obtain ⟨d,q1,q2,q3,q4,rfl⟩:=h3
      simp only at q1; subst q1
      refine tk _ _ _ ?_
      cases fp with
      | none=>trivial
      | some ks=>simp [IOper.wt,fpK]
    · exact h3.elim
  | _=>obtain ⟨g,h1,out,h2,h3,rfl⟩:=h; exact nt _
theorem app_tmps (d:Option Nat) (δ:Delta) (n:Nat):(σ.app d δ).tmps n = if d = some n then δ.t else σ.tmps n:=by
  cases d with
  | none=>simp [S.app,S.put]
  | some d =>
    simp only [S.app,S.put]
    by_cases h:n = d
    · subst h; simp
    · rw [if_neg h,if_neg (by intro e; injection e with e; exact h e.symm)]
theorem app_objs_none {d:Option Nat} {δ:Delta} {k:Nat} (h:δ.ob k = none):(σ.app d δ).objs k = σ.objs k:=by simp [S.app,h]
theorem app_toks_none {d:Option Nat} {δ:Delta} {k:Nat} (h:δ.tk k = none):(σ.app d δ).toks k = σ.toks k:=by simp [S.app,h]
theorem apartI_spec {a b:IOper} (h:apartI a b = true):(∀ d,a.dst = some d→d ∉ b.reads∧b.dst≠some d)∧(∀ d,b.dst = some d→d ∉ a.reads) ∧
    disj a.wo b.ro = true∧disj a.wo b.wo = true∧disj b.wo a.ro = true∧disj a.wt b.wt = true∧¬ (a.isCall = true∧b.isCall = true):=by
  unfold apartI at h
  simp only [Bool.and_eq_true] at h
  obtain ⟨⟨h1,h2⟩,⟨⟨⟨h3,h4⟩,h5⟩,h6⟩,h7⟩:=h
  refine ⟨fun d hd=>?_,fun d hd=>?_,h3,h4,h5,h6,fun e=>?_⟩
  · rw [hd] at h1; simp at h1; exact h1
  · rw [hd] at h2; simpa using h2
  · rw [e.1,e.2] at h7; cases h7
theorem commute {a b:IOper} (h:apartI a b = true) {σ1 σ2:S} (ha:touched a σ∧StepI P G a σ σ1) (hb:touched b σ1∧StepI P G b σ1 σ2):∃ τ,(touched b σ∧StepI P G b σ τ)∧(touched a τ∧StepI P G a τ σ2):=by
  obtain ⟨h1,h2,k1,k2,k3,k4,k5⟩:=apartI_spec h
  obtain ⟨ta,ha⟩:=ha
  obtain ⟨tb,hb⟩:=hb
  obtain ⟨δa,ea,rfl⟩:=eff_of_step ha
  obtain ⟨δb,eb,rfl⟩:=eff_of_step hb
  obtain ⟨aO,aT,aX⟩:=ea.supp ta
  obtain ⟨bO,bT,bX⟩:=eb.supp tb
  have nn:∀ {α:Type} {o:Option α},(o≠none→False)→o = none:=fun {α o} f=>by cases o with | none=>rfl | some x=>exact (f (by simp)).elim
  have hlb:Local b (σ.app a.dst δa) σ:={
    tmps:=fun n hn=>by
      rw [app_tmps]
      split
      · rename_i e; exact absurd hn (h1 n e).1
      · rfl
    ro:=fun k hk=>app_objs_none (nn fun e=>disj_spec k1 (aO k e) hk)
    wo:=fun k hk=>app_objs_none (nn fun e=>disj_spec k2 (aO k e) hk)
    wt:=fun k hk=>app_toks_none (nn fun e=>disj_spec k4 (aT k e) hk)
    ext:=fun e=>by
      have:δa.ex = none:=nn fun e2=>k5 ⟨aX e2,e⟩
      simp [S.app,this] }
  have tb':touched b σ:=touched_congr (fun n hn=>hlb.tmps n (List.mem_append_left _ hn)) tb
  have eb':Eff P G b σ δb:=eb.congr tb hlb
  have hla:Local a σ (σ.app b.dst δb):={
    tmps:=fun n hn=>by
      rw [app_tmps]
      split
      · rename_i e; exact absurd hn (h2 n e)
      · rfl
    ro:=fun k hk=>(app_objs_none (nn fun e=>disj_spec k3 (bO k e) hk)).symm
    wo:=fun k hk=>(app_objs_none (nn fun e=>disj_spec k2 hk (bO k e))).symm
    wt:=fun k hk=>(app_toks_none (nn fun e=>disj_spec k4 hk (bT k e))).symm
    ext:=fun e=>by
      have:δb.ex = none:=nn fun e2=>k5 ⟨e,bX e2⟩
      simp [S.app,this] }
  have ta':touched a (σ.app b.dst δb):=touched_congr (fun n hn=>hla.tmps n (List.mem_append_left _ hn)) ta
  have ea':Eff P G a (σ.app b.dst δb) δa:=ea.congr ta hla
  refine ⟨_,⟨tb',step_of_eff eb'⟩,ta',?_⟩
  have key:(σ.app b.dst δb).app a.dst δa = (σ.app a.dst δa).app b.dst δb:=by
    have e1:((σ.app b.dst δb).app a.dst δa).tmps = ((σ.app a.dst δa).app b.dst δb).tmps:=by
      funext n
      simp only [app_tmps]
      by_cases ha:a.dst = some n
      · rw [if_pos ha,if_neg (h1 n ha).2,if_pos ha]
      · rw [if_neg ha,if_neg ha]
    have e2:((σ.app b.dst δb).app a.dst δa).objs = ((σ.app a.dst δa).app b.dst δb).objs:=by
      funext k
      simp only [S.app]
      cases hA:δa.ob k with
      | none=>rfl
      | some x =>
        have:δb.ob k = none:=nn fun e=>disj_spec k2 (aO k (by rw [hA]; simp)) (bO k e)
        rw [this]
    have e3:((σ.app b.dst δb).app a.dst δa).toks = ((σ.app a.dst δa).app b.dst δb).toks:=by
      funext k
      simp only [S.app]
      cases hA:δa.tk k with
      | none=>rfl
      | some x =>
        have:δb.tk k = none:=nn fun e=>disj_spec k4 (aT k (by rw [hA]; simp)) (bT k e)
        rw [this]
    have e4:((σ.app b.dst δb).app a.dst δa).ext = ((σ.app a.dst δa).app b.dst δb).ext:=by
      simp only [S.app]
      cases hA:δa.ex with
      | none=>simp
      | some x =>
        have:δb.ex = none:=nn fun e=>k5 ⟨aX (by rw [hA]; simp),bX e⟩
        rw [this]; simp
    show S.mk _ _ _ _ = S.mk _ _ _ _
    rw [S.mk.injEq]
    exact ⟨e1,e2,e3,e4⟩
  rw [← key]
  exact step_of_eff ea'
end
end Go.Fx
