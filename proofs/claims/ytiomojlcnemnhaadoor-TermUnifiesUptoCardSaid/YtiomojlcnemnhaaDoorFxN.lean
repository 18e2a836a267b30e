/- Fx, part N: appends to a slice of the function's own. -/
import Derived.Test.YtiomojlcnemnhaaDoorFxM
namespace Go.Fx
open Go.RowKit

section
variable {P : Program} {w0 : World} {V0 : Base} {N : Nat} {env : Env} {σ σ' : S} {a : Act} {w : World} {o : Oper} {toks : Nat → Option Tok}

theorem run_app {base : Nat} {t ty e : TypeId} {i : TypeInfo} {z : Value} {size : Nat} (ht : P.underlying t = some (.slice e)) (hi : P.info? e = some i) (hz : i.zero = some z)
    (hsize : i.size = size) (hzs : z.cells.size = size) {v : Value} {n : Nat} {xs : List Value} (hown : w.ownsRow base e size v n xs)
    {x : Value} {m : Nat} {news : List Value} (hx : ((x = .slice none 0 0 ∨ ∃ ad, x = .slice (some ad) 0 0) ∧ m = 0) ∨ ∃ b o c, x = .slice (some ⟨b, o, none⟩) m c ∧ ∀ (j : Nat) (u : Value), news[j]? = some u → w.cell? ⟨b, o + j, none⟩ = some u)
    (hl : news.length = m * size) (h1 : ∀ u ∈ news, u.oneCell' = true) (h63 : n + m ≤ maxLen) (hbytes : (n + m) * i.bytes ≤ maxBytes) (hbase : base ≤ w.heap.size) :
    ∃ v' w', (Builtin.append_ #[t, t] ty #[v, x]).run P w = .ok v' w' ∧ w'.ownsRow base e size v' (n + m) (xs ++ news) ∧
      ((v'.ownBlock = v.ownBlock ∧ w.grownBy w' v.ownBlock) ∨ (v'.ownBlock = some w.heap.size ∧ w.grownBy w' none)) ∧ (m = 0 → v' = v) := by
  subst hsize
  rcases hx with ⟨hx, rfl⟩ | ⟨b, o, c, rfl, hnews⟩
  · have hn : news = [] := List.eq_nil_of_length_eq_zero (by simpa using hl)
    subst hn
    refine ⟨v, w, ?_, by simpa using hown, .inl ⟨rfl, World.grownBy.refl w _⟩, fun _ => rfl⟩
    rcases hx with rfl | ⟨ad, rfl⟩ <;> rcases hown.2 with ⟨rfl, rfl⟩ | ⟨g, cap, cur, rfl, _, _, hnc, _⟩
    · simp [Builtin.append_, run_underlying ht, sizeOf, typeInfo, hi, Builtin.lenOf, Builtin.firstCells]
    · simp [Builtin.append_, run_underlying ht, sizeOf, typeInfo, hi, Builtin.lenOf, Builtin.firstCells, hnc, storeCells]
    · simp [Builtin.append_, run_underlying ht, sizeOf, typeInfo, hi, Builtin.lenOf, Builtin.firstCells, loadCells, loadCellsFrom]
    · simp [Builtin.append_, run_underlying ht, sizeOf, typeInfo, hi, Builtin.lenOf, Builtin.firstCells, hnc, storeCells, loadCells, loadCellsFrom]
  · have hnews' : ∀ (j : Nat) (u : Value), news[j]? = some u → w.cell? ((⟨b, o, none⟩ : Addr).add j) = some u := fun j u hj => by rw [add_at]; exact hnews j u hj
    have hsmall : n + m ≤ 9223372036854775807 := by simp only [maxLen] at h63; omega
    have hlen : (xs ++ news).length = (n + m) * i.size := by rw [List.length_append, hown.1, hl, Nat.add_mul]
    unfold maxBytes at hbytes
    have grown : ∀ (old : Nat), (w.drew.alloc (.cells (xs.toArray ++ news.toArray ++ Builtin.zeroCells z.cells (grownCap w (n + m) old e - (n + m))) e)).ownsRow base e i.size
          (.slice (some ⟨w.heap.size, 0, none⟩) (n + m) (grownCap w (n + m) old e)) (n + m) (xs ++ news) ∧
        w.grownBy (w.drew.alloc (.cells (xs.toArray ++ news.toArray ++ Builtin.zeroCells z.cells (grownCap w (n + m) old e - (n + m))) e)) none := by
      intro old
      have hge := Go.grownCap_ge w (n + m) old e
      have hcm : grownCap w (n + m) old e ≤ maxLen := grownCap_le_maxLen w (n + m) old e h63
      refine ⟨⟨hlen, .inr ⟨w.heap.size, _, _, rfl, hbase, heap_alloc_new w.drew _, hge, hcm, ?_, ?_⟩⟩, ⟨rfl, rfl, rfl, by simp, fun k hk _ => Below.heap_alloc w.drew _ k hk⟩⟩
      · simp only [Array.size_append, List.size_toArray, size_zeroCells, hzs, hown.1, hl, ← Nat.add_mul]
        congr 1
        omega
      · simp only [Array.toList_append, List.append_assoc]
        rw [← List.append_assoc, ← hlen]
        exact List.take_left
    rcases hown.2 with ⟨rfl, rfl⟩ | ⟨g, cap, cur, rfl, hbg, hg, hnc, hcm, hcs, htake⟩
    · have hx : xs = [] := List.eq_nil_of_length_eq_zero (by simpa using hown.1)
      subst hx
      by_cases hm : m = 0
      · subst hm
        have hn : news = [] := List.eq_nil_of_length_eq_zero (by simpa using hl)
        subst hn
        refine ⟨.slice none 0 0, w, ?_, World.ownsRow_nil w base e i.size, .inl ⟨rfl, World.grownBy.refl w _⟩, fun _ => rfl⟩
        simp [Builtin.append_, run_underlying ht, sizeOf, typeInfo, hi, Builtin.lenOf, Builtin.firstCells, loadCells, loadCellsFrom]
      · have hr := run_append_nil (P := P) w t ty e i z ht hi hz ⟨b, o, none⟩ m c news hl hnews' (by omega) (by omega) (by simp only [Nat.zero_add] at hbytes; omega)
        have hgr := grown 0
        simp only [Nat.zero_add, List.nil_append, Array.empty_append] at hgr ⊢
        exact ⟨_, _, hr, hgr.1, .inr ⟨rfl, hgr.2⟩, fun h => absurd h hm⟩
    · by_cases hroom : n + m ≤ cap
      · have hfit : n * i.size + news.length ≤ cur.size := by rw [hl, hcs, ← Nat.add_mul]; exact Nat.mul_le_mul_right _ hroom
        have hr := run_append_room (P := P) w t ty e i ht hi g n cap cur hg ⟨b, o, none⟩ m c news hl hnews' h1 hroom hfit
        refine ⟨_, _, hr, ⟨hlen, .inr ⟨g, cap, _, rfl, hbg, setRow_heap w g cur _ e _ hg, hroom, hcm, ?_, ?_⟩⟩, .inl ⟨rfl, ⟨rfl, rfl, rfl, by simp, fun k _ hk => setRow_other w g k _ (fun e => hk (by simp [Value.ownBlock, e]))⟩⟩, fun h => by subst h; rfl⟩
        · simp only [List.size_toArray, List.length_append, List.length_take, List.length_drop, Array.length_toList]
          omega
        · rw [htake, ← hlen]
          exact List.take_left
      · have holds : ∀ j u, xs[j]? = some u → w.cell? ((⟨g, 0, none⟩ : Addr).add j) = some u := hown.cells (g := g) rfl
        have hr := run_append_grow (P := P) w t ty e i z ht hi hz ⟨g, 0, none⟩ n cap xs hown.1 holds ⟨b, o, none⟩ m c news hl hnews' (by omega) (by omega) (growslice_fits (by omega) hbytes)
        have hgr := grown cap
        exact ⟨_, _, hr, hgr.1, .inr ⟨rfl, hgr.2⟩, fun h => by omega⟩

/-- What is known of a closed slice's cells. -/
theorem sl_cells {V : Nat → Nat → Prop} {es sp : List (List C)} {v : Value} {size : Nat} (h : RepC V w (.sl es sp) v) (hs : ∀ e ∈ es, e.length = size) :
    ∃ us : List Value, us.length = es.length * size ∧ All2 (RepC V w) es.flatten us ∧
      (((v = .slice none 0 0 ∨ ∃ ad, v = .slice (some ad) 0 0) ∧ es.length = 0) ∨ ∃ b o c, v = .slice (some ⟨b, o, none⟩) es.length c ∧ ∀ (j : Nat) (u : Value), us[j]? = some u → w.cell? ⟨b, o + j, none⟩ = some u ∧ V b (o + j)) := by
  cases h with
  | nil c => exact ⟨[], by simp, All2.nil, .inl ⟨.inl rfl, rfl⟩⟩
  | emp ad => exact ⟨[], by simp, All2.nil, .inl ⟨.inr ⟨ad, rfl⟩, rfl⟩⟩
  | sl _ _ s b o n cap us hn hc hm hw hl hu hr =>
    subst hn
    have hfl : es.flatten.length = es.length * size := length_flatten es hs
    have hle : es.flatten.length ≤ us.length := by rw [hl, List.flatten_append, List.length_append]; omega
    refine ⟨us.take es.flatten.length, by rw [List.length_take, Nat.min_eq_left hle, hfl], ⟨by rw [List.length_take, Nat.min_eq_left hle], fun j c u hcj huj => ?_⟩, .inr ⟨b, o, cap, rfl, fun j u hj => ?_⟩⟩
    · rw [List.getElem?_take] at huj
      split at huj
      · refine hr j c u ?_ huj
        rw [List.flatten_append, List.getElem?_append_left ‹_›]
        exact hcj
      · cases huj
    · rw [List.getElem?_take] at hj
      split at hj
      · exact hu j u hj
      · cases hj

theorem rows_rep {r : R} {news sp : List (List C)} {v : Value} (h : RepR env toks w r v) (hr : r.rows? = some (news, sp)) : RepC env.V w (.sl news sp) v := by
  unfold R.rows? at hr
  split at hr
  · rename_i x
    cases x with
    | c y =>
      cases y with
      | sl es sp' => simp only [A.rows?, Option.some.injEq, Prod.mk.injEq] at hr; obtain ⟨rfl, rfl⟩ := hr; exact h
      | v x => simp [A.rows?] at hr
    | nil => simp only [A.rows?, Option.some.injEq, Prod.mk.injEq] at hr; obtain ⟨rfl, rfl⟩ := hr; cases h; exact .nil 0
    | own k es => simp only [A.rows?, Option.some.injEq, Prod.mk.injEq] at hr; obtain ⟨rfl, rfl⟩ := hr; exact h.1
    | ref => simp [A.rows?] at hr
    | arr => simp [A.rows?] at hr
    | mapr => simp [A.rows?] at hr
    | clo => simp [A.rows?] at hr
    | yld => simp [A.rows?] at hr
    | ifc => simp [A.rows?] at hr
    | elem => simp [A.rows?] at hr
    | lost => simp [A.rows?] at hr
  · cases hr

/-- The token's step, whatever it was before. -/
theorem good_app_core (hd : ∀ n, o.dst = some n → n < N) {c : Call} {t e : TypeId} {i : TypeInfo} {zl : List A} {x y : Operand} {dx dy : D} (hop : o.op = .call c) (hcal : c.callee = .builtin .append) (hargs : c.args.toList = [x, y]) (htys : c.argTypes.toList = [t, t])
    (ht : P.underlying t = some (.slice e)) (hi : P.info? e = some i) (hz : zeroIn P e = some zl) (hzl : zl.length = i.size) (_hx : cmpD x = some dx) (hy : cmpD y = some dy)
    (_gx : (dx.val σ).g = true) (gy : (dy.val σ).g = true) {news sp : List (List C)} (hr : (dy.val σ).r.rows? = some (news, sp)) (hw : ∀ q ∈ news, q.length = i.size)
    {k n : Nat} {es : List (List C)} (hn : es.length = n) (hes : ∀ q ∈ es, q.length = i.size) (h63 : n + news.length ≤ maxLen) (hbytes : (n + news.length) * i.bytes ≤ maxBytes) (hk : N ≤ 10000 → σ.toks k = none → ownKey k)
    (htok : ∀ env a w, Sim w0 V0 N env σ a w → ∃ v xs, a.eval x = v ∧ w.ownsRow 0 e i.size v n xs ∧ RepC env.V w (.sl es []) v ∧
      ((σ.toks k = none ∧ v.ownBlock = none) ∨ ∃ q, σ.toks k = some q ∧ env.τ k = some v ∧ q.ty = e ∧ q.size = i.size ∧ q.n = n)) :
    Good P w0 V0 N o σ ((σ.setTok k ⟨e, i.size, n + news.length⟩).put o.dst (.k true (.x (.one (.own k (es ++ news)))))) := fun rd rn env a w K Q hs hK => by
  obtain ⟨v, xs, ev, hown, hrep, hcase⟩ := htok env a w hs
  have hyrep := rows_rep (hs.opr hy gy) hr
  obtain ⟨us, hul, hur, hsrc⟩ := sl_cells hyrep hw
  obtain ⟨i', z, hi', hzv, hcz⟩ := zeroIn_rep (env := env) (toks := σ.toks) (w := w) hz
  rw [hi] at hi'; injection hi' with hi'; subst hi'
  have hzs : z.cells.size = i.size := by rw [← hzl, hcz.1]; simp
  have hone : ∀ u ∈ us, u.oneCell' = true := fun u hu => by obtain ⟨j, hj⟩ := List.getElem?_of_mem hu; obtain ⟨q, _, hq⟩ := hur.get' hj; exact hq.oneCell
  obtain ⟨v', w', hrun, hown', hgrow, hzero⟩ := run_app (P := P) (ty := o.type) ht hi hzv rfl hzs hown (x := a.eval y) (m := news.length) (news := us)
    (hsrc.imp id fun ⟨b, o, c, h1, h2⟩ => ⟨b, o, c, h1, fun j u hj => (h2 j u hj).1⟩) hul hone h63 hbytes (Nat.zero_le _)
  have hexec : (execOp a.eval o).run P w = .ok (.value v') w' := by
    have e1 : c.args = #[x, y] := Array.toList_inj.1 (by rw [hargs])
    have e2 : c.argTypes = #[t, t] := Array.toList_inj.1 (by rw [htys])
    simp [execOp, hop, resolve, hcal, e1, e2, invoke, builtin, ev, hrun]
  have hg : w.grownBy w' v.ownBlock := hgrow.elim (·.2) fun h => ⟨h.2.os, h.2.tape, h.2.output, h.2.size, fun b hb _ => h.2.block b hb (by simp)⟩
  -- what nobody writes is as it was
  have hcells : ∀ b o, env.V b o → w'.cell? ⟨b, o, none⟩ = w.cell? ⟨b, o, none⟩ := fun b o hv => by
    have hlt := hs.vlt b o hv
    rcases hgrow with ⟨hsame, hgb⟩ | ⟨_, hgb⟩
    · by_cases hb : v.ownBlock = some b
      · -- a cell of the token's own: one of those that were there
        have hlt2 : o < n * i.size := by
          rcases hcase with ⟨_, hnone⟩ | ⟨q, hq, hτ, hqt, hqs, hqn⟩
          · rw [hnone] at hb; cases hb
          · obtain ⟨v1, xs1, g1, g2, g3⟩ := hs.toks k q hq
            rw [hτ] at g1; injection g1 with g1; subst g1
            rcases Nat.lt_or_ge o (n * i.size) with h | h
            · exact h
            · exact absurd hv ((g3 b hb).2.1 o (by rw [hqn, hqs]; exact h))
        have hxs : o < xs.length := by rw [hown.1]; exact hlt2
        obtain ⟨u, hu⟩ : ∃ u, xs[o]? = some u := ⟨_, List.getElem?_eq_getElem hxs⟩
        have c1 := hown.cells hb o u hu
        have c2 := hown'.cells (hsame.trans hb) o u (by rw [List.getElem?_append_left hxs, hu])
        rw [add_at, Nat.zero_add] at c1 c2
        rw [c1, c2]
      · exact World.cell?_of_block (a := ⟨b, o, none⟩) (hgb.block b hlt (fun e => hb e.symm))
    · exact World.cell?_of_block (a := ⟨b, o, none⟩) (hgb.block b hlt (by simp))
  have hsim := hs.token (k := k) (hk := hk hs.nn) (t' := ⟨e, i.size, n + news.length⟩) (v := v) (v' := v') (xs' := xs ++ us) (w' := w')
    (hcase.elim (fun h => .inl ⟨h.1, h.2, rfl⟩) fun ⟨q, hq, hτ, hqt, hqs, hqn⟩ => .inr ⟨q, hq, hτ, hqt.symm, hqs.symm, by simp only [hqn]; omega, fun h => hzero (by simp only [hqn] at h; omega)⟩)
    hg hown' hcells (hgrow.elim (fun h => .inl h.1) fun h => .inr h.1)
  refine wp_value hexec (hK _ _ _ (hsim.put hd (RepT.mk ?_)))
  -- the new slice reads
  have hall : ∀ q ∈ es ++ news, q.length = i.size := fun q hq => (List.mem_append.1 hq).elim (hes q) (hw q)
  refine ⟨?_, ⟨e, i.size, n + news.length⟩, by simp [S.setTok], by simp [hn], hall, fun _ => by simp⟩
  have hxr : All2 (RepC env.V w) es.flatten xs := by
    obtain ⟨us0, hl0, hr0, hsrc0⟩ := sl_cells hrep hes
    have : us0 = xs := by
      apply List.ext_getElem?
      intro j
      by_cases hj : j < n * i.size
      · rcases hsrc0 with ⟨_, h0⟩ | ⟨b, o, c, h1, h2⟩
        · rw [hn] at h0; subst h0; simp at hj
        · obtain ⟨u1, e1⟩ : ∃ u, us0[j]? = some u := ⟨_, List.getElem?_eq_getElem (by rw [hl0, hn]; exact hj)⟩
          have c0 := (h2 j u1 e1).1
          have hob : v.ownBlock = some b := by rw [h1]; rfl
          obtain ⟨u2, e2⟩ : ∃ u, xs[j]? = some u := ⟨_, List.getElem?_eq_getElem (by rw [hown.1]; exact hj)⟩
          have c1 := hown.cells hob j u2 e2
          rw [add_at] at c1
          -- the row begins at 0
          have ho : o = 0 := by
            rcases hown.2 with ⟨hv0, _⟩ | ⟨g, cap, cur, hv0, _⟩
            · rw [h1] at hv0; cases hv0
            · rw [h1] at hv0; injection hv0 with hv0 _ _; injection hv0 with hv0; injection hv0
          rw [ho] at c0
          rw [c0] at c1
          rw [e1, e2, c1]
      · rw [List.getElem?_eq_none (by rw [hl0, hn]; omega), List.getElem?_eq_none (by rw [hown.1]; omega)]
    rw [← this]; exact hr0
  have hVsub : ∀ b o, env.V b o → (env.V b o ∨ (v'.ownBlock = some b ∧ o < (n + news.length) * i.size)) := fun _ _ h => .inl h
  have hrows : All2 (RepC (fun b o => env.V b o ∨ (v'.ownBlock = some b ∧ o < (n + news.length) * i.size)) w') (es ++ news).flatten (xs ++ us) := by
    rw [List.flatten_append]
    exact (hxr.append hur).imp fun _ _ _ h => RepC.mono hVsub hcells h
  rcases hown'.2 with ⟨hv0, h0⟩ | ⟨g, cap, cur, hv0, hbg, hgc, hnc, hcm, hcs, htake⟩
  · have : es ++ news = [] := List.eq_nil_of_length_eq_zero (by rw [List.length_append, hn]; exact h0)
    rw [hv0, this]
    exact .nil 0
  · have hob : v'.ownBlock = some g := by rw [hv0]; rfl
    have hcell' := hown'.cells hob
    rw [hv0]
    refine .sl _ _ i.size g 0 (n + news.length) cap (xs ++ us) (by rw [List.length_append, hn]) (by rw [List.length_append, hn]; simpa using hnc) hcm (by simpa using hall) (by rw [List.append_nil]; exact hrows.1.symm) (fun j u hj => ?_) (fun j c u hc hu => ?_)
    · have := hcell' j u hj
      rw [add_at] at this
      refine ⟨this, .inr ⟨by rw [← hv0]; exact hob, ?_⟩⟩
      have := (List.getElem?_eq_some_iff.1 hj).1
      rw [hown'.1] at this
      simpa using this
    · rw [List.append_nil] at hc
      have := hrows.2 j c u hc hu
      rw [hv0] at this
      exact this

theorem good_app_own (hd : ∀ n, o.dst = some n → n < N) {c : Call} {t e : TypeId} {i : TypeInfo} {zl : List A} {x y : Operand} {dx dy : D} (hop : o.op = .call c) (hcal : c.callee = .builtin .append) (hargs : c.args.toList = [x, y]) (htys : c.argTypes.toList = [t, t])
    (ht : P.underlying t = some (.slice e)) (hi : P.info? e = some i) (hz : zeroIn P e = some zl) (hzl : zl.length = i.size) (hx : cmpD x = some dx) (hy : cmpD y = some dy)
    (gx : (dx.val σ).g = true) (gy : (dy.val σ).g = true) {news sp : List (List C)} (hr : (dy.val σ).r.rows? = some (news, sp)) (hw : ∀ q ∈ news, q.length = i.size)
    {k : Nat} {es : List (List C)} {q : Tok} (hxr : (dx.val σ).r = .x (.one (.own k es))) (hq : σ.toks k = some q) (hqt : q.ty = e) (hqs : q.size = i.size) (hqn : es.length = q.n)
    (h63 : es.length + news.length ≤ maxLen) (hbytes : (es.length + news.length) * i.bytes ≤ maxBytes) :
    Good P w0 V0 N o σ ((σ.setTok k ⟨e, i.size, es.length + news.length⟩).put o.dst (.k true (.x (.one (.own k (es ++ news)))))) := by
  by_cases hes : ∀ r ∈ es, r.length = i.size
  · refine good_app_core hd hop hcal hargs htys ht hi hz hzl hx hy gx gy hr hw rfl hes h63 hbytes (fun _ e => by rw [hq] at e; cases e) fun env a w hs => ?_
    have h := hs.opr hx gx
    rw [hxr] at h
    obtain ⟨h1, t', h2, h3, h4, h5⟩ := h
    rw [hq] at h2; injection h2 with h2; subst h2
    obtain ⟨v, xs, g1, g2, g3⟩ := hs.toks k q hq
    have := h5 hqn
    rw [g1] at this; injection this with this
    refine ⟨a.eval x, xs, rfl, by rw [← this, ← hqt, ← hqs, hqn]; exact g2, h1, .inr ⟨q, hq, by rw [g1, this], hqt, hqs, hqn.symm⟩⟩
  · intro rd rn env a w K Q hs hK
    exfalso
    have h := hs.opr hx gx
    rw [hxr] at h
    obtain ⟨h1, t', h2, h3, h4, h5⟩ := h
    rw [hq] at h2; injection h2 with h2; subst h2
    exact hes (fun r hr => by rw [← hqs]; exact h4 r hr)

theorem good_app_nil (hd : ∀ n, o.dst = some n → n < N) {c : Call} {t e : TypeId} {i : TypeInfo} {zl : List A} {x y : Operand} {dx dy : D} (hop : o.op = .call c) (hcal : c.callee = .builtin .append) (hargs : c.args.toList = [x, y]) (htys : c.argTypes.toList = [t, t])
    (ht : P.underlying t = some (.slice e)) (hi : P.info? e = some i) (hz : zeroIn P e = some zl) (hzl : zl.length = i.size) (hx : cmpD x = some dx) (hy : cmpD y = some dy)
    (gx : (dx.val σ).g = true) (gy : (dy.val σ).g = true) {news sp : List (List C)} (hr : (dy.val σ).r.rows? = some (news, sp)) (hw : ∀ q ∈ news, q.length = i.size)
    {d : Nat} (hdst : o.dst = some d) (hxr : (dx.val σ).r = .x (.one .nil)) (hq : σ.toks d = none) (h63 : news.length ≤ maxLen) (hbytes : news.length * i.bytes ≤ maxBytes) :
    Good P w0 V0 N o σ ((σ.setTok d ⟨e, i.size, news.length⟩).put o.dst (.k true (.x (.one (.own d news))))) := by
  have := good_app_core (w0 := w0) (V0 := V0) (k := d) (n := 0) (es := []) hd hop hcal hargs htys ht hi hz hzl hx hy gx gy hr hw rfl (by simp) (by simpa using h63) (by simpa using hbytes) (fun h _ => own_dst hd h hdst) fun env a w hs => (by
    have h := hs.opr hx gx
    rw [hxr] at h
    have e : a.eval x = .slice none 0 0 := h
    exact ⟨a.eval x, [], rfl, by rw [e]; exact World.ownsRow_nil _ _ _ _, by rw [e]; exact .nil 0, .inl ⟨hq, by rw [e]; rfl⟩⟩)
  simpa using this

end
end Go.Fx
