/- AX 11: calls; whole functions. -/
import Derived.Test.YtobablbklkpchaaAxEff5
set_option linter.unusedVariables false
set_option linter.unusedSimpArgs false
namespace Go.AX
variable {P : Program} {N : Nat} {j : J P N} {Q : Exit → Sl → List Ch → Prop} {s : Sl} {H : List Ch} {ops : Array Oper} {rest : List Oper} {K : Sl → List Ch → Prop}
variable {d : Nat} {dst : Option Tmp} {ty : TypeId} {pos : String} {after : Array Edge} {g : Option (Nat × Bool)} {T : TypeId} {x y : Operand} {D : TypeDesc} {sz bs : Nat} {z : Value}

inductive AEnd where
  | ret (v : V)
  | pan (chain : List PanicEntry)
def concEnd (w : World) (ow : Nat → Prop) : AEnd → Ending → Prop
  | .ret v, e => ∃ x, e = .returned x ∧ conc w ow v x
  | .pan ch, e => e = .panicked ch
/-- A call with abstract arguments, over the chunks H: how it ends, and what has become of the chunks. -/
def Tri (P : Program) (f : FuncId) (vs : List V) (H : List Ch) (Post : AEnd → List Ch → Prop) : Prop :=
  ∀ (F : List Ch) (w : World) (xs : List Value), Hp (own (H ++ F)) (H ++ F) w → concL w (own (H ++ F)) vs xs →
    Calls P f xs.toArray w fun e w' => ∃ ae H', concEnd w' (own (H' ++ F)) ae e ∧ (blks H').Nodup ∧ (∀ c ∈ H', c.sat w' (own (H' ++ F))) ∧ Evo (own H) w (own H') w' ∧ Post ae H'
/-- It returns. -/
def TriR (P : Program) (f : FuncId) (vs : List V) (H : List Ch) (R : V → List Ch → Prop) : Prop := Tri P f vs H fun ae H' => ∃ v, ae = .ret v ∧ R v H'
/-- A function of its arguments alone. -/
def Fun (P : Program) (f : FuncId) (vs : List V) (v : V) : Prop := TriR P f vs [] fun u H' => u = v ∧ H' = []
theorem Tri.mono {f : FuncId} {vs : List V} {Post Post' : AEnd → List Ch → Prop} (h : Tri P f vs H Post) (hp : ∀ ae H', Post ae H' → Post' ae H') : Tri P f vs H Post' :=
  fun F w xs h1 h2 => (h F w xs h1 h2).mono fun e w' ⟨ae, H', k1, k2, k3, k4, k5⟩ => ⟨ae, H', k1, k2, k3, k4, hp _ _ k5⟩
class Ent (P : Program) (f : FuncId) : Prop where
  h : ∀ args w, (callFunc f args).run P w = .ok (.enter f args) w
theorem op_call {f : FuncId} {fop : Operand} {args : Array Operand} {tys : Array TypeId} {cap vs : List V} {Hf Hr : List Ch} {Post : AEnd → List Ch → Prop} [en : Ent P f]
    (hf : s.ev fop = some (.fn f cap)) (ha : s.evs args.toList = some vs) (hp : Pick Hf H Hr) (ht : Tri P f (vs ++ cap) Hf Post) (hN : Nat.blt d N = true)
    (hk : ∀ ae H', Post ae H' → match ae with
      | .ret v => K ((d, v) :: s) (H' ++ Hr)
      | .pan ch => Q (.panic ch) s (H' ++ Hr)) : OP j ⟨some d, .call { callee := .value fop, args := args, argTypes := tys }, ty, pos, after, none⟩ K Q s H :=
  fun a w st K' hK => by
    have h1 := st.sl.ev hf
    simp only [conc] at h1
    obtain ⟨l, h1, hl⟩ := h1
    have h2 := st.sl.evs ha
    have hpm := hp.perm
    have hpF : (H ++ j.F).Perm (Hf ++ (Hr ++ j.F)) := by rw [← List.append_assoc]; exact hpm.append_right _
    have hcL : concL w (own (Hf ++ (Hr ++ j.F))) (vs ++ cap) (args.toList.map a.eval ++ l) := by
      rw [← own_funext hpF]
      exact concL_append h2 hl
    have hcall := ht (Hr ++ j.F) w _ ((own_funext hpF ▸ st.hp).perm hpF) hcL
    have hrun : (execOp a.eval ⟨some d, .call { callee := .value fop, args := args, argTypes := tys }, ty, pos, after, none⟩).run P w = .ok (.enter f (args.toList.map a.eval ++ l).toArray) w := by
      simp only [execOp, resolve, h1, Deferred.ofValue, Sem.run_bind, Sem.run_pure, Result.andThen_ok, invoke, en.h]
      congr 2
      apply Array.toList_inj.1
      simp
    simp only [Oper.wp, hrun, Oper.upon]
    refine hcall.mono fun e w' ⟨ae, H', k1, k2, k3, k4, k5⟩ => ?_
    have e1 : own (H' ++ (Hr ++ j.F)) = own (H' ++ Hr ++ j.F) := by rw [List.append_assoc]
    obtain ⟨st', _, _⟩ := St.eff (Hf := Hf) (Hf' := H') (Hr := Hr) st hpm k4 k2 (fun c hc => e1 ▸ k3 c hc)
    have hk' := hk ae H' k5
    cases ae with
    | ret v =>
      obtain ⟨x, rfl, hx⟩ := k1
      refine hK _ _ ⟨_, _, ?_, hk'⟩
      have := st'.put (d := some d) (e1 ▸ hx) (fun i hi => by cases hi; exact Nat.le_of_ble_eq_true hN)
      exact this
    | pan ch =>
      simp only [concEnd] at k1
      subst k1
      exact ⟨s, _, st', hk'⟩
theorem op_callR {f : FuncId} {fop : Operand} {args : Array Operand} {tys : Array TypeId} {cap vs : List V} {Hf Hr : List Ch} {R : V → List Ch → Prop} [en : Ent P f]
    (hf : s.ev fop = some (.fn f cap)) (ha : s.evs args.toList = some vs) (hp : Pick Hf H Hr) (ht : TriR P f (vs ++ cap) Hf R) (hN : Nat.blt d N = true)
    (hk : ∀ v H', R v H' → K ((d, v) :: s) (H' ++ Hr)) : OP j ⟨some d, .call { callee := .value fop, args := args, argTypes := tys }, ty, pos, after, none⟩ K Q s H :=
  op_call hf ha hp ht hN fun ae H' h => by
    obtain ⟨v, rfl, hr⟩ := h
    exact hk v H' hr
theorem op_callF {f : FuncId} {fop : Operand} {args : Array Operand} {tys : Array TypeId} {cap vs : List V} {v : V} [en : Ent P f]
    (hf : s.ev fop = some (.fn f cap)) (ha : s.evs args.toList = some vs) (ht : Fun P f (vs ++ cap) v) (hN : Nat.blt d N = true)
    (hk : K ((d, v) :: s) H) : OP j ⟨some d, .call { callee := .value fop, args := args, argTypes := tys }, ty, pos, after, none⟩ K Q s H :=
  op_callR hf ha .nil ht hN fun u H' ⟨h1, h2⟩ => by subst h1 h2; exact hk

/-! ### Whole functions -/
def RetOk (j : J P N) (fn : Func) (s : Sl) (H : List Ch) (K : V → List Ch → Prop) : Prop :=
  ∀ a w, St j s H a w → ∃ x v s' H', (results fn a.tmps).run P w = .ok x w ∧ St j s' H' a w ∧ conc w (own (H' ++ j.F)) v x ∧ K v H'
def Ret (j : J P N) (fn : Func) (Post : AEnd → List Ch → Prop) : Exit → Sl → List Ch → Prop
  | .normal, s, H | .ret, s, H => RetOk j fn s H fun v H' => Post (.ret v) H'
  | .panic ch, s, H => Post (.pan ch) H
  | _, _, _ => False
def initS : Nat → List V → Sl
  | _, [] => []
  | k, v :: vs => (k, v) :: initS (k + 1) vs
theorem initS_get {w : World} {ow : Nat → Prop} : ∀ {vs : List V} {xs : List Value} (k : Nat), concL w ow vs xs → ∀ i v, (initS k vs).get i = some v → ∃ m x, i = k + m ∧ xs[m]? = some x ∧ conc w ow v x
  | [], xs, k, h, i, v, hi => by simp [initS, Sl.get] at hi
  | u :: vs, xs, k, h, i, v, hi => by
    simp only [concL] at h
    obtain ⟨x, xs, rfl, h1, h2⟩ := h
    simp only [initS, Sl.get] at hi
    cases e : Nat.beq i k
    · rw [e] at hi
      obtain ⟨m, y, rfl, h3, h4⟩ := initS_get (k + 1) h2 i v hi
      exact ⟨m + 1, y, by omega, by simpa using h3, h4⟩
    · rw [e] at hi
      simp at hi
      subst hi
      obtain rfl := Nat.eq_of_beq_eq_true e
      exact ⟨0, x, rfl, rfl, h1⟩
theorem tri_of {f : FuncId} {fn : Func} {c : Code} {vs : List V} {Post : AEnd → List Ch → Prop} (hf : P.funcs[f]? = some fn) (hb : fn.body = some c) (hN : fn.ntmps = N) (hn0 : Nat.ble vs.length N = true)
    (h : ∀ j : J P N, AW j c (Ret j fn Post) (initS 0 vs) H) : Tri P f vs H Post := fun F w xs hp hv => by
  have hn := Nat.le_of_ble_eq_true hn0
  have hxl := concL_length hv
  refine calls_of_wp hf hb ?_
  let j : J P N := { F := F, H0 := own H, w0 := w }
  have st : St j (initS 0 vs) H { tmps := xs.toArray ++ Array.replicate (fn.ntmps - xs.toArray.size) undef, defers := [] } w := by
    refine ⟨⟨by simp [hN]; omega, fun i v hi => ?_⟩, hp, Evo.refl _ _, rfl⟩
    obtain ⟨m, x, rfl, h1, h2⟩ := initS_get 0 hv i v hi
    have hm : m < xs.length := (List.getElem?_eq_some_iff.1 h1).1
    refine ⟨x, ?_, h2⟩
    rw [Nat.zero_add, Array.getElem?_append_left (by simpa using hm)]
    simpa using h1
  refine Code.wp_mono (fun e a' w' h' => ?_) (h j _ w st)
  obtain ⟨s', H', st', hq⟩ := h'
  have fin : RetOk j fn s' H' (fun v H' => Post (.ret v) H') → a'.defers = [] ∧ ∃ v, (results fn a'.tmps).run P w' = .ok v w' ∧ ∃ ae H', concEnd w' (own (H' ++ F)) ae (.returned v) ∧ (blks H').Nodup ∧ (∀ c ∈ H', c.sat w' (own (H' ++ F))) ∧ Evo (own H) w (own H') w' ∧ Post ae H' := fun hq => by
    obtain ⟨x, v, s2, H2, k1, k2, k3, k4⟩ := hq a' w' st'
    have hnd := k2.hp.nd
    rw [blks_append] at hnd
    exact ⟨st'.df, x, k1, .ret v, H2, ⟨x, rfl, k3⟩, (List.nodup_append.1 hnd).1, fun c hc => k2.hp.sat c (List.mem_append_left _ hc), k2.evo, k4⟩
  cases e with
  | normal => exact fin hq
  | ret => exact fin hq
  | panic ch =>
    have hnd := st'.hp.nd
    rw [blks_append] at hnd
    exact ⟨st'.df, .pan ch, H', rfl, (List.nodup_append.1 hnd).1, fun c hc => st'.hp.sat c (List.mem_append_left _ hc), st'.evo, hq⟩
  | exit id => exact hq.elim
  | goto l => exact hq.elim
  | outgrown => exact hq.elim
def rvSem (tmps : Array Value) : ResultVar → Sem Value
  | .tmp t => pure (tmps.getD t undef)
  | .cell a t => do
    let ad ← asAddr (tmps.getD a undef)
    loadVar t ad
theorem results_rv (fn : Func) (tmps : Array Value) : results fn tmps = (do
    let vs ← fn.results.mapM (rvSem tmps)
    pure (if h : vs.size = 1 then vs[0] else .tuple vs)) := by
  have e : rvSem tmps = (fun x => match x with
    | .tmp t => pure (tmps.getD t undef)
    | .cell a t => (asAddr (tmps.getD a undef) >>= fun ad => loadVar t ad)) := by funext x; cases x <;> rfl
  rw [e]
  rfl
/-- What a result is. -/
def ResV (j : J P N) (s : Sl) (H : List Ch) (r : ResultVar) (v : V) : Prop :=
  ∀ a w, St j s H a w → ∃ x, (rvSem a.tmps r).run P w = .ok x w ∧ conc w (own (H ++ j.F)) v x
theorem res_tmp {t : Nat} {v : V} (h : s.get t = some v) : ResV j s H (.tmp t) v := fun a w st => by
  obtain ⟨x, h1, h2⟩ := st.sl.2 t v h
  exact ⟨x, by simp [rvSem, h1], h2⟩
theorem res_cell {ad b o : Nat} {E : TypeId} {cells : List V} {v : V} [t : Ty P T D sz bs z] (hx : s.get ad = some (.raw (.pointer (some ⟨b, o, none⟩)))) (hm : Ch.box b E cells ∈ H) (hD : aggOf D = false) (hc : cells[o]? = some v) : ResV j s H (.cell ad T) v := fun a w st => by
  obtain ⟨x, h1, h2⟩ := st.sl.2 ad _ hx
  simp only [conc] at h2
  obtain ⟨l, k1, k2, k3, k4⟩ := box_cells st (List.mem_append_left _ hm)
  obtain ⟨y, hy, hc⟩ := concL_get k2 o v hc
  exact ⟨y, by simp [rvSem, h1, h2, asAddr, run_loadVar_scalar t hD (k4 o y hy)], hc⟩
theorem res_cell_agg {ad b o : Nat} {E : TypeId} {cells cs : List V} [t : Ty P T D sz bs z] (hx : s.get ad = some (.raw (.pointer (some ⟨b, o, none⟩)))) (hm : Ch.box b E cells ∈ H) (hD : aggOf D = true) (hc : (cells.drop o).take sz = cs) (hl : cs.length = sz) : ResV j s H (.cell ad T) (.agg cs) := fun a w st => by
  have hload := vv_load_box_agg (j := j) (dst := some 0) (ty := 0) (pos := "") (after := #[]) (g := none) (x := .tmp ad) (T := T) hx (List.mem_append_left _ hm) hD hc hl a w st
  obtain ⟨x, h1, h2⟩ := hload
  refine ⟨x, ?_, h2⟩
  obtain ⟨y, h3, h4⟩ := st.sl.2 ad _ hx
  simp only [conc] at h4
  subst h4
  have h5 : a.eval (.tmp ad) = .pointer (some ⟨b, o, none⟩) := by simp [Act.eval, h3]
  simp only [execOp, h5, Instr.loadAt, Instr.sureAddr, Sem.run_bind, Sem.run_pure, Result.andThen_ok] at h1
  simp only [rvSem, h3, Array.getD_eq_getD_getElem?, Option.getD_some, asAddr, Sem.run_bind, Sem.run_pure, Result.andThen_ok]
  cases hr : (loadVar T ⟨b, o, none⟩).run P w with
  | ok u w2 =>
    rw [hr] at h1
    simp only [Result.andThen_ok, Sem.run_pure, Result.ok.injEq, Next.value.injEq] at h1
    obtain ⟨rfl, rfl⟩ := h1
    rfl
  | halt h w2 => rw [hr] at h1; cases h1
section
variable {fn : Func} {K : V → List Ch → Prop}
theorem ret0 (hr : fn.results = #[]) {H' : List Ch} (hs : H'.Sublist H) (hk : K (.tup []) H') : RetOk j fn s H K := fun a w st =>
  ⟨.tuple #[], .tup [], s, H', by simp [results, hr], st_sub st hs, by simp only [conc]; exact ⟨[], rfl, rfl⟩, hk⟩
theorem ret1 {r : ResultVar} {v : V} (hr : fn.results = #[r]) (h1 : ResV j s H r v) {H' : List Ch} (hs : H'.Sublist H) (hk : K v H') : RetOk j fn s H K := fun a w st => by
  obtain ⟨x, k1, k2⟩ := h1 a w st
  have hless : ∀ b, own (H' ++ j.F) b → own (H ++ j.F) b := fun b hb => ((hs.append_right j.F).filterMap Ch.blk).mem hb
  refine ⟨x, v, s, H', ?_, st_sub st hs, conc_keep ⟨Nat.le_refl _, fun _ _ _ => rfl, fun b _ h => hless b h⟩ _ _ k2, hk⟩
  simp [results_rv, hr, k1]
theorem ret2 {r1 r2 : ResultVar} {v1 v2 : V} (hr : fn.results = #[r1, r2]) (h1 : ResV j s H r1 v1) (h2 : ResV j s H r2 v2) {H' : List Ch} (hs : H'.Sublist H) (hk : K (.tup [v1, v2]) H') : RetOk j fn s H K := fun a w st => by
  obtain ⟨x1, k1, k2⟩ := h1 a w st
  obtain ⟨x2, k3, k4⟩ := h2 a w st
  have hless : ∀ b, own (H' ++ j.F) b → own (H ++ j.F) b := fun b hb => ((hs.append_right j.F).filterMap Ch.blk).mem hb
  have kk : Keeps (own (H ++ j.F)) w (own (H' ++ j.F)) w := ⟨Nat.le_refl _, fun _ _ _ => rfl, fun b _ h => hless b h⟩
  refine ⟨.tuple #[x1, x2], .tup [v1, v2], s, H', ?_, st_sub st hs, ?_, hk⟩
  · simp [results_rv, hr, k1, k3]
  · simp only [conc]
    exact ⟨[x1, x2], rfl, x1, [x2], rfl, conc_keep kk _ _ k2, x2, [], rfl, conc_keep kk _ _ k4, rfl⟩
theorem ret3 {r1 r2 r3 : ResultVar} {v1 v2 v3 : V} (hr : fn.results = #[r1, r2, r3]) (h1 : ResV j s H r1 v1) (h2 : ResV j s H r2 v2) (h3 : ResV j s H r3 v3) {H' : List Ch} (hs : H'.Sublist H) (hk : K (.tup [v1, v2, v3]) H') : RetOk j fn s H K := fun a w st => by
  obtain ⟨x1, k1, k2⟩ := h1 a w st
  obtain ⟨x2, k3, k4⟩ := h2 a w st
  obtain ⟨x3, k5, k6⟩ := h3 a w st
  have hless : ∀ b, own (H' ++ j.F) b → own (H ++ j.F) b := fun b hb => ((hs.append_right j.F).filterMap Ch.blk).mem hb
  have kk : Keeps (own (H ++ j.F)) w (own (H' ++ j.F)) w := ⟨Nat.le_refl _, fun _ _ _ => rfl, fun b _ h => hless b h⟩
  refine ⟨.tuple #[x1, x2, x3], .tup [v1, v2, v3], s, H', ?_, st_sub st hs, ?_, hk⟩
  · simp [results_rv, hr, k1, k3, k5]
  · simp only [conc]
    exact ⟨[x1, x2, x3], rfl, x1, [x2, x3], rfl, conc_keep kk _ _ k2, x2, [x3], rfl, conc_keep kk _ _ k4, x3, [], rfl, conc_keep kk _ _ k6, rfl⟩
end
end Go.AX
