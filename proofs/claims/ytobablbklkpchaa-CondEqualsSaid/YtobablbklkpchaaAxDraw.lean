/- AX 13: regions that draw their order. -/
import Derived.Test.YtobablbklkpchaaAxTac
set_option linter.unusedVariables false
set_option linter.unusedSimpArgs false
namespace Go.AX
variable {P : Program} {N : Nat} {j : J P N} {Q : Exit → Sl → List Ch → Prop} {K : Sl → List Ch → Prop} {s so : Sl} {H E E1 : List Ch} {ops : Array Oper}
variable {d : Nat} {dst : Option Tmp} {ty : TypeId} {pos : String} {after : Array Edge} {g : Option (Nat × Bool)} {T : TypeId} {x y : Operand} {D : TypeDesc} {sz bs : Nat} {z : Value}

theorem wpOp_post {Q1 Q2 : Exit → Act → World → Prop} (hq : ∀ e a w, Q1 e a w → Q2 e a w) {i : Nat} {K1 K2 : Act → World → Prop} (hk : ∀ a w, K1 a w → K2 a w) {a : Act} {w : World} (h : wpOp P ops Q1 i K1 a w) : wpOp P ops Q2 i K2 a w := by
  unfold wpOp at *
  split
  · rename_i hn; simp only [hn] at h; exact hk _ _ h
  · rename_i o ho
    simp only [ho] at h
    split
    · rename_i hw
      rw [if_pos hw] at h
      rcases h with h | ⟨h1, a0, w0, h2⟩
      · left
        unfold Oper.wp at *
        generalize (execOp a.eval o).run P w = r at *
        cases r with
        | ok n w' =>
          cases n <;> simp only [Oper.upon] at h ⊢
          case value u => exact hk _ _ h
          case skip => exact hk _ _ h
          case defer d => exact hk _ _ h
          case enter f args =>
            refine Calls.mono h fun e w'' he => ?_
            cases e with
            | returned v => exact hk _ _ he
            | panicked c => exact hq _ _ _ he
            | outgrown => obtain ⟨a0, w0, he⟩ := he; exact ⟨a0, w0, hq _ _ _ he⟩
          case row row args => exact Rows.mono h fun v w'' he => hk _ _ he
        | halt x w' =>
          cases x <;> simp only [Oper.upon] at h ⊢
          case panic u => exact hq _ _ _ h
      · exact .inr ⟨h1, a0, w0, hq _ _ _ h2⟩
    · rename_i hw
      rw [if_neg hw] at h
      exact hk _ _ h
theorem wpAnyH_post {Q1 Q2 : Exit → Act → World → Prop} (hq : ∀ e a w, Q1 e a w → Q2 e a w) {md : Region.Mode} {S : World → Prop} : ∀ (fuel : Nat) (listed : Array Bool) (a : Act) (w : World), wpAnyH P md ops Q1 S fuel listed a w → wpAnyH P md ops Q2 S fuel listed a w
  | 0, _, _, _, h => ⟨h.1, hq _ _ _ h.2⟩
  | fuel + 1, listed, a, w, h => ⟨fun hr => hq _ _ _ (h.1 hr), fun i hi => wpOp_post hq (fun a w hk => ⟨hk.1, wpAnyH_post hq fuel _ a w hk.2⟩) (h.2 i hi)⟩
/-- What no operation of the region touches: the blocks that stood at its begin, but those of E1. -/
def Stable (j : J P N) (w : World) : Prop := ∀ b, b < j.w0.heap.size → ¬ j.H0 b → w.heap[b]? = j.w0.heap[b]?
structure DrawJ (j : J P N) (Hs F : List Ch) (E1 : List Ch) : Prop where
  f : j.F = Hs ++ F
  h0 : j.H0 = own E1
theorem stable_of {a : Act} {w : World} (st : St j s E a w) : Stable j w := fun b h1 h2 => st.evo.block b h1 h2
/-- An operation that yields the same whenever it comes up. -/
def HV (j : J P N) (s : Sl) (E : List Ch) (o : Oper) (v : V) : Prop :=
  ∀ a, St j s E a j.w0 → ∃ x, (∀ w, Stable j w → (execOp a.eval o).run P w = .ok (.value x) w) ∧ conc j.w0 (own (E ++ j.F)) v x
theorem hv_pure {o : Oper} {v : V} (h : PureV j s E o v) : HV j s E o v := fun a st => let ⟨x, h1, h2⟩ := h a _ st; ⟨x, fun w _ => h1 w, h2⟩
/-- At a panic nothing is said of the temporaries. -/
def NoS (Q : Exit → Sl → List Ch → Prop) : Prop := ∀ c s H, Q (.panic c) s H → Q (.panic c) [] H
theorem nos_ret {fn : Func} {Post : AEnd → List Ch → Prop} : NoS (Ret j fn Post) := fun _ _ _ h => h
theorem nos_then {K : Sl → List Ch → Prop} (h : NoS Q) : NoS (Then K Q) := fun c s H k => h c s H k
theorem nos_in {id : Nat} (h : NoS Q) : NoS (InBlock id Q) := fun c s H k => h c s H k
abbrev Plan := List (Bool × Nat × Option Oper)
/-- The order in which the proof takes the operations of a region: (false, i): it yields the same whenever it comes up; (true, i): nothing else may come up then. -/
def Sched (ops : Array Oper) : Array Bool → Plan → Prop
  | listed, [] => Region.ready .any ops listed = []
  | listed, (false, i, o) :: r => ops[i]? = o ∧ Region.noSelect ops = true ∧ Region.free .any ops listed i = true ∧ (Region.ready .any ops listed).contains i = true ∧ Sched ops (listed.setIfInBounds i true) r
  | listed, (true, i, o) :: r => ops[i]? = o ∧ Region.ready .any ops listed = [i] ∧ Sched ops (listed.setIfInBounds i true) r
def schedB (ops : Array Oper) : Array Bool → List (Bool × Nat) → Bool
  | listed, [] => (Region.ready .any ops listed).isEmpty
  | listed, (false, i) :: r => Region.noSelect ops && Region.free .any ops listed i && (Region.ready .any ops listed).contains i && schedB ops (listed.setIfInBounds i true) r
  | listed, (true, i) :: r => (Region.ready .any ops listed == [i]) && schedB ops (listed.setIfInBounds i true) r
theorem sched_of : ∀ {sch : List (Bool × Nat)} {listed : Array Bool}, schedB ops listed sch = true → Sched ops listed (sch.map fun p => (p.1, p.2, ops[p.2]?))
  | [], listed, h => by simpa [schedB, Sched] using h
  | (false, i) :: r, listed, h => by
    simp only [schedB, Bool.and_eq_true] at h
    exact ⟨rfl, h.1.1.1, h.1.1.2, h.1.2, sched_of h.2⟩
  | (true, i) :: r, listed, h => by
    simp only [schedB, Bool.and_eq_true, beq_iff_eq] at h
    exact ⟨rfl, h.1, sched_of h.2⟩
/-- A region whose order is drawn. so: what held at the begin, and what was reckoned out of that; s: what holds now; Hs: the chunks that are only read. -/
def DL (j : J P N) (Hs E1 : List Ch) (ops : Array Oper) (l : Plan) (Q : Exit → Sl → List Ch → Prop) (so s : Sl) (E : List Ch) : Prop :=
  NoS Q → ∀ fuel listed, Sched ops listed l → l.length ≤ fuel → ∀ a w, St j so E1 a j.w0 → St j s E a w → wpAnyH P .any ops (liftE j (fun e s E => Q e s (E ++ Hs))) (Stable j) fuel listed a w
theorem evo_frame_own {o1 : Nat → Prop} {w w' : World} {E E1 F : List Ch} (h : Evo o1 w (own E) w') (h1 : o1 = own E1) : Evo (own (E1 ++ F)) w (own (E ++ F)) w' := by
  subst h1
  have := h.frame (of := own F)
  have e1 : (fun b => own E1 b ∨ own F b) = own (E1 ++ F) := funext fun b => propext (own_append _ _ _).symm
  have e2 : (fun b => own E b ∨ own F b) = own (E ++ F) := funext fun b => propext (own_append _ _ _).symm
  rwa [e1, e2] at this
theorem hq_put {o : Oper} {x : Value} (hq : NoS Q) (hd : ∀ i, o.dst = some i → i < N) : ∀ c a w, liftE j Q (.panic c) (a.put o.dst x) w → liftE j Q (.panic c) a w := fun c a w h => by
  obtain ⟨s', H', st, h⟩ := h
  refine ⟨[], H', ⟨⟨?_, fun i v hi => by simp [Sl.get] at hi⟩, st.hp, st.evo, ?_⟩, hq c s' H' h⟩
  · have := st.sl.1
    cases h2 : o.dst with
    | none => rw [h2] at this; exact this
    | some i => rw [h2] at this; simpa [Act.put] using this
  · have := st.df
    cases h2 : o.dst with
    | none => rw [h2] at this; exact this
    | some i => rw [h2] at this; exact this
variable {Hs F : List Ch} {i : Nat} {o : Oper} {v : V} {rest : Plan}
/-- The operation is carried out: it bears no guard, or its guard says yes. -/
def Wants (ops : Array Oper) (s : Sl) (g : Option (Nat × Bool)) : Prop :=
  g = none ∨ ∃ gi want og tt, g = some (gi, want) ∧ ops[gi]? = some og ∧ og.dst = some tt ∧ s.get tt = some (.raw (.bool want))
theorem wants_none : Wants ops s none := .inl rfl
theorem wants_on {gi tt : Nat} {b want : Bool} {og : Oper} (ho : ops[gi]? = some og) (hd : og.dst = some tt) (hv : s.get tt = some (.raw (.bool b))) (hb : b = want) : Wants ops s (some (gi, want)) :=
  .inr ⟨gi, want, og, tt, rfl, ho, hd, hb ▸ hv⟩
theorem Wants.wanted {a : Act} {w : World} {o : Oper} (h : Wants ops s o.guard) (st : St j s E a w) : Region.wanted o (yielded ops a.tmps) = true := by
  rcases h with h | ⟨gi, want, og, tt, h1, h2, h3, h4⟩
  · simp [Region.wanted, h]
  · simp [Region.wanted, h1, yielded_bool st h2 h3 h4]
theorem dl_take (hj : DrawJ j Hs F E1) (hv : HV j so E1 o v) (hw : Wants ops s o.guard) (hd : o.dst = some d) (hN : Nat.blt d N = true)
    (h : DL j Hs E1 ops rest Q ((d, v) :: so) ((d, v) :: s) E) : DL j Hs E1 ops ((false, i, some o) :: rest) Q so s E := fun hq fuel listed hs hl a w st0 st => by
  obtain ⟨hi, hsel, hf, hr, hs⟩ := hs
  obtain ⟨x, hx, hc⟩ := hv a st0
  have hNd : d < N := Nat.le_of_ble_eq_true hN
  have e := evo_frame_own (F := j.F) st.evo hj.h0
  have st0' := st0.put (d := o.dst) hc (fun i hi => by rw [hd] at hi; cases hi; exact hNd)
  have st' := st.put (d := o.dst) (conc_evo e hc) (fun i hi => by rw [hd] at hi; cases hi; exact hNd)
  obtain ⟨fuel, rfl⟩ : ∃ k, fuel = k + 1 := ⟨fuel - 1, by simp only [List.length_cons] at hl; omega⟩
  refine wpAnyH_take hi hsel hf hr (hq_put (fun c s H k => hq c s _ k) (fun i hi => by rw [hd] at hi; cases hi; exact hNd)) (.inl ⟨hw.wanted st, fun w' hw' => hx w' hw'⟩) (stable_of st) ?_
  rw [hd] at st0' st' ⊢
  exact h hq fuel _ hs (by simpa using hl) _ w st0' st'
theorem dl_pure (hj : DrawJ j Hs F E1) (hv : PureV j so E1 o v) (hw : Wants ops s o.guard) (hd : o.dst = some d) (hN : Nat.blt d N = true)
    (h : DL j Hs E1 ops rest Q ((d, v) :: so) ((d, v) :: s) E) : DL j Hs E1 ops ((false, i, some o) :: rest) Q so s E := dl_take hj (hv_pure hv) hw hd hN h
/-- A guarded operation whose guard says no. -/
theorem dl_off {gi tt : Nat} {b want : Bool} {og : Oper} (hg : o.guard = some (gi, want)) (ho : ops[gi]? = some og) (hgd : og.dst = some tt) (hgv : s.get tt = some (.raw (.bool b))) (hb : b = !want) (hd : o.dst = some d) (hN : Nat.blt d N = true)
    (h : DL j Hs E1 ops rest Q ((d, .raw undef) :: so) ((d, .raw undef) :: s) E) : DL j Hs E1 ops ((false, i, some o) :: rest) Q so s E := fun hq fuel listed hs hl a w st0 st => by
  obtain ⟨hi, hsel, hf, hr, hs⟩ := hs
  have hNd : d < N := Nat.le_of_ble_eq_true hN
  have st0' := st0.put (d := o.dst) (v := .raw undef) (x := undef) (by simp only [conc]) (fun i hi => by rw [hd] at hi; cases hi; exact hNd)
  have st' := st.put (d := o.dst) (v := .raw undef) (x := undef) (by simp only [conc]) (fun i hi => by rw [hd] at hi; cases hi; exact hNd)
  have hy := yielded_bool st ho hgd hgv
  obtain ⟨fuel, rfl⟩ : ∃ k, fuel = k + 1 := ⟨fuel - 1, by simp only [List.length_cons] at hl; omega⟩
  refine wpAnyH_take hi hsel hf hr (hq_put (fun c s H k => hq c s _ k) (fun i hi => by rw [hd] at hi; cases hi; exact hNd)) (.inr ⟨by simp only [Region.wanted, hg, hy, hb]; cases want <;> rfl, rfl⟩) (stable_of st) ?_
  rw [hd] at st0' st' ⊢
  exact h hq fuel _ hs (by simpa using hl) _ w st0' st'
theorem dl_off_eff {gi tt : Nat} {b want : Bool} {og : Oper} (hg : o.guard = some (gi, want)) (ho : ops[gi]? = some og) (hgd : og.dst = some tt) (hgv : s.get tt = some (.raw (.bool b))) (hb : b = !want) (hd : o.dst = some d) (hN : Nat.blt d N = true)
    (h : DL j Hs E1 ops rest Q ((d, .raw undef) :: so) ((d, .raw undef) :: s) E) : DL j Hs E1 ops ((true, i, some o) :: rest) Q so s E := fun hq fuel listed hs hl a w st0 st => by
  obtain ⟨hi, hr, hs⟩ := hs
  have hNd : d < N := Nat.le_of_ble_eq_true hN
  have st0' := st0.put (d := o.dst) (v := .raw undef) (x := undef) (by simp only [conc]) (fun i hi => by rw [hd] at hi; cases hi; exact hNd)
  have st' := st.put (d := o.dst) (v := .raw undef) (x := undef) (by simp only [conc]) (fun i hi => by rw [hd] at hi; cases hi; exact hNd)
  have hy := yielded_bool st ho hgd hgv
  obtain ⟨fuel, rfl⟩ : ∃ k, fuel = k + 1 := ⟨fuel - 1, by simp only [List.length_cons] at hl; omega⟩
  refine wpAnyH_all hr (by simp) fun k hk => ?_
  simp only [List.mem_singleton] at hk
  subst hk
  unfold wpOp
  have hwn : Region.wanted o (yielded ops a.tmps) = false := by simp only [Region.wanted, hg, hy, hb]; cases want <;> rfl
  simp only [hi, hwn]
  rw [if_neg (by simp)]
  refine ⟨stable_of st', ?_⟩
  rw [hd] at st0' st' ⊢
  exact h hq fuel _ hs (by simpa using hl) _ w st0' st'
/-- The begin again, at the world at hand. -/
theorem dl_rebase {a : Act} {w : World} (hj : DrawJ j Hs F E1) (st : St j s E a w) {l : Plan} {fuel : Nat} {listed : Array Bool}
    (h : ∀ j' : J P N, DrawJ j' Hs F E → DL j' Hs E ops l Q s s E) (hq : NoS Q) (hs : Sched ops listed l) (hl : l.length ≤ fuel) :
    wpAnyH P .any ops (liftE j (fun e s E => Q e s (E ++ Hs))) (Stable j) fuel listed a w := by
  let j' : J P N := { F := j.F, H0 := own E, w0 := w }
  have st1 : St j' s E a w := ⟨st.sl, st.hp, Evo.refl _ _, st.df⟩
  have hD := h j' ⟨hj.f, rfl⟩ hq fuel listed hs hl a w st1 st1
  have back : ∀ e a' w', liftE j' (fun e s E => Q e s (E ++ Hs)) e a' w' → liftE j (fun e s E => Q e s (E ++ Hs)) e a' w' := fun e a' w' ⟨s', E', st', hq⟩ =>
    ⟨s', E', ⟨st'.sl, st'.hp, st.evo.trans st'.evo, st'.df⟩, hq⟩
  have hS : ∀ w', Stable j' w' → Stable j w' := fun w' h b h1 h2 => by
    have hb : b < w.heap.size := Nat.lt_of_lt_of_le h1 st.evo.size
    have hn : ¬ own E b := fun hE => by
      rcases st.evo.grow b hE with h3 | h3
      · exact h2 h3
      · omega
    rw [h b hb hn]
    exact st.evo.block b h1 h2
  have mono : ∀ (fuel : Nat) (listed : Array Bool) (a : Act) (w : World), wpAnyH P .any ops (liftE j' (fun e s E => Q e s (E ++ Hs))) (Stable j') fuel listed a w → wpAnyH P .any ops (liftE j (fun e s E => Q e s (E ++ Hs))) (Stable j) fuel listed a w := by
    intro fuel
    induction fuel with
    | zero => intro listed a w h; exact ⟨h.1, back _ _ _ h.2⟩
    | succ fuel ih => intro listed a w h; exact ⟨fun hr => back _ _ _ (h.1 hr), fun i hi => wpOp_post back (fun a w hk => ⟨hS _ hk.1, ih _ a w hk.2⟩) (h.2 i hi)⟩
  exact mono _ _ _ _ hD
theorem wp_guard {op : Op} {dst : Option Tmp} {a : Act} {w : World} {K' : Act → World → Prop} {Q' : Exit → Act → World → Prop} (h : Oper.wp P ⟨dst, op, ty, pos, after, none⟩ a w K' Q') : Oper.wp P ⟨dst, op, ty, pos, after, g⟩ a w K' Q' := by
  have e : execOp a.eval ⟨dst, op, ty, pos, after, g⟩ = execOp a.eval ⟨dst, op, ty, pos, after, none⟩ := by cases op <;> rfl
  unfold Oper.wp at *
  rw [e]
  generalize (execOp a.eval ⟨dst, op, ty, pos, after, none⟩).run P w = r at *
  cases r with
  | ok n w' => cases n <;> exact h
  | halt x w' => cases x <;> exact h
/-- The only one that may come up. -/
theorem dl_op {op : Op} {dst : Option Tmp} (hj : DrawJ j Hs F E1) (hw : Wants ops s g)
    (h : OP j ⟨dst, op, ty, pos, after, none⟩ (fun s' E' => ∀ j' : J P N, DrawJ j' Hs F E' → DL j' Hs E' ops rest Q s' s' E') (fun e s E => Q e s (E ++ Hs)) s E) : DL j Hs E1 ops ((true, i, some ⟨dst, op, ty, pos, after, g⟩) :: rest) Q so s E := fun hq fuel listed hs hl a w st0 st => by
  obtain ⟨hi, hr, hs⟩ := hs
  obtain ⟨fuel, rfl⟩ : ∃ k, fuel = k + 1 := ⟨fuel - 1, by simp only [List.length_cons] at hl; omega⟩
  refine wpAnyH_all hr (by simp) fun k hk => ?_
  simp only [List.mem_singleton] at hk
  subst hk
  unfold wpOp
  have hwn := hw.wanted (o := ⟨dst, op, ty, pos, after, g⟩) st
  simp only [hi, hwn, if_true]
  refine .inl (wp_guard (h a w st _ fun a' w' hl' => ?_))
  obtain ⟨s', E', st', hD⟩ := hl'
  exact ⟨stable_of st', dl_rebase hj st' hD hq hs (by simpa using hl)⟩
theorem dl_nil {G : List Ch} (hG : E ++ Hs = G) (h : Q .normal s G) : DL j Hs E1 ops [] Q so s E := fun hq fuel listed hs _ a w _ st => wpAnyH_done hs ⟨s, E, st, by show Q .normal s (E ++ Hs); rw [hG]; exact h⟩ fuel
/-- The case distinction ahead of a guarded operation. -/
theorem dl_split {l : Plan} (b : Bool) (h1 : b = true → DL j Hs E1 ops l Q so s E) (h2 : b = false → DL j Hs E1 ops l Q so s E) : DL j Hs E1 ops l Q so s E := by
  cases b
  · exact h2 rfl
  · exact h1 rfl
theorem dl_if {gi tt : Nat} {b want : Bool} {og : Oper} {op : Op} {e : Bool} {dst : Option Tmp} (ho : ops[gi]? = some og) (hd : og.dst = some tt) (hv : s.get tt = some (.raw (.bool b)))
    (h1 : b = true → DL j Hs E1 ops ((e, i, some ⟨dst, op, ty, pos, after, some (gi, want)⟩) :: rest) Q so s E) (h2 : b = false → DL j Hs E1 ops ((e, i, some ⟨dst, op, ty, pos, after, some (gi, want)⟩) :: rest) Q so s E) : DL j Hs E1 ops ((e, i, some ⟨dst, op, ty, pos, after, some (gi, want)⟩) :: rest) Q so s E := dl_split b h1 h2
/-- The begin: the chunks Hs are only read in the region, E1 are what calls and stores may turn. -/
theorem aw_draw {id : Nat} (sch : List (Bool × Nat)) (E1 : List Ch) {l : Plan} (hm : P.follows .mixedOrders = true) (hsc : schedB ops (Array.replicate ops.size false) sch = true) (hlen : sch.length ≤ ops.size) (hl : (sch.map fun p => (p.1, p.2, ops[p.2]?)) = l) (hp : Pick E1 H Hs) (hq : NoS Q)
    (h : ∀ j' : J P N, DrawJ j' Hs j.F E1 → DL j' Hs E1 ops l Q s s E1) : AW j (.region id ops true) Q s H := fun a w st => by
  let w1 : World := { w with drawn := w.drawn + 1 }
  let j' : J P N := { F := Hs ++ j.F, H0 := own E1, w0 := w1 }
  have hpm := hp.perm
  have hpF : (H ++ j.F).Perm (E1 ++ (Hs ++ j.F)) := by rw [← List.append_assoc]; exact hpm.append_right _
  have kk : Keeps (own (H ++ j.F)) w (own (E1 ++ (Hs ++ j.F))) w1 := by
    rw [← own_funext hpF]
    exact ⟨Nat.le_refl _, fun _ _ _ => rfl, fun _ _ h => h⟩
  have hp1 := (own_funext hpF ▸ st.hp).perm hpF
  have st1 : St j' s E1 a w1 := ⟨st.sl.keep kk, ⟨hp1.nd, fun c hc => Ch.sat_keep (w := w) (w' := w1) (ow := own (E1 ++ (Hs ++ j.F))) ⟨Nat.le_refl _, fun _ _ _ => rfl, fun _ _ h => h⟩ (hp1.sat c hc) fun _ _ => rfl⟩, Evo.refl _ _, st.df⟩
  refine wp_region_held (S := Stable j') hm ?_
  have hD := h j' ⟨rfl, rfl⟩ hq ops.size _ (hl ▸ sched_of hsc) (by rw [← hl]; simpa using hlen) a w1 st1 st1
  -- the post, back
  have back : ∀ e a' w', liftE j' (fun e s E => Q e s (E ++ Hs)) e a' w' → liftE j Q e a' w' := fun e a' w' ⟨s', E', st', hq⟩ => by
    refine ⟨s', E' ++ Hs, ⟨?_, ?_, ?_, st'.df⟩, hq⟩
    · have := st'.sl
      rwa [show E' ++ j'.F = E' ++ Hs ++ j.F from (List.append_assoc ..).symm] at this
    · have := st'.hp
      rwa [show E' ++ j'.F = E' ++ Hs ++ j.F from (List.append_assoc ..).symm] at this
    · have e1 : Evo (own (E1 ++ Hs)) w1 (own (E' ++ Hs)) w' := evo_frame_own st'.evo rfl
      rw [← own_funext hpm] at e1
      exact (st.evo.trans (Evo.draw _ w _)).trans e1
  exact wpAnyH_post back _ _ _ _ hD
/-! ### Loads that yield the same whenever they come up -/
theorem run_hold {w w' : World} {b : Nat} (h : w'.heap[b]? = w.heap[b]?) {p : Addr} (hp : p.block = b) {x : Value} (hx : w.cell? p = some x) : w'.cell? p = some x := by
  subst hp
  exact (World.cell?_of_block h).trans hx
theorem DrawJ.not_own {a : Act} {w : World} (hj : DrawJ j Hs F E1) (st : St j s E1 a w) {c : Ch} (hc : c ∈ Hs) {b : Nat} (hb : c.blk = some b) : ¬ j.H0 b := by
  rw [hj.h0]
  intro h1
  have hnd := st.hp.nd
  rw [blks_append] at hnd
  refine (List.nodup_append.1 hnd).2.2 b h1 b ?_ rfl
  exact List.mem_filterMap.2 ⟨c, by rw [hj.f]; exact List.mem_append_left _ hc, hb⟩
theorem DrawJ.mem (hj : DrawJ j Hs F E1) {c : Ch} (hc : c ∈ Hs) (E : List Ch) : c ∈ E ++ j.F := by
  rw [hj.f]; exact List.mem_append_right _ (List.mem_append_left _ hc)
theorem hv_load_box {b k : Nat} {B : TypeId} {cells : List V} [t : Ty P T D sz bs z] (hj : DrawJ j Hs F E1) (hx : so.ev x = some (.raw (.pointer (some ⟨b, k, none⟩)))) (hm : Ch.box b B cells ∈ Hs) (hD : aggOf D = false) (hc : cells[k]? = some v) :
    HV j so E1 ⟨dst, .load T x, ty, pos, after, g⟩ v := fun a st => by
  have h1 := st.sl.ev hx
  simp only [conc] at h1
  obtain ⟨l, k1, k2, k3, k4⟩ := box_cells st (hj.mem hm E1)
  obtain ⟨y, hy, hc⟩ := concL_get k2 k v hc
  have hlt : b < j.w0.heap.size := (Array.getElem?_eq_some_iff.1 k1).1
  refine ⟨y, fun w hw => ?_, hc⟩
  have := run_hold (hw b hlt (hj.not_own st hm rfl)) rfl (k4 k y hy)
  simp [execOp, h1, Instr.loadAt, Instr.sureAddr, run_loadVar_scalar t hD this]
theorem hv_load_box_agg {b k : Nat} {B : TypeId} {cells cs : List V} [t : Ty P T D sz bs z] (hj : DrawJ j Hs F E1) (hx : so.ev x = some (.raw (.pointer (some ⟨b, k, none⟩)))) (hm : Ch.box b B cells ∈ Hs) (hD : aggOf D = true) (hc : (cells.drop k).take sz = cs) (hl : cs.length = sz) :
    HV j so E1 ⟨dst, .load T x, ty, pos, after, g⟩ (.agg cs) := fun a st => by
  have h1 := st.sl.ev hx
  simp only [conc] at h1
  obtain ⟨l, k1, k2, k3, k4⟩ := box_cells st (hj.mem hm E1)
  subst hc
  have hL := concL_take (concL_drop k2 k) sz
  have hlen : ((l.drop k).take sz).length = sz := (concL_length hL).trans hl
  have t' : Ty P T D ((l.drop k).take sz).length bs z := by rw [hlen]; exact t
  have hlt : b < j.w0.heap.size := (Array.getElem?_eq_some_iff.1 k1).1
  refine ⟨.agg ((l.drop k).take sz).toArray, fun w hw => ?_, ?_⟩
  · simp only [execOp, h1, Instr.loadAt, Instr.sureAddr]
    have := run_loadVar_agg (w := w) (ad := ⟨b, k, none⟩) t' hD (fun i v hv => by
      rw [addr_add]
      refine run_hold (hw b hlt (hj.not_own st hm rfl)) rfl (k4 (k + i) v ?_)
      rw [List.getElem?_take] at hv
      split at hv
      · simpa using hv
      · cases hv)
    simp [this]
  · simp only [conc]
    exact ⟨_, rfl, hL, fun y hy => k3 y (List.mem_of_mem_drop (List.mem_of_mem_take hy))⟩
theorem hv_load_box_whole {b : Nat} {B : TypeId} {cells : List V} [t : Ty P T D sz bs z] (hj : DrawJ j Hs F E1) (hx : so.ev x = some (.raw (.pointer (some ⟨b, 0, none⟩)))) (hm : Ch.box b B cells ∈ Hs) (hD : aggOf D = true) (hl : cells.length = sz) :
    HV j so E1 ⟨dst, .load T x, ty, pos, after, g⟩ (.agg cells) :=
  hv_load_box_agg hj hx hm hD (by rw [List.drop_zero, List.take_of_length_le (Nat.le_of_eq hl)]) hl
theorem DrawJ.ro_own (hj : DrawJ j Hs F E1) {b : Nat} (h : ¬ own (E1 ++ j.F) b) : ¬ j.H0 b := by
  rw [hj.h0]
  exact fun h1 => h ((own_append _ _ _).2 (.inl h1))
theorem hv_load_ro {k : Nat} {cells : List V} [t : Ty P T D sz bs z] (hj : DrawJ j Hs F E1) (hx : so.ev x = some (.rop cells k)) (hD : aggOf D = false) (hc : cells[k]? = some v) :
    HV j so E1 ⟨dst, .load T x, ty, pos, after, g⟩ v := fun a st => by
  have h1 := st.sl.ev hx
  simp only [conc] at h1
  obtain ⟨b, q, h1, hlt, hno, h2⟩ := h1
  obtain ⟨y, hy, _, hc⟩ := concAt_get h2 hc
  refine ⟨y, fun w hw => ?_, hc⟩
  have := run_hold (hw b hlt (hj.ro_own hno)) rfl hy
  simp [execOp, h1, Instr.loadAt, Instr.sureAddr, run_loadVar_scalar t hD this]
theorem hv_load_ro_agg {k : Nat} {cells cs : List V} [t : Ty P T D sz bs z] (hj : DrawJ j Hs F E1) (hx : so.ev x = some (.rop cells k)) (hD : aggOf D = true) (hc : (cells.drop k).take sz = cs) (hl : cs.length = sz) :
    HV j so E1 ⟨dst, .load T x, ty, pos, after, g⟩ (.agg cs) := fun a st => by
  have h1 := st.sl.ev hx
  simp only [conc] at h1
  obtain ⟨b, q, h1, hlt, hno, h2⟩ := h1
  have h3 := concAt_take sz (concAt_drop k h2)
  rw [hc] at h3
  obtain ⟨l, k1, k2, k3⟩ := concAt_list h3
  have hlen : l.length = sz := (concL_length k1).trans hl
  have t' : Ty P T D l.length bs z := by rw [hlen]; exact t
  refine ⟨.agg l.toArray, fun w hw => ?_, ?_⟩
  · have := run_loadVar_agg (w := w) (ad := ⟨b, q + k, none⟩) t' hD (fun i v hv => by rw [addr_add]; exact run_hold (hw b hlt (hj.ro_own hno)) rfl (k3 i v hv))
    simp [execOp, h1, Instr.loadAt, Instr.sureAddr, this]
  · simp only [conc]
    exact ⟨_, rfl, k1, k2⟩
theorem hv_load_ro_whole {cells : List V} [t : Ty P T D sz bs z] (hj : DrawJ j Hs F E1) (hx : so.ev x = some (.rop cells 0)) (hD : aggOf D = true) (hl : cells.length = sz) :
    HV j so E1 ⟨dst, .load T x, ty, pos, after, g⟩ (.agg cells) :=
  hv_load_ro_agg hj hx hD (by rw [List.drop_zero, List.take_of_length_le (Nat.le_of_eq hl)]) hl
theorem hv_load_vp {k i B m : Nat} {sv : Value} {rows : List (List V)} {r : List V} [t : Ty P T D sz bs z] (hj : DrawJ j Hs F E1) (hx : so.ev x = some (.vp sv m i k)) (hm : Ch.vec sv B m rows ∈ Hs) (hr : rows[i]? = some r) (hD : aggOf D = false) (hc : r[k]? = some v) :
    HV j so E1 ⟨dst, .load T x, ty, pos, after, g⟩ v := fun a st => by
  have h1 := st.sl.ev hx
  simp only [conc] at h1
  obtain ⟨b, n, c, hsv, h1⟩ := h1
  have hb : (Ch.vec sv B m rows).blk = some b := by simp [Ch.blk, hsv, Value.ownBlock]
  obtain ⟨y, hy, _, hc⟩ := concAt_get (vec_row st (hj.mem hm E1) hr b n c hsv) hc
  have hlt : b < j.w0.heap.size := Ch.blk_lt (st.hp.sat _ (hj.mem hm E1)) hb
  refine ⟨y, fun w hw => ?_, hc⟩
  have := run_hold (hw b hlt (hj.not_own st hm hb)) rfl hy
  simp [execOp, h1, Instr.loadAt, Instr.sureAddr, run_loadVar_scalar t hD this]
theorem hv_load_vp_agg {k i B m : Nat} {sv : Value} {rows : List (List V)} {r cs : List V} [t : Ty P T D sz bs z] (hj : DrawJ j Hs F E1) (hx : so.ev x = some (.vp sv m i k)) (hm : Ch.vec sv B m rows ∈ Hs) (hr : rows[i]? = some r) (hD : aggOf D = true) (hc : (r.drop k).take sz = cs) (hl : cs.length = sz) :
    HV j so E1 ⟨dst, .load T x, ty, pos, after, g⟩ (.agg cs) := fun a st => by
  have h1 := st.sl.ev hx
  simp only [conc] at h1
  obtain ⟨b, n, c, hsv, h1⟩ := h1
  have hb : (Ch.vec sv B m rows).blk = some b := by simp [Ch.blk, hsv, Value.ownBlock]
  have h3 := concAt_take sz (concAt_drop k (vec_row st (hj.mem hm E1) hr b n c hsv))
  rw [hc] at h3
  obtain ⟨l, k1, k2, k3⟩ := concAt_list h3
  have hlen : l.length = sz := (concL_length k1).trans hl
  have t' : Ty P T D l.length bs z := by rw [hlen]; exact t
  have hlt : b < j.w0.heap.size := Ch.blk_lt (st.hp.sat _ (hj.mem hm E1)) hb
  refine ⟨.agg l.toArray, fun w hw => ?_, ?_⟩
  · have := run_loadVar_agg (w := w) (ad := ⟨b, i * m + k, none⟩) t' hD (fun i v hv => by rw [addr_add]; exact run_hold (hw b hlt (hj.not_own st hm hb)) rfl (k3 i v hv))
    simp [execOp, h1, Instr.loadAt, Instr.sureAddr, this]
  · simp only [conc]
    exact ⟨_, rfl, k1, k2⟩
/-! ### What stands first -/
section
variable {T' : TypeId} {c y : Operand} {xs ys : Array Operand} {ts : Array TypeId} {ps : Array (Nat × Operand)} {fn : Fn} {op : Op} {b e : Bool} {n : Nat}
theorem kd_move (h : DL j Hs E1 ops ((e, i, some ⟨dst, .move x, ty, pos, after, g⟩) :: rest) Q so s E) : DL j Hs E1 ops ((e, i, some ⟨dst, .move x, ty, pos, after, g⟩) :: rest) Q so s E := h
theorem kd_assign (h : DL j Hs E1 ops ((e, i, some ⟨dst, .assign x, ty, pos, after, g⟩) :: rest) Q so s E) : DL j Hs E1 ops ((e, i, some ⟨dst, .assign x, ty, pos, after, g⟩) :: rest) Q so s E := h
theorem kd_load (h : DL j Hs E1 ops ((e, i, some ⟨dst, .load T x, ty, pos, after, g⟩) :: rest) Q so s E) : DL j Hs E1 ops ((e, i, some ⟨dst, .load T x, ty, pos, after, g⟩) :: rest) Q so s E := h
theorem kd_fieldAddr (h : DL j Hs E1 ops ((e, i, some ⟨dst, .fieldAddr T x n, ty, pos, after, g⟩) :: rest) Q so s E) : DL j Hs E1 ops ((e, i, some ⟨dst, .fieldAddr T x n, ty, pos, after, g⟩) :: rest) Q so s E := h
theorem kd_store (h : DL j Hs E1 ops ((e, i, some ⟨dst, .store T x y, ty, pos, after, g⟩) :: rest) Q so s E) : DL j Hs E1 ops ((e, i, some ⟨dst, .store T x y, ty, pos, after, g⟩) :: rest) Q so s E := h
theorem kd_alloc (h : DL j Hs E1 ops ((e, i, some ⟨dst, .alloc T, ty, pos, after, g⟩) :: rest) Q so s E) : DL j Hs E1 ops ((e, i, some ⟨dst, .alloc T, ty, pos, after, g⟩) :: rest) Q so s E := h
theorem kd_box (h : DL j Hs E1 ops ((e, i, some ⟨dst, .box T x, ty, pos, after, g⟩) :: rest) Q so s E) : DL j Hs E1 ops ((e, i, some ⟨dst, .box T x, ty, pos, after, g⟩) :: rest) Q so s E := h
theorem kd_extract (h : DL j Hs E1 ops ((e, i, some ⟨dst, .extract x n, ty, pos, after, g⟩) :: rest) Q so s E) : DL j Hs E1 ops ((e, i, some ⟨dst, .extract x n, ty, pos, after, g⟩) :: rest) Q so s E := h
theorem kd_len (h : DL j Hs E1 ops ((e, i, some ⟨dst, .call { callee := .builtin .len, args := xs, argTypes := ts }, ty, pos, after, g⟩) :: rest) Q so s E) : DL j Hs E1 ops ((e, i, some ⟨dst, .call { callee := .builtin .len, args := xs, argTypes := ts }, ty, pos, after, g⟩) :: rest) Q so s E := h
theorem kd_indexAddr (h : DL j Hs E1 ops ((e, i, some ⟨dst, .indexAddr T x y, ty, pos, after, g⟩) :: rest) Q so s E) : DL j Hs E1 ops ((e, i, some ⟨dst, .indexAddr T x y, ty, pos, after, g⟩) :: rest) Q so s E := h
theorem kd_build (h : DL j Hs E1 ops ((e, i, some ⟨dst, .build T ps, ty, pos, after, g⟩) :: rest) Q so s E) : DL j Hs E1 ops ((e, i, some ⟨dst, .build T ps, ty, pos, after, g⟩) :: rest) Q so s E := h
theorem kd_buildSlice (h : DL j Hs E1 ops ((e, i, some ⟨dst, .buildSlice T n ps, ty, pos, after, g⟩) :: rest) Q so s E) : DL j Hs E1 ops ((e, i, some ⟨dst, .buildSlice T n ps, ty, pos, after, g⟩) :: rest) Q so s E := h
theorem kd_makeFunc (h : DL j Hs E1 ops ((e, i, some ⟨dst, .makeFunc fn xs ys, ty, pos, after, g⟩) :: rest) Q so s E) : DL j Hs E1 ops ((e, i, some ⟨dst, .makeFunc fn xs ys, ty, pos, after, g⟩) :: rest) Q so s E := h
theorem kd_field (h : DL j Hs E1 ops ((e, i, some ⟨dst, .field T x n, ty, pos, after, g⟩) :: rest) Q so s E) : DL j Hs E1 ops ((e, i, some ⟨dst, .field T x n, ty, pos, after, g⟩) :: rest) Q so s E := h
theorem kd_pick (h : DL j Hs E1 ops ((e, i, some ⟨dst, .pick c x y, ty, pos, after, g⟩) :: rest) Q so s E) : DL j Hs E1 ops ((e, i, some ⟨dst, .pick c x y, ty, pos, after, g⟩) :: rest) Q so s E := h
theorem kd_convert (h : DL j Hs E1 ops ((e, i, some ⟨dst, .convert T T' x, ty, pos, after, g⟩) :: rest) Q so s E) : DL j Hs E1 ops ((e, i, some ⟨dst, .convert T T' x, ty, pos, after, g⟩) :: rest) Q so s E := h
theorem kd_not (h : DL j Hs E1 ops ((e, i, some ⟨dst, .unOp .not T x, ty, pos, after, g⟩) :: rest) Q so s E) : DL j Hs E1 ops ((e, i, some ⟨dst, .unOp .not T x, ty, pos, after, g⟩) :: rest) Q so s E := h
theorem kd_neg (h : DL j Hs E1 ops ((e, i, some ⟨dst, .unOp .neg T x, ty, pos, after, g⟩) :: rest) Q so s E) : DL j Hs E1 ops ((e, i, some ⟨dst, .unOp .neg T x, ty, pos, after, g⟩) :: rest) Q so s E := h
theorem kd_eql (h : DL j Hs E1 ops ((e, i, some ⟨dst, .binOp .eql T x y T', ty, pos, after, g⟩) :: rest) Q so s E) : DL j Hs E1 ops ((e, i, some ⟨dst, .binOp .eql T x y T', ty, pos, after, g⟩) :: rest) Q so s E := h
theorem kd_neq (h : DL j Hs E1 ops ((e, i, some ⟨dst, .binOp .neq T x y T', ty, pos, after, g⟩) :: rest) Q so s E) : DL j Hs E1 ops ((e, i, some ⟨dst, .binOp .neq T x y T', ty, pos, after, g⟩) :: rest) Q so s E := h
theorem kd_lss (h : DL j Hs E1 ops ((e, i, some ⟨dst, .binOp .lss T x y T', ty, pos, after, g⟩) :: rest) Q so s E) : DL j Hs E1 ops ((e, i, some ⟨dst, .binOp .lss T x y T', ty, pos, after, g⟩) :: rest) Q so s E := h
theorem kd_leq (h : DL j Hs E1 ops ((e, i, some ⟨dst, .binOp .leq T x y T', ty, pos, after, g⟩) :: rest) Q so s E) : DL j Hs E1 ops ((e, i, some ⟨dst, .binOp .leq T x y T', ty, pos, after, g⟩) :: rest) Q so s E := h
theorem kd_gtr (h : DL j Hs E1 ops ((e, i, some ⟨dst, .binOp .gtr T x y T', ty, pos, after, g⟩) :: rest) Q so s E) : DL j Hs E1 ops ((e, i, some ⟨dst, .binOp .gtr T x y T', ty, pos, after, g⟩) :: rest) Q so s E := h
theorem kd_geq (h : DL j Hs E1 ops ((e, i, some ⟨dst, .binOp .geq T x y T', ty, pos, after, g⟩) :: rest) Q so s E) : DL j Hs E1 ops ((e, i, some ⟨dst, .binOp .geq T x y T', ty, pos, after, g⟩) :: rest) Q so s E := h
theorem kd_add (h : DL j Hs E1 ops ((e, i, some ⟨dst, .binOp .add T x y T', ty, pos, after, g⟩) :: rest) Q so s E) : DL j Hs E1 ops ((e, i, some ⟨dst, .binOp .add T x y T', ty, pos, after, g⟩) :: rest) Q so s E := h
theorem kd_sub (h : DL j Hs E1 ops ((e, i, some ⟨dst, .binOp .sub T x y T', ty, pos, after, g⟩) :: rest) Q so s E) : DL j Hs E1 ops ((e, i, some ⟨dst, .binOp .sub T x y T', ty, pos, after, g⟩) :: rest) Q so s E := h
theorem kd_mul (h : DL j Hs E1 ops ((e, i, some ⟨dst, .binOp .mul T x y T', ty, pos, after, g⟩) :: rest) Q so s E) : DL j Hs E1 ops ((e, i, some ⟨dst, .binOp .mul T x y T', ty, pos, after, g⟩) :: rest) Q so s E := h
theorem kd_quo (h : DL j Hs E1 ops ((e, i, some ⟨dst, .binOp .quo T x y T', ty, pos, after, g⟩) :: rest) Q so s E) : DL j Hs E1 ops ((e, i, some ⟨dst, .binOp .quo T x y T', ty, pos, after, g⟩) :: rest) Q so s E := h
theorem kd_rem (h : DL j Hs E1 ops ((e, i, some ⟨dst, .binOp .rem T x y T', ty, pos, after, g⟩) :: rest) Q so s E) : DL j Hs E1 ops ((e, i, some ⟨dst, .binOp .rem T x y T', ty, pos, after, g⟩) :: rest) Q so s E := h
theorem kd_guard (h : DL j Hs E1 ops ((e, i, some ⟨dst, op, ty, pos, after, some (n, b)⟩) :: rest) Q so s E) : DL j Hs E1 ops ((e, i, some ⟨dst, op, ty, pos, after, some (n, b)⟩) :: rest) Q so s E := h
end
end Go.AX
