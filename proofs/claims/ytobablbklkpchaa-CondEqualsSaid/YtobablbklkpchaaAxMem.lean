/- AX 5: memory: what an operation does to the chunks; loads, stores, new blocks. -/
import Derived.Test.YtobablbklkpchaaAxVals2
set_option linter.unusedVariables false
set_option linter.unusedSimpArgs false
namespace Go.AX
variable {P : Program} {N : Nat} {j : J P N} {Q : Exit → Sl → List Ch → Prop} {s : Sl} {H : List Ch} {ops : Array Oper} {rest : List Oper}

inductive Take : Ch → List Ch → List Ch → Prop
  | here {c : Ch} {l : List Ch} : Take c (c :: l) l
  | there {c d : Ch} {l r : List Ch} : Take c l r → Take c (d :: l) (d :: r)
inductive Pick : List Ch → List Ch → List Ch → Prop
  | nil {l : List Ch} : Pick [] l l
  | cons {c : Ch} {cs l r t : List Ch} : Take c l r → Pick cs r t → Pick (c :: cs) l t
theorem Take.perm {c : Ch} {l r : List Ch} (h : Take c l r) : l.Perm (c :: r) := by
  induction h with
  | here => exact .refl _
  | there _ ih => exact (ih.cons _).trans (List.Perm.swap _ _ _)
theorem Pick.perm {cs l r : List Ch} (h : Pick cs l r) : l.Perm (cs ++ r) := by
  induction h with
  | nil => exact .refl _
  | cons h1 _ ih => exact h1.perm.trans (ih.cons _)
inductive Upd : Ch → Ch → List Ch → List Ch → Prop
  | here {c c' : Ch} {l : List Ch} : Upd c c' (c :: l) (c' :: l)
  | there {c c' d : Ch} {l r : List Ch} : Upd c c' l r → Upd c c' (d :: l) (d :: r)
theorem Upd.split {c c' : Ch} {l r : List Ch} (h : Upd c c' l r) : ∃ t, l.Perm (c :: t) ∧ r.Perm (c' :: t) := by
  induction h with
  | here => exact ⟨_, .refl _, .refl _⟩
  | there _ ih =>
    obtain ⟨t, h1, h2⟩ := ih
    exact ⟨_ :: t, (h1.cons _).trans (List.Perm.swap _ _ _), (h2.cons _).trans (List.Perm.swap _ _ _)⟩
theorem Upd.mem {c c' : Ch} {l r : List Ch} (h : Upd c c' l r) : c ∈ l := by
  obtain ⟨t, h1, _⟩ := h.split
  exact h1.mem_iff.2 (List.mem_cons_self ..)
theorem St.perm {a : Act} {w : World} {G : List Ch} (st : St j s H a w) (p : H.Perm G) : St j s G a w := by
  have hp : (H ++ j.F).Perm (G ++ j.F) := p.append_right _
  exact ⟨own_funext hp ▸ st.sl, (own_funext hp ▸ st.hp).perm hp, own_funext p ▸ st.evo, st.df⟩
/-- What an operation, or a call, does: the chunks Hf have become Hf', nothing else that stood is touched. -/
theorem St.eff {a : Act} {w w' : World} {Hf Hf' Hr : List Ch} (st : St j s H a w) (p : H.Perm (Hf ++ Hr)) (e : Evo (own Hf) w (own Hf') w') (nd : (blks Hf').Nodup)
    (sat : ∀ c ∈ Hf', c.sat w' (own (Hf' ++ Hr ++ j.F))) : St j s (Hf' ++ Hr) a w' ∧ Evo (own H) w (own (Hf' ++ Hr)) w' ∧ Evo (own (H ++ j.F)) w (own (Hf' ++ Hr ++ j.F)) w' := by
  have hpF : (H ++ j.F).Perm (Hf ++ (Hr ++ j.F)) := by rw [← List.append_assoc]; exact p.append_right _
  have hp1 := (own_funext hpF ▸ st.hp).perm hpF
  have eH : Evo (own H) w (own (Hf' ++ Hr)) w' := by
    have := e.frame (of := own Hr)
    have e1 : (fun b => own Hf b ∨ own Hr b) = own H := funext fun b => propext ((own_append _ _ _).symm.trans (own_perm p b).symm)
    have e2 : (fun b => own Hf' b ∨ own Hr b) = own (Hf' ++ Hr) := funext fun b => propext (own_append _ _ _).symm
    rwa [e1, e2] at this
  have eF : Evo (own (H ++ j.F)) w (own (Hf' ++ Hr ++ j.F)) w' := by
    have := eH.frame (of := own j.F)
    have e1 : (fun b => own H b ∨ own j.F b) = own (H ++ j.F) := funext fun b => propext (own_append _ _ _).symm
    have e2 : (fun b => own (Hf' ++ Hr) b ∨ own j.F b) = own (Hf' ++ Hr ++ j.F) := funext fun b => propext (own_append _ _ _).symm
    rwa [e1, e2] at this
  have hnd := hp1.nd
  rw [blks_append] at hnd
  have hdis := (List.nodup_append.1 hnd).2.2
  refine ⟨⟨st.sl.keep eF.keeps, ⟨?_, fun c hc => ?_⟩, st.evo.trans eH, st.df⟩, eH, eF⟩
  · rw [List.append_assoc, blks_append]
    refine List.nodup_append.2 ⟨nd, (List.nodup_append.1 hnd).2.1, fun x hx y hy hxy => ?_⟩
    subst hxy
    rcases e.grow x hx with h1 | h1
    · exact hdis x h1 x hy rfl
    · have : own (Hr ++ j.F) x := hy
      have hlt := own_lt hp1 (b := x) ((own_append _ _ _).2 (.inr this))
      omega
  · rw [List.append_assoc] at hc
    rcases List.mem_append.1 hc with h1 | h1
    · exact sat c h1
    · refine Ch.sat_keep eF.keeps (st.hp.sat c (hpF.mem_iff.2 (List.mem_append_right _ h1))) fun b hb => ?_
      have hob : own (Hr ++ j.F) b := List.mem_filterMap.2 ⟨c, h1, hb⟩
      exact e.block b (own_lt hp1 ((own_append _ _ _).2 (.inr hob))) fun h2 => hdis b h2 b hob rfl
/-- A chunk turned, its block the same. -/
theorem St.upd {a : Act} {w w' : World} {c c' : Ch} {H' : List Ch} (st : St j s H a w) (hu : Upd c c' H H') (hb : c'.blk = c.blk) (e : Evo (own [c]) w (own [c]) w')
    (sat : c'.sat w' (own (H' ++ j.F))) : St j s H' a w' ∧ Evo (own (H ++ j.F)) w (own (H' ++ j.F)) w' := by
  obtain ⟨t, h1, h2⟩ := hu.split
  have eo : own [c'] = own [c] := by
    funext b
    simp only [own, blks, List.filterMap_cons, hb]
  have nd : (blks [c']).Nodup := by
    simp only [blks, List.filterMap_cons, List.filterMap_nil]
    cases c'.blk <;> simp
  have h2F : (H' ++ j.F).Perm ([c'] ++ t ++ j.F) := h2.append_right _
  obtain ⟨k1, k2, k3⟩ := St.eff (Hf := [c]) (Hf' := [c']) (Hr := t) st h1 (by rw [eo]; exact e) nd (fun d hd => by
    simp only [List.mem_singleton] at hd
    subst hd
    rw [← own_funext h2F]
    exact sat)
  exact ⟨k1.perm h2.symm, by rw [own_funext h2F]; exact k3⟩

/-! ### Loads -/
def ValV (j : J P N) (s : Sl) (H : List Ch) (o : Oper) (v : V) : Prop :=
  ∀ a w, St j s H a w → ∃ x, (execOp a.eval o).run P w = .ok (.value x) w ∧ conc w (own (H ++ j.F)) v x
theorem PureV.val {o : Oper} {v : V} (h : PureV j s H o v) : ValV j s H o v := fun a w st => let ⟨x, h1, h2⟩ := h a w st; ⟨x, h1 w, h2⟩
theorem op_val {o : Oper} {v : V} {d : Nat} (hv : ValV j s H o v) (hd : o.dst = some d) (hN : Nat.blt d N = true) {K : Sl → List Ch → Prop} (hk : K ((d, v) :: s) H) : OP j o K Q s H := fun a w st K' hK => by
  obtain ⟨x, hx, hc⟩ := hv a w st
  simp only [Oper.wp, hx, Oper.upon]
  refine hK _ _ ⟨_, H, ?_, hk⟩
  have := st.put (d := o.dst) hc (fun i hi => by rw [hd] at hi; cases hi; exact Nat.le_of_ble_eq_true hN)
  rwa [hd] at this ⊢
theorem rl_val {o : Oper} {v : V} {d : Nat} (hv : ValV j s H o v) (hg : o.guard = none) (hd : o.dst = some d) (hN : Nat.blt d N = true) (h : RL j ops rest Q ((d, v) :: s) H) : RL j ops (o :: rest) Q s H :=
  rl_op hg (op_val hv hd hN h)
theorem addr_add (b o n : Nat) : (⟨b, o, none⟩ : Addr).add n = ⟨b, o + n, none⟩ := Addr.add_lit b o n
theorem run_loadVar_scalar {T : TypeId} {D : TypeDesc} {sz bs : Nat} {z : Value} (t : Ty P T D sz bs z) (hD : aggOf D = false) {w : World} {ad : Addr} {x : Value} (h : w.cell? ad = some x) : (loadVar T ad).run P w = .ok x w := by
  simp [loadVar, t.isAgg, hD, h]
theorem run_loadVar_agg {T : TypeId} {D : TypeDesc} {bs : Nat} {z : Value} {w : World} {ad : Addr} {cs : List Value} (t : Ty P T D cs.length bs z) (hD : aggOf D = true) (h : ∀ i v, cs[i]? = some v → w.cell? (ad.add i) = some v) : (loadVar T ad).run P w = .ok (.agg cs.toArray) w := by
  simp [loadVar, t.isAgg, hD, t.sizeOf, run_loadCells_list w ad cs h]
/-- Cells that lie in a row. -/
theorem concAt_get {w : World} {ow : Nat → Prop} {b : Nat} : ∀ {o : Nat} {cs : List V}, concAt w ow b o cs → ∀ {i : Nat} {v : V}, cs[i]? = some v → ∃ x, w.cell? ⟨b, o + i, none⟩ = some x ∧ x.oneCell' = true ∧ conc w ow v x
  | o, [], h, i, v, hv => by simp at hv
  | o, u :: cs, h, i, v, hv => by
    simp only [concAt] at h
    obtain ⟨h1, h2⟩ := h
    cases i with
    | zero => simp at hv; subst hv; exact h1
    | succ i =>
      have := concAt_get h2 (i := i) (by simpa using hv)
      rwa [Nat.add_assoc, Nat.add_comm 1] at this
theorem concAt_list {w : World} {ow : Nat → Prop} {b : Nat} : ∀ {o : Nat} {cs : List V}, concAt w ow b o cs → ∃ l : List Value, concL w ow cs l ∧ (∀ y ∈ l, y.oneCell' = true) ∧ ∀ i v, l[i]? = some v → w.cell? ⟨b, o + i, none⟩ = some v
  | o, [], h => ⟨[], rfl, by simp, by simp⟩
  | o, u :: cs, h => by
    simp only [concAt] at h
    obtain ⟨⟨x, h1, h2, h3⟩, h4⟩ := h
    obtain ⟨l, k1, k2, k3⟩ := concAt_list h4
    refine ⟨x :: l, ⟨x, l, rfl, h3, k1⟩, fun y hy => ?_, fun i v hv => ?_⟩
    · rcases List.mem_cons.1 hy with rfl | hy
      · exact h2
      · exact k2 y hy
    · cases i with
      | zero => simp at hv; subst hv; exact h1
      | succ i =>
        have := k3 i v (by simpa using hv)
        rwa [Nat.add_assoc, Nat.add_comm 1] at this
theorem concAt_drop {w : World} {ow : Nat → Prop} {b : Nat} : ∀ (n : Nat) {o : Nat} {cs : List V}, concAt w ow b o cs → concAt w ow b (o + n) (cs.drop n)
  | 0, o, cs, h => h
  | n + 1, o, [], h => by simp [concAt]
  | n + 1, o, u :: cs, h => by
    simp only [concAt] at h
    have := concAt_drop n h.2
    rwa [Nat.add_assoc, Nat.add_comm 1] at this
theorem concAt_take {w : World} {ow : Nat → Prop} {b : Nat} : ∀ (n : Nat) {o : Nat} {cs : List V}, concAt w ow b o cs → concAt w ow b o (cs.take n)
  | 0, o, cs, h => by simp [concAt]
  | n + 1, o, [], h => by simp [concAt]
  | n + 1, o, u :: cs, h => by
    simp only [concAt] at h
    exact ⟨h.1, concAt_take n h.2⟩
section
variable {dst : Option Tmp} {ty : TypeId} {pos : String} {after : Array Edge} {g : Option (Nat × Bool)} {T : TypeId} {x y : Operand} {D : TypeDesc} {sz bs : Nat} {z : Value}
/-- The cells of a box. -/
theorem box_cells {a : Act} {w : World} {b : Nat} {E : TypeId} {cells : List V} (st : St j s H a w) (hm : Ch.box b E cells ∈ H ++ j.F) : ∃ l : List Value, w.heap[b]? = some (.cells l.toArray E (0, 0)) ∧ concL w (own (H ++ j.F)) cells l ∧ (∀ y ∈ l, y.oneCell' = true) ∧ ∀ i v, l[i]? = some v → w.cell? ⟨b, i, none⟩ = some v := by
  obtain ⟨l, h1, h2, h3⟩ := st.hp.sat _ hm
  exact ⟨l, h1, h2, h3, fun i v hv => by rw [cell_of_row w b i _ _ _ h1]; simpa using hv⟩
theorem vv_load_box {b o : Nat} {E : TypeId} {cells : List V} {v : V} [t : Ty P T D sz bs z] (hx : s.ev x = some (.raw (.pointer (some ⟨b, o, none⟩)))) (hm : Ch.box b E cells ∈ H ++ j.F) (hD : aggOf D = false) (hc : cells[o]? = some v) :
    ValV j s H ⟨dst, .load T x, ty, pos, after, g⟩ v := fun a w st => by
  have h1 := st.sl.ev hx
  simp only [conc] at h1
  obtain ⟨l, k1, k2, k3, k4⟩ := box_cells st hm
  obtain ⟨y, hy, hc⟩ := concL_get k2 o v hc
  exact ⟨y, by simp [execOp, h1, Instr.loadAt, Instr.sureAddr, run_loadVar_scalar t hD (k4 o y hy)], hc⟩
theorem vv_load_box_agg {b o : Nat} {E : TypeId} {cells cs : List V} [t : Ty P T D sz bs z] (hx : s.ev x = some (.raw (.pointer (some ⟨b, o, none⟩)))) (hm : Ch.box b E cells ∈ H ++ j.F) (hD : aggOf D = true) (hc : (cells.drop o).take sz = cs) (hl : cs.length = sz) :
    ValV j s H ⟨dst, .load T x, ty, pos, after, g⟩ (.agg cs) := fun a w st => by
  have h1 := st.sl.ev hx
  simp only [conc] at h1
  obtain ⟨l, k1, k2, k3, k4⟩ := box_cells st hm
  subst hc
  have hL := concL_take (concL_drop k2 o) sz
  have hlen : ((l.drop o).take sz).length = sz := (concL_length hL).trans hl
  have t' : Ty P T D ((l.drop o).take sz).length bs z := by rw [hlen]; exact t
  refine ⟨.agg ((l.drop o).take sz).toArray, ?_, ?_⟩
  · simp only [execOp, h1, Instr.loadAt, Instr.sureAddr]
    have := run_loadVar_agg (w := w) (ad := ⟨b, o, none⟩) t' hD (fun i v hv => by
      rw [addr_add]
      refine k4 (o + i) v ?_
      rw [List.getElem?_take] at hv
      split at hv
      · simpa using hv
      · cases hv)
    simp [this]
  · simp only [conc]
    exact ⟨_, rfl, hL, fun y hy => k3 y (List.mem_of_mem_drop (List.mem_of_mem_take hy))⟩
theorem vv_load_ro {o : Nat} {cells : List V} {v : V} [t : Ty P T D sz bs z] (hx : s.ev x = some (.rop cells o)) (hD : aggOf D = false) (hc : cells[o]? = some v) :
    ValV j s H ⟨dst, .load T x, ty, pos, after, g⟩ v := fun a w st => by
  have h1 := st.sl.ev hx
  simp only [conc] at h1
  obtain ⟨b, q, h1, _, _, h2⟩ := h1
  obtain ⟨y, hy, _, hc⟩ := concAt_get h2 hc
  exact ⟨y, by simp [execOp, h1, Instr.loadAt, Instr.sureAddr, run_loadVar_scalar t hD hy], hc⟩
theorem vv_load_ro_agg {o : Nat} {cells cs : List V} [t : Ty P T D sz bs z] (hx : s.ev x = some (.rop cells o)) (hD : aggOf D = true) (hc : (cells.drop o).take sz = cs) (hl : cs.length = sz) :
    ValV j s H ⟨dst, .load T x, ty, pos, after, g⟩ (.agg cs) := fun a w st => by
  have h1 := st.sl.ev hx
  simp only [conc] at h1
  obtain ⟨b, q, h1, _, _, h2⟩ := h1
  have h3 := concAt_take sz (concAt_drop o h2)
  rw [hc] at h3
  obtain ⟨l, k1, k2, k3⟩ := concAt_list h3
  have hlen : l.length = sz := (concL_length k1).trans hl
  have t' : Ty P T D l.length bs z := by rw [hlen]; exact t
  refine ⟨.agg l.toArray, ?_, ?_⟩
  · have := run_loadVar_agg (w := w) (ad := ⟨b, q + o, none⟩) t' hD (fun i v hv => by rw [addr_add]; exact k3 i v hv)
    simp [execOp, h1, Instr.loadAt, Instr.sureAddr, this]
  · simp only [conc]
    exact ⟨_, rfl, k1, k2⟩
/-- A row of a slice that a chunk owns: its cells in memory. -/
theorem flatten_at {α : Type} {sz : Nat} : ∀ {rows : List (List α)} (_ : ∀ r ∈ rows, r.length = sz) {i : Nat} {r : List α}, rows[i]? = some r → ∀ k, k < sz → rows.flatten[i * sz + k]? = r[k]?
  | [], _, i, r, hr, k, hk => by simp at hr
  | q :: rows, h, i, r, hr, k, hk => by
    have hq := h q (List.mem_cons_self ..)
    cases i with
    | zero =>
      simp at hr
      subst hr
      rw [List.flatten_cons, Nat.zero_mul, Nat.zero_add, List.getElem?_append_left (by omega)]
    | succ i =>
      have := flatten_at (fun r hr => h r (List.mem_cons_of_mem _ hr)) (i := i) (r := r) (by simpa using hr) k hk
      rw [List.flatten_cons, Nat.succ_mul, List.getElem?_append_right (by omega), ← this]
      congr 1
      omega
theorem vec_row {a : Act} {w : World} {sv : Value} {E k : Nat} {rows : List (List V)} {i : Nat} {r : List V} (st : St j s H a w) (hm : Ch.vec sv E k rows ∈ H ++ j.F) (hr : rows[i]? = some r) :
    ∀ b n c, sv = .slice (some ⟨b, 0, none⟩) n c → concAt w (own (H ++ j.F)) b (i * k) r := by
  intro b n c hsv
  obtain ⟨l, ho, hl, h1, hrows⟩ := st.hp.sat _ hm
  have hrl : r.length = k := hrows r (List.mem_of_getElem? hr)
  have key : ∀ (m : Nat) (q : List V), m + q.length ≤ k → (∀ t v, q[t]? = some v → r[m + t]? = some v) → concAt w (own (H ++ j.F)) b (i * k + m) q := by
    intro m q
    induction q generalizing m with
    | nil => intro _ _; simp [concAt]
    | cons v q ih =>
      intro hm2 hq
      simp only [List.length_cons] at hm2
      refine ⟨?_, ?_⟩
      · have hv : r[m]? = some v := by simpa using hq 0 v rfl
        have hf := (flatten_at hrows hr m (by omega)).trans hv
        obtain ⟨x, hx, hc⟩ := concL_get hl _ v hf
        refine ⟨x, ?_, h1 x (List.mem_of_getElem? hx), hc⟩
        have := ho.cells (g := b) (by rw [hsv]; rfl) _ x hx
        rwa [addr_add, Nat.zero_add] at this
      · have := ih (m + 1) (by omega) (fun t u hu => by
          have := hq (t + 1) u (by simpa using hu)
          rwa [Nat.add_assoc, Nat.add_comm 1])
        rwa [Nat.add_assoc]
  have := key 0 r (by omega) (fun t v h => by simpa using h)
  simpa using this
theorem vv_load_vp {o i E k : Nat} {sv : Value} {rows : List (List V)} {r : List V} {v : V} [t : Ty P T D sz bs z] (hx : s.ev x = some (.vp sv k i o)) (hm : Ch.vec sv E k rows ∈ H ++ j.F) (hr : rows[i]? = some r) (hD : aggOf D = false) (hc : r[o]? = some v) :
    ValV j s H ⟨dst, .load T x, ty, pos, after, g⟩ v := fun a w st => by
  have h1 := st.sl.ev hx
  simp only [conc] at h1
  obtain ⟨b, n, c, hsv, h1⟩ := h1
  obtain ⟨y, hy, _, hc⟩ := concAt_get (vec_row st hm hr b n c hsv) hc
  exact ⟨y, by simp [execOp, h1, Instr.loadAt, Instr.sureAddr, run_loadVar_scalar t hD hy], hc⟩
theorem vv_load_vp_agg {o i E k : Nat} {sv : Value} {rows : List (List V)} {r cs : List V} [t : Ty P T D sz bs z] (hx : s.ev x = some (.vp sv k i o)) (hm : Ch.vec sv E k rows ∈ H ++ j.F) (hr : rows[i]? = some r) (hD : aggOf D = true) (hc : (r.drop o).take sz = cs) (hl : cs.length = sz) :
    ValV j s H ⟨dst, .load T x, ty, pos, after, g⟩ (.agg cs) := fun a w st => by
  have h1 := st.sl.ev hx
  simp only [conc] at h1
  obtain ⟨b, n, c, hsv, h1⟩ := h1
  have h3 := concAt_take sz (concAt_drop o (vec_row st hm hr b n c hsv))
  rw [hc] at h3
  obtain ⟨l, k1, k2, k3⟩ := concAt_list h3
  have hlen : l.length = sz := (concL_length k1).trans hl
  have t' : Ty P T D l.length bs z := by rw [hlen]; exact t
  refine ⟨.agg l.toArray, ?_, ?_⟩
  · have := run_loadVar_agg (w := w) (ad := ⟨b, i * k + o, none⟩) t' hD (fun i v hv => by rw [addr_add]; exact k3 i v hv)
    simp [execOp, h1, Instr.loadAt, Instr.sureAddr, this]
  · simp only [conc]
    exact ⟨_, rfl, k1, k2⟩
end
end Go.AX
