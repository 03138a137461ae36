/- AX 6: operations that write or make memory; calls; whole functions. -/
import Derived.Test.YtobablbklkpchaaAxMem
set_option linter.unusedVariables false
set_option linter.unusedSimpArgs false
namespace Go.AX
variable {P : Program} {N : Nat} {j : J P N} {Q : Exit → Sl → List Ch → Prop} {s : Sl} {H : List Ch} {ops : Array Oper} {rest : List Oper} {K : Sl → List Ch → Prop}
def V.one : V → Bool
  | .raw v => v.oneCell'
  | .agg _ | .tup _ => false
  | _ => true
def V.cells : V → List V
  | .agg cs => cs
  | v => [v]
theorem conc_one {w : World} {ow : Nat → Prop} {v : V} {x : Value} (h : conc w ow v x) (h1 : v.one = true) : x.oneCell' = true := by
  cases v with
  | raw u => simp only [conc] at h; subst h; exact h1
  | ro rows => simp only [conc] at h; obtain ⟨A, c, rfl, _⟩ := h; rfl
  | rop cs o => simp only [conc] at h; obtain ⟨b, q, rfl, _⟩ := h; rfl
  | agg cs => cases h1
  | tup cs => cases h1
  | fn f c => simp only [conc] at h; obtain ⟨l, rfl, _⟩ := h; rfl
  | ifc t v => simp only [conc] at h; obtain ⟨l, rfl, _⟩ := h; rfl
  | own sv => simp only [conc] at h; rw [h.1]; exact h.2
  | vp sv sz i off => simp only [conc] at h; obtain ⟨b, n, c, _, rfl⟩ := h; rfl
theorem one_cells {x : Value} (h : x.oneCell' = true) : x.cells = #[x] := by cases x <;> first | rfl | cases h
/-- The cells of a value. -/
theorem conc_cells {w : World} {ow : Nat → Prop} {v : V} {x : Value} (h : conc w ow v x) (h1 : v.one = true ∨ ∃ cs, v = .agg cs) : concL w ow v.cells x.cells.toList ∧ ∀ y ∈ x.cells.toList, y.oneCell' = true := by
  rcases h1 with h1 | ⟨cs, rfl⟩
  · have hx := conc_one h h1
    have hv : v.cells = [v] := by cases v <;> first | rfl | cases h1
    rw [one_cells hx, hv]
    exact ⟨⟨x, [], rfl, h, rfl⟩, by simpa using hx⟩
  · simp only [conc] at h
    obtain ⟨l, rfl, hl, h2⟩ := h
    exact ⟨by simpa [V.cells, Value.cells] using hl, by simpa [Value.cells] using h2⟩
/-- One operation whose effect is told. -/
theorem op_eff {o : Oper} {d : Nat} (hd : o.dst = some d) (hN : Nat.blt d N = true)
    (h : ∀ a w, St j s H a w → ∃ x w' v H', (execOp a.eval o).run P w = .ok (.value x) w' ∧ St j s H' a w' ∧ conc w' (own (H' ++ j.F)) v x ∧ K ((d, v) :: s) H') : OP j o K Q s H :=
  fun a w st K' hK => by
    obtain ⟨x, w', v, H', hx, st', hc, hr⟩ := h a w st
    simp only [Oper.wp, hx, Oper.upon]
    refine hK _ _ ⟨_, H', ?_, hr⟩
    have := st'.put (d := o.dst) hc (fun i hi => by rw [hd] at hi; cases hi; exact Nat.le_of_ble_eq_true hN)
    rwa [hd] at this ⊢
theorem op_skip {o : Oper} (hd : o.dst = none)
    (h : ∀ a w, St j s H a w → ∃ w' H', (execOp a.eval o).run P w = .ok .skip w' ∧ St j s H' a w' ∧ K s H') : OP j o K Q s H :=
  fun a w st K' hK => by
    obtain ⟨w', H', hx, st', hr⟩ := h a w st
    simp only [Oper.wp, hx, Oper.upon, hd, Act.put]
    exact hK _ _ ⟨_, H', st', hr⟩
section
variable {d : Nat} {ty : TypeId} {pos : String} {after : Array Edge} {T : TypeId} {x y : Operand} {D : TypeDesc} {sz bs : Nat} {z : Value}
theorem st_new {a : Act} {w : World} (st : St j s H a w) (T : TypeId) (cells : List V) (l : List Value) (hl : concL w (own (H ++ j.F)) cells l) (h1 : ∀ y ∈ l, y.oneCell' = true) :
    St j s (.box w.heap.size T cells :: H) a (w.alloc (.cells l.toArray T)) := by
  have e : Evo (own []) w (own [Ch.box w.heap.size T cells]) (w.alloc (.cells l.toArray T)) :=
    ⟨rfl, rfl, rfl, by simp, fun b hb _ => heap_alloc_old w _ hb, fun b hb => .inr (by simp [own, blks, Ch.blk] at hb; omega)⟩
  have hev : Keeps (own (H ++ j.F)) w (own (Ch.box w.heap.size T cells :: H ++ j.F)) (w.alloc (.cells l.toArray T)) :=
    ⟨by simp, fun b hb _ => heap_alloc_old w _ hb, fun b hb ho => by
      have : b ∈ blks (Ch.box w.heap.size T cells :: (H ++ j.F)) := ho
      simp only [blks, Ch.blk, List.filterMap_cons, List.mem_cons] at this
      rcases this with h | h
      · omega
      · exact h⟩
  refine (St.eff (Hf := []) (Hf' := [.box w.heap.size T cells]) (Hr := H) st (.refl _) e (by simp [blks, Ch.blk]) (fun c hc => ?_)).1
  simp only [List.mem_singleton] at hc
  subst hc
  exact ⟨l, heap_alloc_new w _, concL_keep hev _ _ hl, h1⟩
/-- 'new(T)', a variable in memory: a new box of zero values. -/
theorem op_alloc [t : Ty P T D sz bs z] (hz : ∀ y ∈ z.cells.toList, y.oneCell' = true) (hN : Nat.blt d N = true)
    (h : ∀ b, K ((d, .raw (.pointer (some ⟨b, 0, none⟩))) :: s) (.box b T (z.cells.toList.map .raw) :: H)) : OP j ⟨some d, .alloc T, ty, pos, after, none⟩ K Q s H :=
  op_eff rfl hN fun a w st => by
    have hc : concL w (own (H ++ j.F)) (z.cells.toList.map .raw) z.cells.toList := by
      generalize z.cells.toList = l
      induction l with
      | nil => rfl
      | cons y l ih => exact ⟨y, l, rfl, rfl, ih⟩
    refine ⟨.pointer (some ⟨w.heap.size, 0, none⟩), w.alloc (.cells z.cells T), .raw (.pointer (some ⟨w.heap.size, 0, none⟩)), _, ?_, ?_, rfl, h w.heap.size⟩
    · simp [execOp, Instr.alloc, t.zeroValue, newVar, newRow]
    · have := st_new st T _ _ hc hz
      simpa using this
theorem op_box {v : V} (hx : s.ev x = some v) (h1 : v.one = true ∨ ∃ cs, v = .agg cs) (hN : Nat.blt d N = true)
    (h : ∀ b, K ((d, .raw (.pointer (some ⟨b, 0, none⟩))) :: s) (.box b T v.cells :: H)) : OP j ⟨some d, .box T x, ty, pos, after, none⟩ K Q s H :=
  op_eff rfl hN fun a w st => by
    have hv := st.sl.ev hx
    obtain ⟨k1, k2⟩ := conc_cells hv h1
    refine ⟨.pointer (some ⟨w.heap.size, 0, none⟩), w.alloc (.cells (a.eval x).cells T), .raw (.pointer (some ⟨w.heap.size, 0, none⟩)), _, ?_, ?_, rfl, h w.heap.size⟩
    · simp [execOp, Instr.box, newVar, newRow]
    · have := st_new st T _ _ k1 k2
      simpa using this
/-- Cells set one behind the other. -/
def setAll {α : Type} : List α → Nat → List α → List α
  | cs, _, [] => cs
  | cs, o, v :: vs => setAll (cs.set o v) (o + 1) vs
theorem setAll_length {α : Type} : ∀ (vs cs : List α) (o : Nat), (setAll cs o vs).length = cs.length
  | [], cs, o => rfl
  | v :: vs, cs, o => by rw [setAll, setAll_length vs]; simp
theorem concL_setAll {w : World} {ow : Nat → Prop} : ∀ {vs : List V} {ms : List Value} {cs : List V} {l : List Value} (o : Nat), concL w ow cs l → concL w ow vs ms → concL w ow (setAll cs o vs) (setAll l o ms)
  | [], ms, cs, l, o, h, k => by simp only [concL] at k; subst k; exact h
  | v :: vs, ms, cs, l, o, h, k => by
    simp only [concL] at k
    obtain ⟨x, xs, rfl, k1, k2⟩ := k
    exact concL_setAll (o + 1) (concL_set h o v x k1) k2
theorem setAll_eq {α : Type} : ∀ (vs cs : List α) (o : Nat), o + vs.length ≤ cs.length → setAll cs o vs = cs.take o ++ vs ++ cs.drop (o + vs.length)
  | [], cs, o, h => by simp [setAll]
  | v :: vs, cs, o, h => by
    simp only [List.length_cons] at h
    rw [setAll, setAll_eq vs _ _ (by simp; omega), List.take_set, List.drop_set]
    rw [if_pos (by omega)]
    have : (cs.take (o + 1)).set o v = cs.take o ++ [v] := by
      apply List.ext_getElem?
      intro i
      rcases Nat.lt_trichotomy i o with h1 | h1 | h1
      · rw [List.getElem?_set_ne (by omega), List.getElem?_append_left (by simp; omega), List.getElem?_take, List.getElem?_take, if_pos (by omega), if_pos h1]
      · subst h1
        rw [List.getElem?_set_self (by simp; omega), List.getElem?_append_right (by simp; omega)]
        simp [show min i cs.length = i by omega]
      · rw [List.getElem?_eq_none (by simp; omega), List.getElem?_eq_none (by simp; omega)]
    rw [this]
    simp [Nat.add_assoc, Nat.add_comm 1]
theorem one_setAll : ∀ {ms l : List Value} (o : Nat), (∀ y ∈ l, y.oneCell' = true) → (∀ y ∈ ms, y.oneCell' = true) → ∀ y ∈ setAll l o ms, y.oneCell' = true
  | [], l, o, h, k => h
  | m :: ms, l, o, h, k => by
    refine one_setAll (o + 1) (fun y hy => ?_) (fun y hy => k y (List.mem_cons_of_mem _ hy))
    rcases List.mem_or_eq_of_mem_set hy with h1 | h1
    · exact h y h1
    · exact h1 ▸ k m (List.mem_cons_self ..)
theorem evo_setRow {w : World} {b : Nat} {cs : Array Value} : Evo (fun k => k = b) w (fun k => k = b) (w.setRow b cs) :=
  ⟨rfl, rfl, rfl, by simp [World.setRow], fun k _ hk => setRow_other w b k cs hk, fun k hk => .inl hk⟩
theorem run_storeVar {w : World} {b o : Nat} {E : TypeId} {l : List Value} {v : Value} (t : Ty P T D sz bs z) (hb : w.heap[b]? = some (.cells l.toArray E (0, 0))) (hs : v.cells.size = sz) (hl : o + sz ≤ l.length) (h1 : ∀ y ∈ v.cells.toList, y.oneCell' = true) :
    (storeVar T ⟨b, o, none⟩ v).run P w = .ok () (w.setRow b (setAll l o v.cells.toList).toArray) := by
  have hst := run_storeCells_at P b o E v.cells.toList 0 l.toArray w hb (by simpa [hs] using hl) h1
  have hn : ¬ v.cells.size ≠ sz := by simp [hs]
  simp only [storeVar, Sem.run_bind, t.sizeOf, Result.andThen_ok, if_neg hn]
  rw [setAll_eq _ _ _ (by simpa [hs] using hl)]
  simpa using hst
theorem op_store_box {b o : Nat} {E : TypeId} {cells : List V} {v : V} {H' : List Ch} [t : Ty P T D sz bs z] (hx : s.ev x = some (.raw (.pointer (some ⟨b, o, none⟩)))) (hy : s.ev y = some v) (h1 : v.one = true ∨ ∃ cs, v = .agg cs)
    (hu : Upd (.box b E cells) (.box b E (setAll cells o v.cells)) H H') (hs : v.cells.length = sz) (hl : o + sz ≤ cells.length)
    (h : K s H') : OP j ⟨none, .store T x y, ty, pos, after, none⟩ K Q s H :=
  op_skip rfl fun a w st => by
    have e1 := st.sl.ev hx
    simp only [conc] at e1
    obtain ⟨k1, k2⟩ := conc_cells (st.sl.ev hy) h1
    obtain ⟨l, b1, b2, b3, _⟩ := box_cells st (List.mem_append_left _ hu.mem)
    have hlen : (a.eval y).cells.size = sz := by rw [← Array.length_toList, concL_length k1, hs]
    have ho : own [Ch.box b E cells] = fun k => k = b := by funext k; simp [own, blks, Ch.blk]
    have hst := run_storeVar (P := P) (o := o) t b1 hlen (by rw [concL_length b2]; exact hl) k2
    have ev : Evo (own [Ch.box b E cells]) w (own [Ch.box b E cells]) (w.setRow b (setAll l o (a.eval y).cells.toList).toArray) := by rw [ho]; exact evo_setRow
    have hown : own (H' ++ j.F) = own (H ++ j.F) := by
      obtain ⟨t', p1, p2⟩ := hu.split
      have q1 : own (H ++ j.F) = own (Ch.box b E cells :: t' ++ j.F) := own_funext (p1.append_right _)
      have q2 : own (H' ++ j.F) = own (Ch.box b E (setAll cells o v.cells) :: t' ++ j.F) := own_funext (p2.append_right _)
      rw [q1, q2]
      funext k
      simp [own, blks, Ch.blk]
    have kk : Keeps (own (H ++ j.F)) w (own (H' ++ j.F)) (w.setRow b (setAll l o (a.eval y).cells.toList).toArray) := by
      rw [hown]
      have hob : own (H ++ j.F) b := List.mem_filterMap.2 ⟨_, List.mem_append_left _ hu.mem, rfl⟩
      exact ⟨by simp [World.setRow], fun k _ hk => setRow_other w b k _ (fun e => hk (e ▸ hob)), fun _ _ h => h⟩
    refine ⟨_, H', ?_, (St.upd st hu rfl ev ⟨setAll l o (a.eval y).cells.toList, setRow_heap w b _ _ E _ b1, ?_, one_setAll o b3 k2⟩).1, h⟩
    · simp [execOp, e1, Instr.storeAt, Instr.sureAddr, hst]
    · exact concL_keep kk _ _ (concL_setAll o b2 k1)
end
end Go.AX
