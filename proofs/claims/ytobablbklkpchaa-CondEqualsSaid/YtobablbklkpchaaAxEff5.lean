/- AX 10: stores into slices; new slices; calls; whole functions. -/
import Derived.Test.YtobablbklkpchaaAxEff4
set_option linter.unusedVariables false
set_option linter.unusedSimpArgs false
namespace Go.AX
variable {P : Program} {N : Nat} {j : J P N} {Q : Exit → Sl → List Ch → Prop} {s : Sl} {H : List Ch} {ops : Array Oper} {rest : List Oper} {K : Sl → List Ch → Prop}
variable {d : Nat} {dst : Option Tmp} {ty : TypeId} {pos : String} {after : Array Edge} {g : Option (Nat × Bool)} {T : TypeId} {x y : Operand} {D : TypeDesc} {sz bs : Nat} {z : Value}

theorem flatten_set1 {α : Type} {k : Nat} : ∀ {rows : List (List α)}, (∀ r ∈ rows, r.length = k) → ∀ {i : Nat} {r : List α} {o : Nat} {v : α}, rows[i]? = some r → o < k → (rows.set i (r.set o v)).flatten = rows.flatten.set (i * k + o) v
  | [], _, i, r, o, v, hr, _ => by simp at hr
  | q :: rows, h, i, r, o, v, hr, ho => by
    have hq := h q (List.mem_cons_self ..)
    cases i with
    | zero =>
      simp at hr
      subst hr
      rw [List.set_cons_zero, List.flatten_cons, List.flatten_cons, Nat.zero_mul, Nat.zero_add, List.set_append_left _ _ (by omega)]
    | succ i =>
      rw [List.set_cons_succ, List.flatten_cons, List.flatten_cons, flatten_set1 (fun r hr => h r (List.mem_cons_of_mem _ hr)) (by simpa using hr) ho, Nat.succ_mul, List.set_append_right _ _ (by omega)]
      congr 2
      omega
theorem flatten_setAll {α : Type} {k : Nat} {rows : List (List α)} (h : ∀ r ∈ rows, r.length = k) {i : Nat} : ∀ (cs : List α) {r : List α} {rows : List (List α)} (_ : ∀ r ∈ rows, r.length = k) {o : Nat}, rows[i]? = some r → o + cs.length ≤ k → (rows.set i (setAll r o cs)).flatten = setAll rows.flatten (i * k + o) cs
  | [], r, rows, h, o, hr, ho => by
    have hi := (List.getElem?_eq_some_iff.1 hr)
    obtain ⟨hlt, he⟩ := hi
    simp only [setAll]
    rw [← he, List.set_getElem_self]
  | v :: cs, r, rows, h, o, hr, ho => by
    simp only [List.length_cons] at ho
    have hlt := (List.getElem?_eq_some_iff.1 hr).1
    have hrk : r.length = k := h r (List.mem_of_getElem? hr)
    have h' : ∀ q ∈ rows.set i (r.set o v), q.length = k := fun q hq => by
      rcases List.mem_or_eq_of_mem_set hq with h1 | h1
      · exact h q h1
      · rw [h1, List.length_set, hrk]
    have := flatten_setAll h' cs (r := r.set o v) h' (o := o + 1) (by rw [List.getElem?_set_self hlt]) (by omega)
    simp only [setAll]
    rw [List.set_set] at this
    rw [this, flatten_set1 h hr (by omega), Nat.add_assoc]
theorem take_setAll {α : Type} : ∀ (cs l : List α) (o n : Nat), (setAll l o cs).take n = setAll (l.take n) o cs
  | [], l, o, n => rfl
  | v :: cs, l, o, n => by
    simp only [setAll]
    rw [take_setAll cs, List.take_set]
/-- A store into an element of a slice of one's own. -/
theorem op_store_vp {i o E k : Nat} {sv : Value} {rows : List (List V)} {r : List V} {v : V} {H' : List Ch} [t : Ty P T D sz bs z] (hx : s.ev x = some (.vp sv k i o)) (hy : s.ev y = some v) (h1 : v.one = true ∨ ∃ cs, v = .agg cs)
    (hu : Upd (.vec sv E k rows) (.vec sv E k (rows.set i (setAll r o v.cells))) H H') (hr : rows[i]? = some r) (hs : v.cells.length = sz) (hl : o + sz ≤ k)
    (h : K s H') : OP j ⟨none, .store T x y, ty, pos, after, none⟩ K Q s H :=
  op_skip rfl fun a w st => by
    have e1 := st.sl.ev hx
    simp only [conc] at e1
    obtain ⟨b, n, c, hsv, e1⟩ := e1
    subst hsv
    obtain ⟨k1, k2⟩ := conc_cells (st.sl.ev hy) h1
    obtain ⟨l, ho, hl1, h1c, hrows⟩ := st.hp.sat _ (List.mem_append_left _ hu.mem)
    rcases ho.2 with ⟨hnil, _⟩ | ⟨g0, cap, cur, hsv, _, hg, hc1, hc2, hcs, htk⟩
    · cases hnil
    · injection hsv with hsv1 hsv2 hsv3
      injection hsv1 with hsv1
      injection hsv1 with hsv1
      subst hsv1 hsv2 hsv3
      have hi : i < rows.length := (List.getElem?_eq_some_iff.1 hr).1
      have hrk : r.length = k := hrows r (List.mem_of_getElem? hr)
      have hik : i * k + k ≤ rows.length * k := by rw [← Nat.succ_mul]; exact Nat.mul_le_mul_right _ hi
      have hcur : rows.length * k ≤ cur.size := by rw [hcs]; exact Nat.mul_le_mul_right _ hc1
      have hlen : (a.eval y).cells.size = sz := by rw [← Array.length_toList, concL_length k1, hs]
      have hst := run_storeVar (P := P) (b := b) (o := i * k + o) (l := cur.toList) t (by simpa using hg) hlen (by rw [Array.length_toList]; omega) k2
      have hown : own [Ch.vec (.slice (some ⟨b, 0, none⟩) rows.length c) E k rows] = fun q => q = b := by funext q; simp [own, blks, Ch.blk, Value.ownBlock]
      have ev : Evo (own [Ch.vec (.slice (some ⟨b, 0, none⟩) rows.length c) E k rows]) w (own [Ch.vec (.slice (some ⟨b, 0, none⟩) rows.length c) E k rows]) (w.setRow b (setAll cur.toList (i * k + o) (a.eval y).cells.toList).toArray) := by rw [hown]; exact evo_setRow
      have hsame : own (H' ++ j.F) = own (H ++ j.F) := by
        obtain ⟨t', p1, p2⟩ := hu.split
        rw [own_funext (p1.append_right j.F), own_funext (p2.append_right j.F)]
        rfl
      have kk : Keeps (own (H ++ j.F)) w (own (H' ++ j.F)) (w.setRow b (setAll cur.toList (i * k + o) (a.eval y).cells.toList).toArray) := by
        rw [hsame]
        have hob : own (H ++ j.F) b := List.mem_filterMap.2 ⟨_, List.mem_append_left _ hu.mem, rfl⟩
        exact ⟨by simp [World.setRow], fun q _ hk => setRow_other w b q _ (fun e => hk (e ▸ hob)), fun _ _ h => h⟩
      have hflat : (rows.set i (setAll r o v.cells)).flatten = setAll rows.flatten (i * k + o) v.cells := flatten_setAll hrows v.cells hrows hr (by omega)
      have sat' : (Ch.vec (.slice (some ⟨b, 0, none⟩) rows.length c) E k (rows.set i (setAll r o v.cells))).sat (w.setRow b (setAll cur.toList (i * k + o) (a.eval y).cells.toList).toArray) (own (H' ++ j.F)) := by
        refine ⟨setAll l (i * k + o) (a.eval y).cells.toList, ⟨by rw [setAll_length, ho.1, List.length_set], .inr ⟨b, c, _, by rw [List.length_set], Nat.zero_le _, setRow_heap w b cur _ E _ hg, by rw [List.length_set]; exact hc1, hc2, by simp [setAll_length, hcs], ?_⟩⟩, ?_, one_setAll _ h1c k2, fun q hq => ?_⟩
        · rw [List.length_set]
          show List.take _ (setAll cur.toList _ _) = _
          rw [take_setAll, htk]
        · rw [hflat]
          exact concL_keep kk _ _ (concL_setAll _ hl1 k1)
        · rcases List.mem_or_eq_of_mem_set hq with h1 | h1
          · exact hrows q h1
          · rw [h1, setAll_length, hrk]
      refine ⟨_, H', ?_, (St.upd st hu rfl ev sat').1, h⟩
      simp [execOp, e1, Instr.storeAt, Instr.sureAddr, hst]
end Go.AX
