/- AX 9: appends; stores into slices; new slices. -/
import Derived.Test.YtobablbklkpchaaAxEff3
set_option linter.unusedVariables false
set_option linter.unusedSimpArgs false
namespace Go.AX
variable {P : Program} {N : Nat} {j : J P N} {Q : Exit → Sl → List Ch → Prop} {s : Sl} {H : List Ch} {ops : Array Oper} {rest : List Oper} {K : Sl → List Ch → Prop}
variable {d : Nat} {dst : Option Tmp} {ty : TypeId} {pos : String} {after : Array Edge} {g : Option (Nat × Bool)} {T : TypeId} {x y : Operand} {D : TypeDesc} {sz bs : Nat} {z : Value}

theorem ownsRow_base {w : World} {b0 b1 e size n : Nat} {v : Value} {xs : List Value} (h : w.ownsRow b0 e size v n xs) (hb : b1 ≤ b0) : w.ownsRow b1 e size v n xs := by
  refine ⟨h.1, ?_⟩
  rcases h.2 with hn | ⟨g, cap, cur, h1, h2, h3⟩
  · exact .inl hn
  · exact .inr ⟨g, cap, cur, h1, by omega, h3⟩
/-- Where what came of a row lies: in its block, or in a new one. -/
theorem grown_block {w w' : World} {e size n m : Nat} {v v' : Value} {xs ys : List Value} (h : w.ownsRow 0 e size v n xs) (h' : w'.ownsRow 0 e size v' m ys) (hg : w.grownBy w' v.ownBlock) (hk : v'.ownBlock = v.ownBlock ∨ ∀ b, v'.ownBlock = some b → w.heap.size ≤ b) :
    ∀ b, v'.ownBlock = some b → v.ownBlock = some b ∨ w.heap.size ≤ b := fun b hb => by
  rcases hk with hk | hk
  · exact .inl (hk ▸ hb)
  · exact .inr (hk b hb)
/-- The append law, with where the new row lies. -/
theorem run_append_where (w : World) (t ty e : TypeId) (i : TypeInfo) (zz : Value) (size bytes : Nat) (ht : P.underlying t = some (.slice e)) (hi : P.info? e = some i) (hz : i.zero = some zz)
    (hsize : i.size = size) (hby : i.bytes = bytes) (hzs : zz.cells.size = size) (hsz : 0 < size)
    (v : Value) (n : Nat) (xs : List Value) (hown : w.ownsRow 0 e size v n xs)
    (a : Addr) (m c : Nat) (news : List Value) (hl : news.length = m * size) (hnews : ∀ j u, news[j]? = some u → w.cell? (a.add j) = some u) (h1 : ∀ u ∈ news, u.oneCell' = true)
    (h63 : n + m ≤ maxLen) (hbytes : (n + m) * bytes ≤ 140737488355328) :
    ∃ v' w', (Builtin.append_ #[t, t] ty #[v, .slice (some a) m c]).run P w = .ok v' w' ∧ w'.ownsRow 0 e size v' (n + m) (xs ++ news) ∧ w.grownBy w' v.ownBlock ∧ ∀ b, v'.ownBlock = some b → v.ownBlock = some b ∨ w.heap.size ≤ b := by
  rcases hown.2 with ⟨rfl, rfl⟩ | ⟨gg, cap, cur, rfl, hbg, hgg, hnc, hcm, hcs, htake⟩
  · -- nil: the law with the heap's size for a base
    have hx : xs = [] := List.eq_nil_of_length_eq_zero (by simpa using hown.1)
    subst hx
    obtain ⟨v', w', k1, k2, k3, _⟩ := run_append_own w w.heap.size t ty e i zz size bytes ht hi hz hsize hby hzs hsz (.slice none 0 0) 0 [] (World.ownsRow_nil _ _ _ _) a m c news hl hnews h1 h63 hbytes (Nat.le_refl _)
    exact ⟨v', w', k1, ownsRow_base k2 (Nat.zero_le _), k3, fun b hb => .inr (k2.lt b hb).1⟩
  · by_cases hroom : n + m ≤ cap
    · -- in its place
      have hr := run_append_room (P := P) w t ty e i ht hi gg n cap cur hgg a m c news (by rw [hsize]; exact hl) hnews h1 hroom (by rw [hsize, hl, hcs, ← Nat.add_mul]; exact Nat.mul_le_mul_right _ hroom)
      rw [hsize] at hr
      refine ⟨_, _, hr, ⟨?_, .inr ⟨gg, cap, _, rfl, Nat.zero_le _, setRow_heap w gg cur _ e _ hgg, hroom, hcm, ?_, ?_⟩⟩, ⟨rfl, rfl, rfl, by simp [World.setRow], fun k _ hk => setRow_other w gg k _ (fun e => hk (by simp [Value.ownBlock, e]))⟩, fun b hb => .inl (by simpa [Value.ownBlock] using hb)⟩
      · rw [List.length_append, hown.1, hl, Nat.add_mul]
      · have h2 : n * size + news.length ≤ cur.size := by rw [hl, hcs, ← Nat.add_mul]; exact Nat.mul_le_mul_right _ hroom
        simp only [List.size_toArray, List.length_append, List.length_take, List.length_drop, Array.length_toList]
        omega
      · have h2 : n * size + news.length ≤ cur.size := by rw [hl, hcs, ← Nat.add_mul]; exact Nat.mul_le_mul_right _ hroom
        rw [htake, Nat.add_mul, ← hl, ← hown.1, List.append_assoc, ← List.append_assoc, ← List.length_append, List.take_left' rfl]
    · -- in a new one
      obtain ⟨v', w', k1, k2, k3, _⟩ := run_append_own w 0 t ty e i zz size bytes ht hi hz hsize hby hzs hsz _ n xs hown a m c news hl hnews h1 h63 hbytes (Nat.zero_le _)
      have holds : ∀ q u, xs[q]? = some u → w.cell? ((⟨gg, 0, none⟩ : Addr).add q) = some u := hown.cells rfl
      have hr := run_append_grow (P := P) w t ty e i zz ht hi hz ⟨gg, 0, none⟩ n cap xs (by rw [hsize]; exact hown.1) holds a m c news (by rw [hsize]; exact hl) hnews (by omega) (by simp only [maxLen] at h63; omega) (by rw [hby]; exact growslice_fits (by omega) hbytes)
      rw [k1] at hr
      injection hr with hv _
      subst hv
      refine ⟨_, w', k1, k2, k3, fun b hb => .inr ?_⟩
      simp only [Value.ownBlock, Option.some.injEq] at hb
      omega
/-- Rows of a slice that is read, as a list of cells. -/
theorem rows_list {w : World} {ow : Nat → Prop} {b sz : Nat} : ∀ {rows : List (List V)} {o : Nat}, concRows w ow b sz o rows → ∃ l : List Value, concL w ow rows.flatten l ∧ (∀ y ∈ l, y.oneCell' = true) ∧ (∀ i v, l[i]? = some v → w.cell? ⟨b, o + i, none⟩ = some v) ∧ l.length = rows.length * sz ∧ ∀ r ∈ rows, r.length = sz
  | [], o, h => ⟨[], rfl, by simp, by simp, by simp, by simp⟩
  | r :: rows, o, h => by
    simp only [concRows] at h
    obtain ⟨h1, h2, h3⟩ := h
    obtain ⟨l1, a1, a2, a3⟩ := concAt_list h2
    obtain ⟨l2, b1, b2, b3, b4, b5⟩ := rows_list h3
    have hl1 : l1.length = sz := (concL_length a1).trans h1
    refine ⟨l1 ++ l2, by rw [List.flatten_cons]; exact concL_append a1 b1, fun y hy => ?_, fun i v hv => ?_, ?_, fun q hq => ?_⟩
    · rcases List.mem_append.1 hy with hy | hy
      · exact a2 y hy
      · exact b2 y hy
    · by_cases hi : i < l1.length
      · rw [List.getElem?_append_left hi] at hv
        exact a3 i v hv
      · rw [List.getElem?_append_right (by omega)] at hv
        have := b3 _ v hv
        rwa [show o + sz + (i - l1.length) = o + i by omega] at this
    · rw [List.length_append, hl1, b4, List.length_cons, Nat.succ_mul, Nat.add_comm]
    · rcases List.mem_cons.1 hq with rfl | hq
      · exact h1
      · exact b5 q hq
/-- 'append(own, read...)'. -/
theorem op_append {e : Nat} {DE : TypeDesc} {zs sv : Value} {szT bsT : Nat} {rows news : List (List V)} {H' : List Ch} [t : Ty P T (.slice e) szT bsT zs] [te : Ty P e DE sz bs z]
    (hx : s.ev x = some (.own sv)) (ht : Take (.vec sv e sz rows) H H') (hy : s.ev y = some (.ro news)) (hsz : Nat.blt 0 sz = true) (hbs : Nat.blt 0 bs = true) (hzs : z.cells.size = sz) (hl : ∀ r ∈ news, r.length = sz) (hb : (rows.length + news.length) * bs ≤ 140737488355328) (hN : Nat.blt d N = true)
    (h : ∀ sv', K ((d, .own sv') :: s) (.vec sv' e sz (rows ++ news) :: H')) : OP j ⟨some d, .call { callee := .builtin .append, args := #[x, y], argTypes := #[T, T] }, ty, pos, after, none⟩ K Q s H :=
  op_eff rfl hN fun a w st => by
    have h1 := st.sl.ev hx
    have h2 := st.sl.ev hy
    simp only [conc] at h1 h2
    have h0 : 0 < sz := Nat.le_of_ble_eq_true hsz
    have h0b : 0 < bs := Nat.le_of_ble_eq_true hbs
    have h63 : rows.length + news.length ≤ maxLen := by
      have : rows.length + news.length ≤ (rows.length + news.length) * bs := Nat.le_mul_of_pos_right _ h0b
      simp only [maxLen]
      omega
    obtain ⟨l, ho, hl1, h1c, hr⟩ := st.hp.sat _ (List.mem_append_left _ ht.mem)
    obtain ⟨A, c, hy2, hc1, hc2, hA⟩ := h2
    obtain ⟨i, hi1, hi2, hi3, hi4⟩ := te.i
    have fin : ∀ (sv' : Value) (w' : World) (nl : List Value), (Builtin.append_ #[T, T] ty #[sv, .slice A news.length c]).run P w = .ok sv' w' → w'.ownsRow 0 e sz sv' (rows.length + news.length) (l ++ nl) → w.grownBy w' sv.ownBlock → (∀ b, sv'.ownBlock = some b → sv.ownBlock = some b ∨ w.heap.size ≤ b) → concL w (own (H ++ j.F)) news.flatten nl → (∀ y ∈ nl, y.oneCell' = true) →
        ∃ x' w'' v H'', (execOp a.eval ⟨some d, .call { callee := .builtin .append, args := #[x, y], argTypes := #[T, T] }, ty, pos, after, none⟩).run P w = .ok (.value x') w'' ∧ St j s H'' a w'' ∧ conc w'' (own (H'' ++ j.F)) v x' ∧ K ((d, v) :: s) H'' := by
      intro sv' w' nl k1 k2 k3 k4 k5 k6
      have ev : Evo (own [Ch.vec sv e sz rows]) w (own [Ch.vec sv' e sz (rows ++ news)]) w' := by
        have e1 : ∀ (sv : Value) rows b, own [Ch.vec sv e sz rows] b ↔ sv.ownBlock = some b := by
          intro sv rows b
          cases hsv : sv.ownBlock <;> simp [own, blks, Ch.blk, hsv, eq_comm]
        exact ⟨k3.os, k3.tape, k3.output, k3.size, fun b hb hn => k3.block b hb (fun e => hn ((e1 _ _ _).2 e.symm)), fun b hb => by
          rcases k4 b ((e1 _ _ _).1 hb) with h | h
          · exact .inl ((e1 _ _ _).2 h)
          · exact .inr h⟩
      have hp1 := ht.perm
      have kk : Keeps (own (H ++ j.F)) w (own (Ch.vec sv' e sz (rows ++ news) :: H' ++ j.F)) w' := by
        have hq : own (H ++ j.F) = own (Ch.vec sv e sz rows :: H' ++ j.F) := own_funext (hp1.append_right _)
        rw [hq]
        have := (ev.frame (of := own (H' ++ j.F))).keeps
        have q1 : (fun b => own [Ch.vec sv e sz rows] b ∨ own (H' ++ j.F) b) = own (Ch.vec sv e sz rows :: H' ++ j.F) := funext fun b => propext (own_append [_] _ b).symm
        have q2 : (fun b => own [Ch.vec sv' e sz (rows ++ news)] b ∨ own (H' ++ j.F) b) = own (Ch.vec sv' e sz (rows ++ news) :: H' ++ j.F) := funext fun b => propext (own_append [_] _ b).symm
        rwa [q1, q2] at this
      have sat' : (Ch.vec sv' e sz (rows ++ news)).sat w' (own (Ch.vec sv' e sz (rows ++ news) :: H' ++ j.F)) := by
        refine ⟨l ++ nl, by rw [List.length_append]; exact k2, ?_, fun y hy => ?_, fun r hr' => ?_⟩
        · rw [List.flatten_append]
          exact concL_keep kk _ _ (concL_append hl1 k5)
        · rcases List.mem_append.1 hy with hy | hy
          · exact h1c y hy
          · exact k6 y hy
        · rcases List.mem_append.1 hr' with hr' | hr'
          · exact hr r hr'
          · exact hl r hr'
      have st' := (St.eff (Hf := [.vec sv e sz rows]) (Hf' := [.vec sv' e sz (rows ++ news)]) (Hr := H') st hp1 ev (by simp only [blks, List.filterMap_cons, List.filterMap_nil, Ch.blk]; cases sv'.ownBlock <;> simp) (fun c hc => by simp only [List.mem_singleton] at hc; subst hc; exact sat')).1
      obtain ⟨A', c', hf', _⟩ := own_form k2
      refine ⟨sv', w', .own sv', _, ?_, st', by simp only [conc]; exact ⟨trivial, by rw [hf']; rfl⟩, h sv'⟩
      simp [execOp, resolve, invoke, builtin, h1.1, hy2, k1]
    rcases hA with ⟨hn, hAc⟩ | ⟨b, o, sz', hA, hb2, ho2, hR⟩
    · subst hn
      cases A with
      | none =>
        have hc0 := hAc rfl
        subst hc0
        have hrun := run_append_owned_none (P := P) w 0 T ty e i sz t.u hi1 sv rows.length l ho
        refine fin sv w [] ?_ ?_ ⟨rfl, rfl, rfl, Nat.le_refl _, fun _ _ _ => rfl⟩ (fun b hb => .inl hb) rfl (by simp)
        · simpa using hrun
        · simpa using ho
      | some ad =>
        obtain ⟨v', w', k1, k2, k3, k4⟩ := run_append_where (P := P) w T ty e i z sz bs t.u hi1 hi4 hi2 hi3 hzs h0 sv rows.length l ho ad 0 c [] (by simp) (by simp) (by simp) (by simpa using h63) (by simpa using hb)
        exact fin v' w' [] (by simpa using k1) (by simpa using k2) k3 k4 rfl (by simp)
    · subst hA
      obtain ⟨nl, b1, b2, b3, b4, b5⟩ := rows_list hR
      cases news with
      | nil =>
        obtain ⟨v', w', k1, k2, k3, k4⟩ := run_append_where (P := P) w T ty e i z sz bs t.u hi1 hi4 hi2 hi3 hzs h0 sv rows.length l ho ⟨b, o, none⟩ 0 c [] (by simp) (by simp) (by simp) (by simpa using h63) (by simpa using hb)
        exact fin v' w' [] (by simpa using k1) (by simpa using k2) k3 k4 rfl (by simp)
      | cons r0 news =>
        have hsz' : sz' = sz := (b5 r0 (List.mem_cons_self ..)).symm.trans (hl r0 (List.mem_cons_self ..))
        subst hsz'
        obtain ⟨v', w', k1, k2, k3, k4⟩ := run_append_where (P := P) w T ty e i z sz' bs t.u hi1 hi4 hi2 hi3 hzs h0 sv rows.length l ho ⟨b, o, none⟩ (r0 :: news).length c nl b4 (fun q u hu => by rw [addr_add]; exact b3 q u hu) b2 h63 hb
        exact fin v' w' nl k1 k2 k3 k4 b1 b2
end Go.AX
