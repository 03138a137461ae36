import Derived.Test.YtepmllodaoanmaaK29
import Derived.Test.YtepmllodaoanmaaK25
set_option linter.unusedVariables false
set_option linter.unusedSimpArgs false
namespace Go.AX
open Go Go.AX
variable {P : Program} {N : Nat} {j : J P N} {Q : Exit → Sl → List Ch → Prop} {s : Sl} {H G R : List Ch}
theorem rl_box_le {ops : Array Oper} {l : List Oper} {b B : Nat} {v v' : V} {cells : List V} {H2 : List Ch} (i : Nat) (hu : Upd (.box b B cells) (.box b B (cells.set i v')) H H2) (hi : cells[i]? = some v) (hle : V.Le v v') (h : RL j ops l Q s H2) : RL j ops l Q s H :=
  rl_weak (fun a w st => st_box_le hi hle hu st) h
end Go.AX
namespace Go.Proofs.Ytepmllodaoanmaa
open Go Go.AX
set_option maxHeartbeats 8000000
set_option maxRecDepth 20000
attribute [local irreducible] AW RL OP PureV ValV HV DL DX Tri TriR Fun RetOk ResV
attribute [local simp] dcells_len
theorem okL_opt {l : List Typ} {i : Nat} {x : Typ} (hx : l[i]? = some x) : ∀ {sn : List ByteArray}, okL false l sn = true → x.opt = false := by
  induction l generalizing i with
  | nil => simp at hx
  | cons y l ih =>
    intro sn h
    rw [okL] at h
    cases i with
    | zero =>
      simp at hx
      subst hx
      cases ho : y.opt <;> simp_all
    | succ i => exact ih (i := i) (by simpa using hx) (by simp only [Bool.and_eq_true] at h; exact h.2.2)
theorem okT_opt0 {t : Typ} (h : okT t = true) (hk : t.kind = 5 ∨ t.kind = 6) {x : Typ} (hx : t.l[0]? = some x) : x.opt = false := by
  rw [okT_eq] at h
  rcases hk with hk | hk
  · rw [if_neg (by omega), if_neg (by omega), if_neg (by omega), if_neg (by omega), if_neg (by omega), if_pos hk] at h
    simp only [Bool.and_eq_true] at h
    exact okL_opt hx h.2
  · rw [if_neg (by omega), if_neg (by omega), if_neg (by omega), if_neg (by omega), if_neg (by omega), if_neg (by omega), if_pos hk] at h
    cases hl : t.l with
    | nil => rw [hl] at hx; simp at hx
    | cons y ys =>
      rw [hl] at hx h
      simp at hx
      subst hx
      rw [okW] at h
      simp only [Bool.and_eq_true, decide_eq_true_eq] at h
      exact h.2.1.2
theorem ncRow_take : ∀ {l : List Typ} {i : Nat} {x : Typ}, l[i]? = some x → ncRow (l.take (i + 1)) = ncRow (l.take i) + (if x.opt = true then 0 else ncT x) ∧ ncRow (l.take (i + 1)) ≤ ncRow l
  | [], i, x, h => by simp at h
  | y :: l, 0, x, h => by
    simp at h
    subst h
    simp only [List.take_succ_cons, List.take_zero, ncRow]
    omega
  | y :: l, i + 1, x, h => by
    have := ncRow_take (l := l) (i := i) (x := x) (by simpa using h)
    simp only [List.take_succ_cons, ncRow]
    omega
theorem ncHd_eq {l : List Typ} {x : Typ} (h : l[0]? = some x) : ncHd l = ncT x := by
  have e : l = x :: l.drop 1 := by simpa using drop_eq h
  rw [e, ncHd]
theorem leastR_fin {t : Typ} {p : Nat} {left left' : Int} {q : Bool} (D : Dat) {cs : List V} (hc : D.cells = cs)
    (h : (q = true ∧ left' = left - ncT t ∧ (ncT t : Int) ≤ left ∧ lstT t = D) ∨ (q = false ∧ left < (ncT t : Int))) : LeastR t p left (.tup [.agg cs, bool q]) [.box p 73 [int left']] := by
  subst hc
  refine ⟨left', D, q, rfl, rfl, ?_⟩
  rcases h with ⟨h1, h2, h3, h4⟩ | ⟨h1, h2⟩
  · exact .inl ⟨h3, h2, h4.symm, h1⟩
  · exact .inr ⟨h2, h1⟩
theorem least48 : ∀ (n : Nat) (t : Typ), t.wt ≤ n → n ≤ 1048576 → okT t = true → ∀ (p : Nat) (left : Int), 0 ≤ left ∧ left ≤ 4000 → TriR Try.prog 48 [.agg t.cells, ptr p] [.box p 73 [int left]] (LeastR t p left) := by
  intro n
  induction n with
  | zero => intro t h; have := wt_eq t; omega
  | succ n ih =>
    intro t hw hn hok p left hlb
    have hwe := wt_eq t
    have hll := wtL_len t.l
    have hkid : ∀ (i : Nat) x, t.l[i]? = some x → ∀ (p : Nat) (left : Int), 0 ≤ left ∧ left ≤ 4000 → TriR Try.prog 48 [.agg x.cells, ptr p] [.box p 73 [int left]] (LeastR x p left) := fun i x hx => ih x (by have := wtL_take hx; omega) (by omega) (okT_kid hok x (List.mem_of_getElem? hx))
    clear ih
    have h73 := more73 p left (by omega)
    have hnc := ncT_eq t
    have hLs := lstT_eq t
    have hpos := ncT_pos t
    obtain ⟨q, hq⟩ : ∃ q, decide (0 ≤ left - 1) = q := ⟨_, rfl⟩
    rw [hq] at h73
    have hq1 : q = true → 1 ≤ left := fun h => by rw [h] at hq; have := of_decide_eq_true hq; omega
    have hq2 : q = false → left < 1 := fun h => by rw [h] at hq; have := of_decide_eq_false hq; omega
    clear hq
    rw [cells_eq]
    refine TriR.of (tri_of Try.func48 rfl Try.ntmps48 rfl fun j => ?_)
    repeat' (first | (with_reducible first | refine aw_seq ?_ | refine rl_nil ?_ | refine aw_region ?_ | refine then_n ?_ | refine aw_block ?_ | refine then_exit ?_ | refine then_ret ?_ | refine in_n ?_ | refine in_ret ?_ | refine aw_exit ?_ | refine aw_ret ?_ | refine aw_skip ?_ | refine in_exit_eq rfl ?_ | refine awr_succ ?_) | ((with_reducible refine k_assign ?_); refine rl_pure (pv_assign rfl) rfl rfl rfl ?_) | ((with_reducible refine k_load ?_); refine rl_val (vv_load_box (by rfl) by_memb (by rfl) by_bd) rfl rfl rfl ?_) | ((with_reducible refine k_fieldAddr ?_); refine rl_pure (pv_fieldAddr rfl) rfl rfl rfl ?_) | ((with_reducible refine k_store ?_); refine rl_op rfl (op_store_box_whole (by rfl) (by rfl) (V.okc_or (by rfl)) by_upd (by first | rfl | exact tcells_len _ | exact dcells_len _) (by first | rfl | exact tcells_len _ | exact dcells_len _) ?_)) | ((with_reducible refine k_alloc ?_); refine rl_op rfl (op_alloc (by decide) rfl fun b => ?_)) | ((with_reducible refine k_box ?_); refine rl_op rfl (op_box rfl (V.okc_or (by rfl)) rfl fun b => ?_)) | ((with_reducible refine k_build ?_); refine rl_pure (pv_build rfl by_fill) rfl rfl rfl ?_))
    (first | refine rl_op rfl (op_callR rfl rfl (.cons (.there (.there (.there (.there .here)))) .nil) h73 rfl ?_) | refine dl_op (by assumption) by_wants (op_callR rfl rfl (.cons (.there (.there (.there (.there .here)))) .nil) h73 rfl ?_))
    rintro _ _ ⟨rfl, rfl⟩
    rcases okT_cls hok with hk | hk | hk | hk | hk | hk | hk | hk
    · repeat' (first | (with_reducible first | refine aw_seq ?_ | refine rl_nil ?_ | refine aw_region ?_ | refine then_n ?_ | refine aw_block ?_ | refine then_exit ?_ | refine then_ret ?_ | refine in_n ?_ | refine in_ret ?_ | refine aw_exit ?_ | refine aw_ret ?_ | refine aw_skip ?_ | refine in_exit_eq rfl ?_ | refine awr_succ ?_) | ((with_reducible refine k_assign ?_); refine rl_pure (pv_assign rfl) rfl rfl rfl ?_) | ((with_reducible refine k_load ?_); refine rl_val (vv_load_box (by rfl) by_memb (by rfl) by_bd) rfl rfl rfl ?_) | ((with_reducible refine k_fieldAddr ?_); refine rl_pure (pv_fieldAddr rfl) rfl rfl rfl ?_) | ((with_reducible refine k_store ?_); refine rl_op rfl (op_store_box_whole (by rfl) (by rfl) (V.okc_or (by rfl)) by_upd (by first | rfl | exact tcells_len _ | exact dcells_len _) (by first | rfl | exact tcells_len _ | exact dcells_len _) ?_)) | ((with_reducible refine k_alloc ?_); refine rl_op rfl (op_alloc (by decide) rfl fun b => ?_)) | ((with_reducible refine k_eql ?_); refine rl_pure (pv_eql rfl rfl) rfl rfl rfl ?_) | ((with_reducible refine k_makeFunc ?_); refine rl_pure (pv_makeFunc rfl) rfl rfl rfl ?_) | (with_reducible refine dl_nil by_app ?_) | ((with_reducible refine kd_assign ?_); refine dl_pure (by assumption) (pv_assign rfl) by_wants rfl rfl ?_) | ((with_reducible refine kd_store ?_); (refine dl_op (by assumption) by_wants (op_store_box_whole (by rfl) (by rfl) (V.okc_or (by rfl)) by_upd (by first | rfl | exact tcells_len _ | exact dcells_len _) (by first | rfl | exact tcells_len _ | exact dcells_len _) ?_); intro jd hjd)) | ((with_reducible refine kd_load ?_); (first | refine dl_take (by assumption) (hv_load_box (by assumption) (by rfl) by_mem0 (by rfl) by_bd) by_wants rfl rfl ?_ | refine dl_take (by assumption) (hv_load_box_whole (by assumption) (by rfl) by_mem0 (by rfl) (by first | rfl | exact tcells_len _ | exact dcells_len _)) by_wants rfl rfl ?_)) | (refine aw_draw (id := 22) [(false, 0), (false, 1), (true, 2), (false, 3)] _ (by kernel_rfl) (by decide +kernel) (by decide) by_lit (.cons (.there (.there (.there .here))) .nil) by_nos fun jd hjd => ?_) | (((with_reducible refine k_cond ?_); refine aw_cond rfl ?_ ?_) <;> intro hb <;> (have hc := hb) <;> (try simp only [decide_eq_true_eq, decide_eq_false_iff_not, Int.not_lt, Int.not_le, ne_eq, Bool.not_eq_true, Bool.not_eq_false, Decidable.not_not] at hc) <;> (try (exfalso; omega)) <;> (try (first | contradiction | (cases hc; done)))))
      all_goals first
      | (exfalso; omega)
      | skip
      refine ret_r (retok_box_le 2 .here rfl le_nil_ro (retok_box_le 4 .here rfl le_nil_ro (retok_pick (.cons (.there (.there .here)) (.cons .here .nil)) (ret2 rfl by_res by_res (List.Sublist.cons_cons _ (List.Sublist.cons _ List.Sublist.slnil)) ⟨_, rfl, ?_⟩))))
      rw [if_neg (by omega), if_neg (by omega), if_neg (by omega)] at hnc
      refine leastR_fin (.mk t.kind 0 [] true []) (by rw [dcells_eq]; rfl) ?_
      rw [hLs, hnc, if_neg (by omega), if_neg (by omega), if_neg (by omega), if_neg (by omega), if_neg (by omega)]
      cases q
      · exact .inr ⟨rfl, by have := hq2 rfl; omega⟩
      · exact .inl ⟨rfl, by omega, by have := hq1 rfl; omega, rfl⟩
    · repeat' (first | (with_reducible first | refine aw_seq ?_ | refine rl_nil ?_ | refine aw_region ?_ | refine then_n ?_ | refine aw_block ?_ | refine then_exit ?_ | refine then_ret ?_ | refine in_n ?_ | refine in_ret ?_ | refine aw_exit ?_ | refine aw_ret ?_ | refine aw_skip ?_ | refine in_exit_eq rfl ?_ | refine awr_succ ?_) | ((with_reducible refine k_assign ?_); refine rl_pure (pv_assign rfl) rfl rfl rfl ?_) | ((with_reducible refine k_load ?_); refine rl_val (vv_load_box (by rfl) by_memb (by rfl) by_bd) rfl rfl rfl ?_) | ((with_reducible refine k_fieldAddr ?_); refine rl_pure (pv_fieldAddr rfl) rfl rfl rfl ?_) | ((with_reducible refine k_store ?_); refine rl_op rfl (op_store_box_whole (by rfl) (by rfl) (V.okc_or (by rfl)) by_upd (by first | rfl | exact tcells_len _ | exact dcells_len _) (by first | rfl | exact tcells_len _ | exact dcells_len _) ?_)) | ((with_reducible refine k_alloc ?_); refine rl_op rfl (op_alloc (by decide) rfl fun b => ?_)) | ((with_reducible refine k_eql ?_); refine rl_pure (pv_eql rfl rfl) rfl rfl rfl ?_) | ((with_reducible refine k_makeFunc ?_); refine rl_pure (pv_makeFunc rfl) rfl rfl rfl ?_) | (with_reducible refine dl_nil by_app ?_) | ((with_reducible refine kd_assign ?_); refine dl_pure (by assumption) (pv_assign rfl) by_wants rfl rfl ?_) | ((with_reducible refine kd_store ?_); (refine dl_op (by assumption) by_wants (op_store_box_whole (by rfl) (by rfl) (V.okc_or (by rfl)) by_upd (by first | rfl | exact tcells_len _ | exact dcells_len _) (by first | rfl | exact tcells_len _ | exact dcells_len _) ?_); intro jd hjd)) | ((with_reducible refine kd_load ?_); (first | refine dl_take (by assumption) (hv_load_box (by assumption) (by rfl) by_mem0 (by rfl) by_bd) by_wants rfl rfl ?_ | refine dl_take (by assumption) (hv_load_box_whole (by assumption) (by rfl) by_mem0 (by rfl) (by first | rfl | exact tcells_len _ | exact dcells_len _)) by_wants rfl rfl ?_)) | (refine aw_draw (id := 22) [(false, 0), (false, 1), (true, 2), (false, 3)] _ (by kernel_rfl) (by decide +kernel) (by decide) by_lit (.cons (.there (.there (.there .here))) .nil) by_nos fun jd hjd => ?_) | (((with_reducible refine k_cond ?_); refine aw_cond rfl ?_ ?_) <;> intro hb <;> (have hc := hb) <;> (try simp only [decide_eq_true_eq, decide_eq_false_iff_not, Int.not_lt, Int.not_le, ne_eq, Bool.not_eq_true, Bool.not_eq_false, Decidable.not_not] at hc) <;> (try (exfalso; omega)) <;> (try (first | contradiction | (cases hc; done)))))
      all_goals first
      | (exfalso; omega)
      | skip
      refine ret_r (retok_box_le 2 .here rfl le_nil_ro (retok_box_le 4 .here rfl le_nil_ro (retok_pick (.cons (.there (.there .here)) (.cons .here .nil)) (ret2 rfl by_res by_res (List.Sublist.cons_cons _ (List.Sublist.cons _ List.Sublist.slnil)) ⟨_, rfl, ?_⟩))))
      rw [if_neg (by omega), if_neg (by omega), if_neg (by omega)] at hnc
      refine leastR_fin (.mk t.kind 0 [] true []) (by rw [dcells_eq]; rfl) ?_
      rw [hLs, hnc, if_neg (by omega), if_neg (by omega), if_neg (by omega), if_neg (by omega), if_neg (by omega)]
      cases q
      · exact .inr ⟨rfl, by have := hq2 rfl; omega⟩
      · exact .inl ⟨rfl, by omega, by have := hq1 rfl; omega, rfl⟩
    · repeat' (first | (with_reducible first | refine aw_seq ?_ | refine rl_nil ?_ | refine aw_region ?_ | refine then_n ?_ | refine aw_block ?_ | refine then_exit ?_ | refine then_ret ?_ | refine in_n ?_ | refine in_ret ?_ | refine aw_exit ?_ | refine aw_ret ?_ | refine aw_skip ?_ | refine in_exit_eq rfl ?_ | refine awr_succ ?_) | ((with_reducible refine k_assign ?_); refine rl_pure (pv_assign rfl) rfl rfl rfl ?_) | ((with_reducible refine k_load ?_); refine rl_val (vv_load_box (by rfl) by_memb (by rfl) by_bd) rfl rfl rfl ?_) | ((with_reducible refine k_fieldAddr ?_); refine rl_pure (pv_fieldAddr rfl) rfl rfl rfl ?_) | ((with_reducible refine k_store ?_); (first | refine rl_op rfl (op_store_box_whole (by rfl) (by rfl) (V.okc_or (by rfl)) by_upd (by first | rfl | exact tcells_len _ | exact dcells_len _) (by first | rfl | exact tcells_len _ | exact dcells_len _) ?_) | refine rl_op rfl (op_store_box (by rfl) (by rfl) (V.okc_or (by rfl)) by_upd (by rfl) (by first | exact Nat.le_of_ble_eq_true rfl | assumption) ?_))) | ((with_reducible refine k_alloc ?_); refine rl_op rfl (op_alloc (by decide) rfl fun b => ?_)) | ((with_reducible refine k_eql ?_); refine rl_pure (pv_eql rfl rfl) rfl rfl rfl ?_) | ((with_reducible refine k_makeFunc ?_); refine rl_pure (pv_makeFunc rfl) rfl rfl rfl ?_) | (with_reducible refine dl_nil by_app ?_) | ((with_reducible refine kd_assign ?_); refine dl_pure (by assumption) (pv_assign rfl) by_wants rfl rfl ?_) | ((with_reducible refine kd_store ?_); (refine dl_op (by assumption) by_wants (op_store_box_whole (by rfl) (by rfl) (V.okc_or (by rfl)) by_upd (by first | rfl | exact tcells_len _ | exact dcells_len _) (by first | rfl | exact tcells_len _ | exact dcells_len _) ?_); intro jd hjd)) | ((with_reducible refine kd_load ?_); (first | refine dl_take (by assumption) (hv_load_box (by assumption) (by rfl) by_mem0 (by rfl) by_bd) by_wants rfl rfl ?_ | refine dl_take (by assumption) (hv_load_box_whole (by assumption) (by rfl) by_mem0 (by rfl) (by first | rfl | exact tcells_len _ | exact dcells_len _)) by_wants rfl rfl ?_)) | (refine aw_draw (id := 22) [(false, 0), (false, 1), (true, 2), (false, 3)] _ (by kernel_rfl) (by decide +kernel) (by decide) by_lit (.cons (.there (.there (.there .here))) .nil) by_nos fun jd hjd => ?_) | (((with_reducible refine k_cond ?_); refine aw_cond rfl ?_ ?_) <;> intro hb <;> (have hc := hb) <;> (try simp only [decide_eq_true_eq, decide_eq_false_iff_not, Int.not_lt, Int.not_le, ne_eq, Bool.not_eq_true, Bool.not_eq_false, Decidable.not_not] at hc) <;> (try (exfalso; omega)) <;> (try (first | contradiction | (cases hc; done)))))
      all_goals first
      | (exfalso; omega)
      | skip
      refine ret_r (retok_box_le 2 .here rfl le_nil_ro (retok_box_le 4 .here rfl le_nil_ro (retok_pick (.cons (.there (.there .here)) (.cons .here .nil)) (ret2 rfl by_res by_res (List.Sublist.cons_cons _ (List.Sublist.cons _ List.Sublist.slnil)) ⟨_, rfl, ?_⟩))))
      rw [if_neg (by omega), if_neg (by omega), if_neg (by omega)] at hnc
      refine leastR_fin (.mk t.kind t.lo [] true []) (by rw [dcells_eq]; rfl) ?_
      rw [hLs, hnc, if_pos (by omega), if_neg (by omega), if_neg (by omega), if_neg (by omega), if_neg (by omega)]
      cases q
      · exact .inr ⟨rfl, by have := hq2 rfl; omega⟩
      · exact .inl ⟨rfl, by omega, by have := hq1 rfl; omega, rfl⟩
    · obtain ⟨a, ha⟩ : ∃ a : Nat, t.lo = a := ⟨t.lo.toNat, by omega⟩
      rw [ha]
      repeat' (first | (with_reducible first | refine aw_seq ?_ | refine rl_nil ?_ | refine aw_region ?_ | refine then_n ?_ | refine aw_block ?_ | refine then_exit ?_ | refine then_ret ?_ | refine in_n ?_ | refine in_ret ?_ | refine aw_exit ?_ | refine aw_ret ?_ | refine aw_skip ?_ | refine in_exit_eq rfl ?_ | refine awr_succ ?_) | ((with_reducible refine k_assign ?_); refine rl_pure (pv_assign rfl) rfl rfl rfl ?_) | ((with_reducible refine k_load ?_); refine rl_val (vv_load_box (by rfl) by_memb (by rfl) by_bd) rfl rfl rfl ?_) | ((with_reducible refine k_fieldAddr ?_); refine rl_pure (pv_fieldAddr rfl) rfl rfl rfl ?_) | ((with_reducible refine k_store ?_); (first | refine rl_op rfl (op_store_box_whole (by rfl) (by rfl) (V.okc_or (by rfl)) by_upd (by first | rfl | exact tcells_len _ | exact dcells_len _) (by first | rfl | exact tcells_len _ | exact dcells_len _) ?_) | refine rl_op rfl (op_store_box (by rfl) (by rfl) (V.okc_or (by rfl)) by_upd (by rfl) (by first | exact Nat.le_of_ble_eq_true rfl | assumption) ?_))) | ((with_reducible refine k_alloc ?_); refine rl_op rfl (op_alloc (by decide) rfl fun b => ?_)) | ((with_reducible refine k_eql ?_); refine rl_pure (pv_eql rfl rfl) rfl rfl rfl ?_) | ((with_reducible refine k_makeSlice ?_); refine rl_op rfl (op_makeSlice rfl rfl rfl rfl by_bound by_bound rfl fun sv => ?_)) | ((with_reducible refine k_makeFunc ?_); refine rl_pure (pv_makeFunc rfl) rfl rfl rfl ?_) | (with_reducible refine dl_nil by_app ?_) | ((with_reducible refine kd_assign ?_); refine dl_pure (by assumption) (pv_assign rfl) by_wants rfl rfl ?_) | ((with_reducible refine kd_store ?_); (refine dl_op (by assumption) by_wants (op_store_box_whole (by rfl) (by rfl) (V.okc_or (by rfl)) by_upd (by first | rfl | exact tcells_len _ | exact dcells_len _) (by first | rfl | exact tcells_len _ | exact dcells_len _) ?_); intro jd hjd)) | ((with_reducible refine kd_load ?_); (first | refine dl_take (by assumption) (hv_load_box (by assumption) (by rfl) by_mem0 (by rfl) by_bd) by_wants rfl rfl ?_ | refine dl_take (by assumption) (hv_load_box_whole (by assumption) (by rfl) by_mem0 (by rfl) (by first | rfl | exact tcells_len _ | exact dcells_len _)) by_wants rfl rfl ?_)) | (refine aw_draw (id := 22) [(false, 0), (false, 1), (true, 2), (false, 3)] _ (by kernel_rfl) (by decide +kernel) (by decide) by_lit (.cons (.there (.there (.there (.there .here)))) .nil) by_nos fun jd hjd => ?_) | (((with_reducible refine k_cond ?_); refine aw_cond rfl ?_ ?_) <;> intro hb <;> (have hc := hb) <;> (try simp only [decide_eq_true_eq, decide_eq_false_iff_not, Int.not_lt, Int.not_le, ne_eq, Bool.not_eq_true, Bool.not_eq_false, Decidable.not_not] at hc) <;> (try (exfalso; omega)) <;> (try (first | contradiction | (cases hc; done)))))
      all_goals first
      | (exfalso; omega)
      | skip
      refine ret_r (retok_box_freeze 2 (.there .here) .here rfl (retok_box_le 4 .here rfl le_nil_ro (retok_pick (.cons (.there (.there .here)) (.cons .here .nil)) (ret2 rfl by_res by_res (List.Sublist.cons_cons _ (List.Sublist.cons _ List.Sublist.slnil)) ⟨_, rfl, ?_⟩))))
      rw [if_neg (by omega), if_neg (by omega), if_neg (by omega)] at hnc
      refine leastR_fin (.mk t.kind 0 (List.replicate a 0) true []) (by rw [dcells_eq]; simp only [Dat.b, List.map_replicate]; rfl) ?_
      rw [hLs, hnc, ha, Int.toNat_natCast, if_neg (by omega), if_pos (by omega), if_neg (by omega), if_neg (by omega), if_neg (by omega)]
      cases q
      · exact .inr ⟨rfl, by have := hq2 rfl; omega⟩
      · exact .inl ⟨rfl, by omega, by have := hq1 rfl; omega, rfl⟩
    · repeat' (first | (with_reducible first | refine aw_seq ?_ | refine rl_nil ?_ | refine aw_region ?_ | refine then_n ?_ | refine aw_block ?_ | refine then_exit ?_ | refine then_ret ?_ | refine in_n ?_ | refine in_ret ?_ | refine aw_exit ?_ | refine aw_ret ?_ | refine aw_skip ?_ | refine in_exit_eq rfl ?_ | refine awr_succ ?_) | ((with_reducible refine k_assign ?_); refine rl_pure (pv_assign rfl) rfl rfl rfl ?_) | ((with_reducible refine k_load ?_); refine rl_val (vv_load_box (by rfl) by_memb (by rfl) by_bd) rfl rfl rfl ?_) | ((with_reducible refine k_fieldAddr ?_); refine rl_pure (pv_fieldAddr rfl) rfl rfl rfl ?_) | ((with_reducible refine k_store ?_); refine rl_op rfl (op_store_box_whole (by rfl) (by rfl) (V.okc_or (by rfl)) by_upd (by first | rfl | exact tcells_len _ | exact dcells_len _) (by first | rfl | exact tcells_len _ | exact dcells_len _) ?_)) | ((with_reducible refine k_alloc ?_); refine rl_op rfl (op_alloc (by decide) rfl fun b => ?_)) | ((with_reducible refine k_eql ?_); refine rl_pure (pv_eql rfl rfl) rfl rfl rfl ?_) | ((with_reducible refine k_makeFunc ?_); refine rl_pure (pv_makeFunc rfl) rfl rfl rfl ?_) | (with_reducible refine dl_nil by_app ?_) | ((with_reducible refine kd_assign ?_); refine dl_pure (by assumption) (pv_assign rfl) by_wants rfl rfl ?_) | ((with_reducible refine kd_store ?_); (refine dl_op (by assumption) by_wants (op_store_box_whole (by rfl) (by rfl) (V.okc_or (by rfl)) by_upd (by first | rfl | exact tcells_len _ | exact dcells_len _) (by first | rfl | exact tcells_len _ | exact dcells_len _) ?_); intro jd hjd)) | ((with_reducible refine kd_load ?_); (first | refine dl_take (by assumption) (hv_load_box (by assumption) (by rfl) by_mem0 (by rfl) by_bd) by_wants rfl rfl ?_ | refine dl_take (by assumption) (hv_load_box_whole (by assumption) (by rfl) by_mem0 (by rfl) (by first | rfl | exact tcells_len _ | exact dcells_len _)) by_wants rfl rfl ?_)) | (refine aw_draw (id := 22) [(false, 0), (false, 1), (true, 2), (false, 3)] _ (by kernel_rfl) (by decide +kernel) (by decide) by_lit (.cons (.there (.there (.there .here))) .nil) by_nos fun jd hjd => ?_) | (((with_reducible refine k_cond ?_); refine aw_cond rfl ?_ ?_) <;> intro hb <;> (have hc := hb) <;> (try simp only [decide_eq_true_eq, decide_eq_false_iff_not, Int.not_lt, Int.not_le, ne_eq, Bool.not_eq_true, Bool.not_eq_false, Decidable.not_not] at hc) <;> (try (exfalso; omega)) <;> (try (first | contradiction | (cases hc; done)))))
      all_goals first
      | (exfalso; omega)
      | skip
      refine ret_r (retok_box_le 2 .here rfl le_nil_ro (retok_box_le 4 .here rfl le_nil_ro (retok_pick (.cons (.there (.there .here)) (.cons .here .nil)) (ret2 rfl by_res by_res (List.Sublist.cons_cons _ (List.Sublist.cons _ List.Sublist.slnil)) ⟨_, rfl, ?_⟩))))
      rw [if_neg (by omega), if_neg (by omega), if_neg (by omega)] at hnc
      refine leastR_fin (.mk t.kind 0 [] true []) (by rw [dcells_eq]; rfl) ?_
      rw [hLs, hnc, if_neg (by omega), if_neg (by omega), if_neg (by omega), if_neg (by omega), if_neg (by omega)]
      cases q
      · exact .inr ⟨rfl, by have := hq2 rfl; omega⟩
      · exact .inl ⟨rfl, by omega, by have := hq1 rfl; omega, rfl⟩
    · rw [if_pos (by omega)] at hnc
      repeat' (first | (with_reducible first | refine aw_seq ?_ | refine rl_nil ?_ | refine aw_region ?_ | refine then_n ?_ | refine aw_block ?_ | refine then_exit ?_ | refine then_ret ?_ | refine in_n ?_ | refine in_ret ?_ | refine aw_exit ?_ | refine aw_ret ?_ | refine aw_skip ?_ | refine in_exit_eq rfl ?_ | refine awr_succ ?_) | ((with_reducible refine k_move ?_); refine rl_pure (pv_move rfl) rfl rfl rfl ?_) | ((with_reducible refine k_assign ?_); refine rl_pure (pv_assign rfl) rfl rfl rfl ?_) | ((with_reducible refine k_load ?_); refine rl_val (vv_load_box (by rfl) by_memb (by rfl) by_bd) rfl rfl rfl ?_) | ((with_reducible refine k_fieldAddr ?_); refine rl_pure (pv_fieldAddr rfl) rfl rfl rfl ?_) | ((with_reducible refine k_store ?_); refine rl_op rfl (op_store_box_whole (by rfl) (by rfl) (V.okc_or (by rfl)) by_upd (by first | rfl | exact tcells_len _ | exact dcells_len _) (by first | rfl | exact tcells_len _ | exact dcells_len _) ?_)) | ((with_reducible refine k_alloc ?_); refine rl_op rfl (op_alloc (by decide) rfl fun b => ?_)) | ((with_reducible refine k_eql ?_); refine rl_pure (pv_eql rfl rfl) rfl rfl rfl ?_) | ((with_reducible refine k_len ?_); refine rl_pure (pv_len_ro' (by rfl) by_len) rfl rfl rfl ?_) | ((with_reducible refine k_makeFunc ?_); refine rl_pure (pv_makeFunc rfl) rfl rfl rfl ?_) | (((with_reducible refine k_cond ?_); refine aw_cond rfl ?_ ?_) <;> intro hb <;> (have hc := hb) <;> (try simp only [decide_eq_true_eq, decide_eq_false_iff_not, Int.not_lt, Int.not_le, ne_eq, Bool.not_eq_true, Bool.not_eq_false, Decidable.not_not] at hc) <;> (try (exfalso; omega)) <;> (try (first | contradiction | (cases hc; done)))))
      all_goals first
      | (exfalso; omega)
      | skip
      revert b; intro bi; revert b; intro bo; revert b; intro bz; revert b; intro bL
      refine aw_box_le 4 (.there (.there .here)) rfl le_nil_own ?_
      refine aw_vec_nil 28 5 ?_
      refine aw_iter (α := Nat × Value × Bool × Int × List Dat) (fun q => [(2, ptr b), (3, ptr bL), (4, ptr bz), (6, ptr bo), (7, ptr bi), (8, .fn 74 [ptr bi, ptr bL, ptr bo]), (54, .ro (t.l.map Typ.cells)), (55, int t.l.length), (56, int q.1)])
        (fun q => [.vec q.2.1 28 5 (q.2.2.2.2.map Dat.cells), .box bo 28 [int t.kind, int 0, .raw (.slice none 0 0), bool true, .own q.2.1], .box bi 4 [bool q.2.2.1], .box bL 76 [ptr p], .box p 73 [int q.2.2.2.1], .box bz 28 [int 0, int 0, nilS, bool false, nilS], .box b 24 [int t.kind, str t.name, int t.lo, int t.hi, bool t.opt, .ro (t.l.map Typ.cells)]])
        (fun r => r.1 ≤ t.l.length ∧ r.2.2.2.2.length = r.1 ∧ ((r.2.2.1 = true ∧ r.2.2.2.1 = left - 1 - (ncRow (t.l.take r.1) : Nat) ∧ 0 ≤ r.2.2.2.1 ∧ r.2.2.2.2 = lstRow (t.l.take r.1)) ∨ (r.2.2.1 = false ∧ left < (1 + ncRow t.l : Nat)))) (fun q => t.l.length - q.1)
        (0, .slice none 0 0, q, left - 1, []) ?_ (by (repeat (first | exact sub_nil | refine sub_cons (by first | rfl | (simp; done)) ?_))) (.cons .here (.cons (.there (.there .here)) (.cons .here (.cons (.there (.there .here)) (.cons .here (.cons .here (.cons .here .nil))))))) fun r hI => ?_
      · refine ⟨Nat.zero_le _, rfl, ?_⟩
        dsimp only
        cases q
        · exact .inr ⟨rfl, by have := hq2 rfl; omega⟩
        · exact .inl ⟨rfl, by simp [ncRow], by have := hq1 rfl; omega, rfl⟩
      obtain ⟨i, sv, q1, left1, ds⟩ := r
      dsimp only at hI ⊢
      obtain ⟨hi, hds, hI⟩ := hI
      rcases Nat.lt_or_ge i t.l.length with hlt | hge
      · obtain ⟨x, hx⟩ : ∃ x, t.l[i]? = some x := ⟨_, List.getElem?_eq_getElem hlt⟩
        have hr : (t.l.map Typ.cells)[i]? = some x.cells := by simp [hx]
        have hkx := hkid i x hx p left1
        have htk := lstRow_take hx
        have hnt := ncRow_take hx
        have h74 := fun bi bl bo sv => add74 x p bi bl bo left1 t.kind q1 (int 0) (.raw (.slice none 0 0)) sv (ds.map Dat.cells) (by rw [List.length_map]; omega) (fun h1 _ => hkx (by
          rcases hI with ⟨_, h2, h3, _⟩ | ⟨h2, _⟩
          · omega
          · rw [h1] at h2; cases h2))
        rw [cells_eq] at h74 hr
        repeat' (first | (with_reducible first | refine aw_seq ?_ | refine rl_nil ?_ | refine aw_region ?_ | refine then_n ?_ | refine aw_block ?_ | refine then_exit ?_ | refine then_ret ?_ | refine in_n ?_ | refine in_ret ?_ | refine aw_exit ?_ | refine aw_ret ?_ | refine aw_skip ?_ | refine in_exit_eq rfl ?_ | refine awr_succ ?_) | ((with_reducible refine k_move ?_); refine rl_pure (pv_move rfl) rfl rfl rfl ?_) | ((with_reducible refine k_load ?_); (first | refine rl_val (vv_load_ro_whole (by rfl) (by rfl) (by first | rfl | exact tcells_len _ | exact dcells_len _)) rfl rfl rfl ?_ | refine rl_val (vv_load_box_whole (by rfl) by_memb (by rfl) (by first | rfl | exact tcells_len _ | exact dcells_len _)) rfl rfl rfl ?_)) | ((with_reducible refine k_store ?_); refine rl_op rfl (op_store_box_whole (by rfl) (by rfl) (V.okc_or (by rfl)) by_upd (by first | rfl | exact tcells_len _ | exact dcells_len _) (by first | rfl | exact tcells_len _ | exact dcells_len _) ?_)) | ((with_reducible refine k_alloc ?_); refine rl_op rfl (op_alloc (by decide) rfl fun b => ?_)) | ((with_reducible refine k_lss ?_); refine rl_pure (pv_lss rfl rfl) rfl rfl rfl ?_) | ((with_reducible refine k_indexAddr ?_); refine rl_pure (pv_indexAddr_ro (by rfl) rfl (by omega) (by first | rfl | assumption) (by first | rfl | exact tcells_len _ | exact dcells_len _)) rfl rfl rfl ?_) | (((with_reducible refine k_cond ?_); refine aw_cond rfl ?_ ?_) <;> intro hb <;> (have hc := hb) <;> (try simp only [decide_eq_true_eq, decide_eq_false_iff_not, Int.not_lt, Int.not_le, ne_eq, Bool.not_eq_true, Bool.not_eq_false, Decidable.not_not] at hc) <;> (try (exfalso; omega)) <;> (try (first | contradiction | (cases hc; done)))))
        all_goals first
        | (exfalso; omega)
        | skip
        (first | refine rl_op rfl (op_callR rfl rfl (.cons (.there .here) (.cons (.there .here) (.cons (.there .here) (.cons (.there .here) (.cons (.there .here) .nil))))) (h74 _ _ _ _) rfl ?_) | refine dl_op (by assumption) by_wants (op_callR rfl rfl (.cons (.there .here) (.cons (.there .here) (.cons (.there .here) (.cons (.there .here) (.cons (.there .here) .nil))))) (h74 _ _ _ _) rfl ?_))
        rintro _ _ ⟨rfl, sv', q', left', d, rfl, hadd⟩
        repeat' (first | (with_reducible first | refine aw_seq ?_ | refine rl_nil ?_ | refine aw_region ?_ | refine then_n ?_ | refine aw_block ?_ | refine then_exit ?_ | refine then_ret ?_ | refine in_n ?_ | refine in_ret ?_ | refine aw_exit ?_ | refine aw_ret ?_ | refine aw_skip ?_ | refine in_exit_eq rfl ?_ | refine awr_succ ?_) | ((with_reducible refine k_move ?_); refine rl_pure (pv_move rfl) rfl rfl rfl ?_) | ((with_reducible refine k_add ?_); refine rl_pure (pv_add_in rfl rfl (by omega)) rfl rfl rfl ?_))
        refine next_of (R := _) (i + 1, sv', q', left', ds ++ [d]) ⟨hlt, by simp [hds], ?_⟩ (by dsimp only; omega) (by (repeat (first | exact sub_nil | refine sub_cons (by first | rfl | (simp; done)) ?_))) (by rw [List.map_append]; exact (.cons .here (.cons .here (.cons .here (.cons .here (.cons .here (.cons (.there .here) (.cons (.there .here) .nil))))))))
        dsimp only
        rw [AddR] at hadd
        rw [htk, hnt.1]
        have hnt2 := hnt.2
        rw [hnt.1] at hnt2
        rcases hI with ⟨rfl, h2, h3, rfl⟩ | ⟨rfl, h2⟩
        · cases ho : x.opt
          · rw [if_pos ⟨rfl, ho⟩] at hadd
            rw [if_neg (by simp [ho])] at hnt2
            rw [if_neg (by simp), if_neg (by simp)]
            rcases hadd with ⟨k1, k2, rfl, k4⟩ | ⟨k1, k2⟩
            · exact .inl ⟨k4, by omega, by omega, rfl⟩
            · exact .inr ⟨k2, by omega⟩
          · rw [if_neg (by simp [ho])] at hadd
            rw [if_pos (by simp), if_pos (by simp)]
            obtain ⟨k1, k2, rfl⟩ := hadd
            exact .inl ⟨k1, by omega, by omega, rfl⟩
        · rw [if_neg (by simp)] at hadd
          exact .inr ⟨hadd.1, h2⟩
      · have hki : i = t.l.length := by omega
        subst hki
        repeat' (first | (with_reducible first | refine aw_seq ?_ | refine rl_nil ?_ | refine aw_region ?_ | refine then_n ?_ | refine aw_block ?_ | refine then_exit ?_ | refine then_ret ?_ | refine in_n ?_ | refine in_ret ?_ | refine aw_exit ?_ | refine aw_ret ?_ | refine aw_skip ?_ | refine in_exit_eq rfl ?_ | refine awr_succ ?_) | ((with_reducible refine k_lss ?_); refine rl_pure (pv_lss rfl rfl) rfl rfl rfl ?_) | (with_reducible refine dl_nil by_app ?_) | ((with_reducible refine kd_assign ?_); refine dl_pure (by assumption) (pv_assign rfl) by_wants rfl rfl ?_) | ((with_reducible refine kd_store ?_); (refine dl_op (by assumption) by_wants (op_store_box_whole (by rfl) (by rfl) (V.okc_or (by rfl)) by_upd (by first | rfl | exact tcells_len _ | exact dcells_len _) (by first | rfl | exact tcells_len _ | exact dcells_len _) ?_); intro jd hjd)) | ((with_reducible refine kd_load ?_); (first | refine dl_take (by assumption) (hv_load_box (by assumption) (by rfl) by_mem0 (by rfl) by_bd) by_wants rfl rfl ?_ | refine dl_take (by assumption) (hv_load_box_whole (by assumption) (by rfl) by_mem0 (by rfl) (by first | rfl | exact tcells_len _ | exact dcells_len _)) by_wants rfl rfl ?_)) | (refine aw_draw (id := 22) [(false, 0), (false, 1), (true, 2), (false, 3)] _ (by kernel_rfl) (by decide +kernel) (by decide) by_lit (.cons (.there (.there (.there (.there (.there .here))))) .nil) by_nos fun jd hjd => ?_) | (((with_reducible refine k_cond ?_); refine aw_cond rfl ?_ ?_) <;> intro hb <;> (have hc := hb) <;> (try simp only [decide_eq_true_eq, decide_eq_false_iff_not, Int.not_lt, Int.not_le, ne_eq, Bool.not_eq_true, Bool.not_eq_false, Decidable.not_not] at hc) <;> (try (exfalso; omega)) <;> (try (first | contradiction | (cases hc; done)))))
        refine ret_r (retok_box_freeze 4 (.there .here) .here rfl (retok_box_le 2 .here rfl le_nil_ro (retok_pick (.cons (.there (.there (.there (.there .here)))) (.cons .here .nil)) (ret2 rfl by_res by_res (List.Sublist.cons_cons _ (List.Sublist.cons _ List.Sublist.slnil)) ⟨_, rfl, ?_⟩))))
        refine leastR_fin (.mk t.kind 0 [] true ds) (by rw [dcells_eq]; rfl) ?_
        rw [hLs, hnc, if_neg (by omega), if_neg (by omega), if_pos (by omega)]
        rw [List.take_of_length_le (Nat.le_refl _)] at hI
        rcases hI with ⟨h1, h2, h3, h4⟩ | ⟨h1, h2⟩
        · exact .inl ⟨h1, by omega, by omega, by rw [h4]⟩
        · exact .inr ⟨h1, h2⟩
    · obtain ⟨x, hx⟩ : ∃ x, t.l[0]? = some x := ⟨_, List.getElem?_eq_getElem (by omega)⟩
      have hr : (t.l.map Typ.cells)[0]? = some x.cells := by simp [hx]
      have ho := okT_opt0 hok (.inl hk.1) hx
      have hkx := hkid 0 x hx p (left - 1)
      rw [if_neg (by omega), if_pos (by omega), ncHd_eq hx] at hnc
      rw [cells_eq] at hr
      repeat' (first | (with_reducible first | refine aw_seq ?_ | refine rl_nil ?_ | refine aw_region ?_ | refine then_n ?_ | refine aw_block ?_ | refine then_exit ?_ | refine then_ret ?_ | refine in_n ?_ | refine in_ret ?_ | refine aw_exit ?_ | refine aw_ret ?_ | refine aw_skip ?_ | refine in_exit_eq rfl ?_ | refine awr_succ ?_) | ((with_reducible refine k_move ?_); refine rl_pure (pv_move rfl) rfl rfl rfl ?_) | ((with_reducible refine k_assign ?_); refine rl_pure (pv_assign rfl) rfl rfl rfl ?_) | ((with_reducible refine k_load ?_); (first | refine rl_val (vv_load_ro_whole (by rfl) (by rfl) (by first | rfl | exact tcells_len _ | exact dcells_len _)) rfl rfl rfl ?_ | refine rl_val (vv_load_box (by rfl) by_memb (by rfl) by_bd) rfl rfl rfl ?_)) | ((with_reducible refine k_fieldAddr ?_); refine rl_pure (pv_fieldAddr rfl) rfl rfl rfl ?_) | ((with_reducible refine k_store ?_); refine rl_op rfl (op_store_box_whole (by rfl) (by rfl) (V.okc_or (by rfl)) by_upd (by first | rfl | exact tcells_len _ | exact dcells_len _) (by first | rfl | exact tcells_len _ | exact dcells_len _) ?_)) | ((with_reducible refine k_alloc ?_); refine rl_op rfl (op_alloc (by decide) rfl fun b => ?_)) | ((with_reducible refine k_eql ?_); refine rl_pure (pv_eql rfl rfl) rfl rfl rfl ?_) | ((with_reducible refine k_indexAddr ?_); refine rl_pure (pv_indexAddr_ro (by rfl) rfl (by omega) (by first | rfl | assumption) (by first | rfl | exact tcells_len _ | exact dcells_len _)) rfl rfl rfl ?_) | ((with_reducible refine k_makeFunc ?_); refine rl_pure (pv_makeFunc rfl) rfl rfl rfl ?_) | (((with_reducible refine k_cond ?_); refine aw_cond rfl ?_ ?_) <;> intro hb <;> (have hc := hb) <;> (try simp only [decide_eq_true_eq, decide_eq_false_iff_not, Int.not_lt, Int.not_le, ne_eq, Bool.not_eq_true, Bool.not_eq_false, Decidable.not_not] at hc) <;> (try (exfalso; omega)) <;> (try (first | contradiction | (cases hc; done)))))
      all_goals first
      | (exfalso; omega)
      | skip
      refine rl_box_le 4 (.there (.there .here)) rfl le_nil_own ?_
      refine rl_vec_nil 28 5 ?_
      have h74 := fun bi bl bo sv => add74 x p bi bl bo (left - 1) t.kind q (int 0) (.raw (.slice none 0 0)) sv [] (by simp) (fun h1 _ => hkx ⟨by have := hq1 h1; omega, by omega⟩)
      rw [cells_eq] at h74
      (first | refine rl_op rfl (op_callR rfl rfl (.cons .here (.cons (.there (.there .here)) (.cons .here (.cons (.there (.there .here)) (.cons .here .nil))))) (h74 _ _ _ _) rfl ?_) | refine dl_op (by assumption) by_wants (op_callR rfl rfl (.cons .here (.cons (.there (.there .here)) (.cons .here (.cons (.there (.there .here)) (.cons .here .nil))))) (h74 _ _ _ _) rfl ?_))
      rintro _ _ ⟨rfl, sv', q', left', d, rfl, hadd⟩
      repeat' (first | (with_reducible first | refine aw_seq ?_ | refine rl_nil ?_ | refine aw_region ?_ | refine then_n ?_ | refine aw_block ?_ | refine then_exit ?_ | refine then_ret ?_ | refine in_n ?_ | refine in_ret ?_ | refine aw_exit ?_ | refine aw_ret ?_ | refine aw_skip ?_ | refine in_exit_eq rfl ?_ | refine awr_succ ?_) | (with_reducible refine dl_nil by_app ?_) | ((with_reducible refine kd_assign ?_); refine dl_pure (by assumption) (pv_assign rfl) by_wants rfl rfl ?_) | ((with_reducible refine kd_store ?_); (refine dl_op (by assumption) by_wants (op_store_box_whole (by rfl) (by rfl) (V.okc_or (by rfl)) by_upd (by first | rfl | exact tcells_len _ | exact dcells_len _) (by first | rfl | exact tcells_len _ | exact dcells_len _) ?_); intro jd hjd)) | ((with_reducible refine kd_load ?_); (first | refine dl_take (by assumption) (hv_load_box (by assumption) (by rfl) by_mem0 (by rfl) by_bd) by_wants rfl rfl ?_ | refine dl_take (by assumption) (hv_load_box_whole (by assumption) (by rfl) by_mem0 (by rfl) (by first | rfl | exact tcells_len _ | exact dcells_len _)) by_wants rfl rfl ?_)) | (refine aw_draw (id := 22) [(false, 0), (false, 1), (true, 2), (false, 3)] _ (by kernel_rfl) (by decide +kernel) (by decide) by_lit (.cons (.there (.there (.there (.there (.there .here))))) .nil) by_nos fun jd hjd => ?_))
      refine ret_r (retok_box_freeze 4 (.there .here) .here rfl (retok_box_le 2 .here rfl le_nil_ro (retok_pick (.cons (.there (.there (.there (.there .here)))) (.cons .here .nil)) (ret2 rfl by_res by_res (List.Sublist.cons_cons _ (List.Sublist.cons _ List.Sublist.slnil)) ⟨_, rfl, ?_⟩))))
      refine leastR_fin (.mk t.kind 0 [] true [d]) (by rw [dcells_eq]; rfl) ?_
      rw [hLs, hnc, if_neg (by omega), if_neg (by omega), if_neg (by omega), if_pos (by omega), lstHd_eq hx]
      rw [AddR] at hadd
      cases q
      · rw [if_neg (by simp)] at hadd
        exact .inr ⟨hadd.1, by have := hq2 rfl; omega⟩
      · rw [if_pos ⟨rfl, ho⟩] at hadd
        have := hq1 rfl
        rcases hadd with ⟨h1, h2, rfl, h4⟩ | ⟨h1, h2⟩
        · exact .inl ⟨h4, by omega, by omega, rfl⟩
        · exact .inr ⟨h2, by omega⟩
    · obtain ⟨a, ha⟩ : ∃ a : Nat, t.lo = a := ⟨t.lo.toNat, by omega⟩
      obtain ⟨x, hx⟩ : ∃ x, t.l[0]? = some x := ⟨_, List.getElem?_eq_getElem (by omega)⟩
      have hr : (t.l.map Typ.cells)[0]? = some x.cells := by simp [hx]
      have ho := okT_opt0 hok (.inr hk.1) hx
      have hkx := hkid 0 x hx p
      rw [if_neg (by omega), if_neg (by omega), if_pos (by omega), ncHd_eq hx, ha, Int.toNat_natCast] at hnc
      rw [cells_eq] at hr
      rw [ha]
      repeat' (first | (with_reducible first | refine aw_seq ?_ | refine rl_nil ?_ | refine aw_region ?_ | refine then_n ?_ | refine aw_block ?_ | refine then_exit ?_ | refine then_ret ?_ | refine in_n ?_ | refine in_ret ?_ | refine aw_exit ?_ | refine aw_ret ?_ | refine aw_skip ?_ | refine in_exit_eq rfl ?_ | refine awr_succ ?_) | ((with_reducible refine k_move ?_); refine rl_pure (pv_move rfl) rfl rfl rfl ?_) | ((with_reducible refine k_assign ?_); refine rl_pure (pv_assign rfl) rfl rfl rfl ?_) | ((with_reducible refine k_load ?_); refine rl_val (vv_load_box (by rfl) by_memb (by rfl) by_bd) rfl rfl rfl ?_) | ((with_reducible refine k_fieldAddr ?_); refine rl_pure (pv_fieldAddr rfl) rfl rfl rfl ?_) | ((with_reducible refine k_store ?_); refine rl_op rfl (op_store_box_whole (by rfl) (by rfl) (V.okc_or (by rfl)) by_upd (by first | rfl | exact tcells_len _ | exact dcells_len _) (by first | rfl | exact tcells_len _ | exact dcells_len _) ?_)) | ((with_reducible refine k_alloc ?_); refine rl_op rfl (op_alloc (by decide) rfl fun b => ?_)) | ((with_reducible refine k_eql ?_); refine rl_pure (pv_eql rfl rfl) rfl rfl rfl ?_) | ((with_reducible refine k_makeFunc ?_); refine rl_pure (pv_makeFunc rfl) rfl rfl rfl ?_) | (((with_reducible refine k_cond ?_); refine aw_cond rfl ?_ ?_) <;> intro hb <;> (have hc := hb) <;> (try simp only [decide_eq_true_eq, decide_eq_false_iff_not, Int.not_lt, Int.not_le, ne_eq, Bool.not_eq_true, Bool.not_eq_false, Decidable.not_not] at hc) <;> (try (exfalso; omega)) <;> (try (first | contradiction | (cases hc; done)))))
      all_goals first
      | (exfalso; omega)
      | skip
      revert b; intro bi; revert b; intro bo; revert b; intro bz; revert b; intro bL
      refine aw_box_le 4 (.there (.there .here)) rfl le_nil_own ?_
      refine aw_vec_nil 28 5 ?_
      refine aw_iter (α := Nat × Value × Bool × Int × List Dat) (fun q => [(2, ptr b), (3, ptr bL), (4, ptr bz), (6, ptr bo), (7, ptr bi), (8, .fn 74 [ptr bi, ptr bL, ptr bo]), (41, int a), (42, int q.1)])
        (fun q => [.vec q.2.1 28 5 (q.2.2.2.2.map Dat.cells), .box bo 28 [int t.kind, int 0, .raw (.slice none 0 0), bool true, .own q.2.1], .box bi 4 [bool q.2.2.1], .box bL 76 [ptr p], .box p 73 [int q.2.2.2.1], .box bz 28 [int 0, int 0, nilS, bool false, nilS], .box b 24 [int t.kind, str t.name, int a, int t.hi, bool t.opt, .ro (t.l.map Typ.cells)]])
        (fun r => r.1 ≤ a ∧ r.2.2.2.2.length = r.1 ∧ ((r.2.2.1 = true ∧ r.2.2.2.1 = left - 1 - (r.1 * ncT x : Nat) ∧ 0 ≤ r.2.2.2.1 ∧ r.2.2.2.2 = List.replicate r.1 (lstT x)) ∨ (r.2.2.1 = false ∧ left < (1 + a * ncT x : Nat)))) (fun q => a - q.1)
        (0, .slice none 0 0, q, left - 1, []) ?_ (by (repeat (first | exact sub_nil | refine sub_cons (by first | rfl | (simp; done)) ?_))) (.cons .here (.cons (.there (.there .here)) (.cons .here (.cons (.there (.there .here)) (.cons .here (.cons .here (.cons .here .nil))))))) fun r hI => ?_
      · refine ⟨Nat.zero_le _, rfl, ?_⟩
        dsimp only
        cases q
        · exact .inr ⟨rfl, by have := hq2 rfl; omega⟩
        · exact .inl ⟨rfl, by rw [Nat.zero_mul]; simp, by have := hq1 rfl; omega, rfl⟩
      obtain ⟨i, sv, q1, left1, ds⟩ := r
      dsimp only at hI ⊢
      obtain ⟨hi, hds, hI⟩ := hI
      rcases Nat.lt_or_ge i a with hlt | hge
      · have h74 := fun bi bl bo sv => add74 x p bi bl bo left1 t.kind q1 (int 0) (.raw (.slice none 0 0)) sv (ds.map Dat.cells) (by rw [List.length_map]; omega) (fun h1 _ => hkx left1 (by
          rcases hI with ⟨_, h2, h3, _⟩ | ⟨h2, _⟩
          · omega
          · rw [h1] at h2; cases h2))
        rw [cells_eq] at h74
        repeat' (first | (with_reducible first | refine aw_seq ?_ | refine rl_nil ?_ | refine aw_region ?_ | refine then_n ?_ | refine aw_block ?_ | refine then_exit ?_ | refine then_ret ?_ | refine in_n ?_ | refine in_ret ?_ | refine aw_exit ?_ | refine aw_ret ?_ | refine aw_skip ?_ | refine in_exit_eq rfl ?_ | refine awr_succ ?_) | ((with_reducible refine k_move ?_); refine rl_pure (pv_move rfl) rfl rfl rfl ?_) | ((with_reducible refine k_load ?_); (first | refine rl_val (vv_load_ro_whole (by rfl) (by rfl) (by first | rfl | exact tcells_len _ | exact dcells_len _)) rfl rfl rfl ?_ | refine rl_val (vv_load_box (by rfl) by_memb (by rfl) by_bd) rfl rfl rfl ?_)) | ((with_reducible refine k_fieldAddr ?_); refine rl_pure (pv_fieldAddr rfl) rfl rfl rfl ?_) | ((with_reducible refine k_lss ?_); refine rl_pure (pv_lss rfl rfl) rfl rfl rfl ?_) | ((with_reducible refine k_indexAddr ?_); refine rl_pure (pv_indexAddr_ro (by rfl) rfl (by omega) (by first | rfl | assumption) (by first | rfl | exact tcells_len _ | exact dcells_len _)) rfl rfl rfl ?_) | (((with_reducible refine k_cond ?_); refine aw_cond rfl ?_ ?_) <;> intro hb <;> (have hc := hb) <;> (try simp only [decide_eq_true_eq, decide_eq_false_iff_not, Int.not_lt, Int.not_le, ne_eq, Bool.not_eq_true, Bool.not_eq_false, Decidable.not_not] at hc) <;> (try (exfalso; omega)) <;> (try (first | contradiction | (cases hc; done)))))
        all_goals first
        | (exfalso; omega)
        | skip
        (first | refine rl_op rfl (op_callR rfl rfl (.cons .here (.cons .here (.cons .here (.cons .here (.cons .here .nil))))) (h74 _ _ _ _) rfl ?_) | refine dl_op (by assumption) by_wants (op_callR rfl rfl (.cons .here (.cons .here (.cons .here (.cons .here (.cons .here .nil))))) (h74 _ _ _ _) rfl ?_))
        rintro _ _ ⟨rfl, sv', q', left', d, rfl, hadd⟩
        repeat' (first | (with_reducible first | refine aw_seq ?_ | refine rl_nil ?_ | refine aw_region ?_ | refine then_n ?_ | refine aw_block ?_ | refine then_exit ?_ | refine then_ret ?_ | refine in_n ?_ | refine in_ret ?_ | refine aw_exit ?_ | refine aw_ret ?_ | refine aw_skip ?_ | refine in_exit_eq rfl ?_ | refine awr_succ ?_) | ((with_reducible refine k_move ?_); refine rl_pure (pv_move rfl) rfl rfl rfl ?_) | ((with_reducible refine k_add ?_); refine rl_pure (pv_add_in rfl rfl (by omega)) rfl rfl rfl ?_))
        refine next_of (R := []) (i + 1, sv', q', left', ds ++ [d]) ⟨hlt, by simp [hds], ?_⟩ (by dsimp only; omega) (by (repeat (first | exact sub_nil | refine sub_cons (by first | rfl | (simp; done)) ?_))) (by rw [List.map_append]; exact (.cons .here (.cons .here (.cons .here (.cons .here (.cons .here (.cons .here (.cons .here .nil))))))))
        dsimp only
        rw [AddR] at hadd
        have hmul : (i + 1) * ncT x ≤ a * ncT x := Nat.mul_le_mul_right _ hlt
        rw [Nat.succ_mul] at hmul ⊢
        rw [show List.replicate (i + 1) (lstT x) = List.replicate i (lstT x) ++ [lstT x] from List.replicate_succ']
        rcases hI with ⟨rfl, h2, h3, rfl⟩ | ⟨rfl, h2⟩
        · rw [if_pos ⟨rfl, ho⟩] at hadd
          rcases hadd with ⟨k1, k2, rfl, k4⟩ | ⟨k1, k2⟩
          · exact .inl ⟨k4, by omega, by omega, rfl⟩
          · exact .inr ⟨k2, by omega⟩
        · rw [if_neg (by simp)] at hadd
          exact .inr ⟨hadd.1, h2⟩
      · have hki : i = a := by omega
        subst hki
        repeat' (first | (with_reducible first | refine aw_seq ?_ | refine rl_nil ?_ | refine aw_region ?_ | refine then_n ?_ | refine aw_block ?_ | refine then_exit ?_ | refine then_ret ?_ | refine in_n ?_ | refine in_ret ?_ | refine aw_exit ?_ | refine aw_ret ?_ | refine aw_skip ?_ | refine in_exit_eq rfl ?_ | refine awr_succ ?_) | ((with_reducible refine k_lss ?_); refine rl_pure (pv_lss rfl rfl) rfl rfl rfl ?_) | (with_reducible refine dl_nil by_app ?_) | ((with_reducible refine kd_assign ?_); refine dl_pure (by assumption) (pv_assign rfl) by_wants rfl rfl ?_) | ((with_reducible refine kd_store ?_); (refine dl_op (by assumption) by_wants (op_store_box_whole (by rfl) (by rfl) (V.okc_or (by rfl)) by_upd (by first | rfl | exact tcells_len _ | exact dcells_len _) (by first | rfl | exact tcells_len _ | exact dcells_len _) ?_); intro jd hjd)) | ((with_reducible refine kd_load ?_); (first | refine dl_take (by assumption) (hv_load_box (by assumption) (by rfl) by_mem0 (by rfl) by_bd) by_wants rfl rfl ?_ | refine dl_take (by assumption) (hv_load_box_whole (by assumption) (by rfl) by_mem0 (by rfl) (by first | rfl | exact tcells_len _ | exact dcells_len _)) by_wants rfl rfl ?_)) | (refine aw_draw (id := 22) [(false, 0), (false, 1), (true, 2), (false, 3)] _ (by kernel_rfl) (by decide +kernel) (by decide) by_lit (.cons (.there (.there (.there (.there (.there .here))))) .nil) by_nos fun jd hjd => ?_) | (((with_reducible refine k_cond ?_); refine aw_cond rfl ?_ ?_) <;> intro hb <;> (have hc := hb) <;> (try simp only [decide_eq_true_eq, decide_eq_false_iff_not, Int.not_lt, Int.not_le, ne_eq, Bool.not_eq_true, Bool.not_eq_false, Decidable.not_not] at hc) <;> (try (exfalso; omega)) <;> (try (first | contradiction | (cases hc; done)))))
        refine ret_r (retok_box_freeze 4 (.there .here) .here rfl (retok_box_le 2 .here rfl le_nil_ro (retok_pick (.cons (.there (.there (.there (.there .here)))) (.cons .here .nil)) (ret2 rfl by_res by_res (List.Sublist.cons_cons _ (List.Sublist.cons _ List.Sublist.slnil)) ⟨_, rfl, ?_⟩))))
        refine leastR_fin (.mk t.kind 0 [] true ds) (by rw [dcells_eq]; rfl) ?_
        rw [hLs, hnc, if_neg (by omega), if_neg (by omega), if_neg (by omega), if_neg (by omega), if_pos (by omega), lstHd_eq hx, ha, Int.toNat_natCast]
        rcases hI with ⟨h1, h2, h3, h4⟩ | ⟨h1, h2⟩
        · exact .inl ⟨h1, by omega, by omega, by rw [h4]⟩
        · exact .inr ⟨h1, h2⟩
end Go.Proofs.Ytepmllodaoanmaa
