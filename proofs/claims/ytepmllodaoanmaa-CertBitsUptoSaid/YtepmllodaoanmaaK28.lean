import Derived.Test.YtepmllodaoanmaaK26
set_option linter.unusedVariables false
set_option linter.unusedSimpArgs false
namespace Go.Proofs.Ytepmllodaoanmaa
open Go Go.AX
set_option maxHeartbeats 8000000
set_option maxRecDepth 20000
attribute [local irreducible] AW RL OP PureV ValV HV DL Tri TriR Fun RetOk ResV
/-- What the function least gives: v, and what is left. -/
def LeastR (t : Typ) (p : Nat) (left : Int) (v : V) (H' : List Ch) : Prop :=
  ∃ (left' : Int) (d : Dat) (is : Bool), H' = [.box p 73 [int left']] ∧ v = .tup [.agg d.cells, bool is] ∧
    (((ncT t : Int) ≤ left ∧ left' = left - ncT t ∧ d = lstT t ∧ is = true) ∨ (left < (ncT t : Int) ∧ is = false))
theorem more73 (p : Nat) (n : Int) (hn : -1000000 ≤ n ∧ n ≤ 1000000) : TriR Try.prog 73 [ptr p] [.box p 73 [int n]] fun v H' => v = bool (decide (0 ≤ n - 1)) ∧ H' = [.box p 73 [int (n - 1)]] := by
  refine TriR.of (tri_of Try.func73 rfl Try.ntmps73 rfl fun j => ?_)
  repeat' (first | (with_reducible first | refine aw_seq ?_ | refine rl_nil ?_ | refine aw_region ?_ | refine then_n ?_ | refine aw_block ?_ | refine then_exit ?_ | refine then_ret ?_ | refine in_n ?_ | refine in_ret ?_ | refine aw_exit ?_ | refine aw_ret ?_ | refine aw_skip ?_ | refine in_exit_eq rfl ?_ | refine awr_succ ?_) | ((with_reducible refine k_move ?_); refine rl_pure (pv_move rfl) rfl rfl rfl ?_) | ((with_reducible refine k_assign ?_); refine rl_pure (pv_assign rfl) rfl rfl rfl ?_) | ((with_reducible refine k_load ?_); refine rl_val (vv_load_box (by rfl) by_memb (by rfl) by_bd) rfl rfl rfl ?_) | ((with_reducible refine k_store ?_); refine rl_op rfl (op_store_box_whole (by rfl) (by rfl) (V.okc_or (by rfl)) by_upd (by first | rfl | exact tcells_len _ | exact dcells_len _) (by first | rfl | exact tcells_len _ | exact dcells_len _) ?_)) | ((with_reducible refine k_geq ?_); refine rl_pure (pv_geq rfl rfl) rfl rfl rfl ?_) | ((with_reducible refine k_sub ?_); refine rl_pure (pv_sub_in rfl rfl (by omega)) rfl rfl rfl ?_) | ((with_reducible refine k_nilCheck ?_); refine rl_pure (pv_nilCheck rfl) rfl rfl rfl ?_))
  (first | refine ret_r (retok_pick (.cons .here .nil) (ret1 rfl by_res (List.Sublist.refl _) ⟨_, rfl, ?_⟩)) | refine ret_n (retok_pick (.cons .here .nil) (ret1 rfl by_res (List.Sublist.refl _) ⟨_, rfl, ?_⟩)))
  refine ⟨?_, rfl⟩
  rfl
theorem Least24 (t : Typ) (hw : t.wt ≤ 1048576) (h48 : okT t = true → ∀ p, TriR Try.prog 48 [.agg t.cells, ptr p] [.box p 73 [int 4000]] (LeastR t p 4000)) :
    Fun Try.prog 24 [.agg t.cells] (.tup [.agg (lstD t).cells, int (lstE t)]) := by
  have hv := valid12 t hw
  rw [cells_eq] at hv h48 ⊢
  by_cases h0 : vld t = 0
  · have h5 := h48 (vld_ok h0)
    clear h48
    refine Fun.of (TriR.of (tri_of Try.func24 rfl Try.ntmps24 rfl fun j => ?_))
    repeat' (first | (with_reducible first | refine aw_seq ?_ | refine rl_nil ?_ | refine aw_region ?_ | refine then_n ?_ | refine aw_block ?_ | refine then_exit ?_ | refine then_ret ?_ | refine in_n ?_ | refine in_ret ?_ | refine aw_exit ?_ | refine aw_ret ?_ | refine aw_skip ?_ | refine in_exit_eq rfl ?_ | refine awr_succ ?_) | ((with_reducible refine k_move ?_); refine rl_pure (pv_move rfl) rfl rfl rfl ?_) | ((with_reducible refine k_assign ?_); refine rl_pure (pv_assign rfl) rfl rfl rfl ?_) | ((with_reducible refine k_load ?_); refine rl_val (vv_load_box_whole (by rfl) by_memb (by rfl) (by first | rfl | exact tcells_len _ | exact dcells_len _)) rfl rfl rfl ?_) | ((with_reducible refine k_store ?_); refine rl_op rfl (op_store_box_whole (by rfl) (by rfl) (V.okc_or (by rfl)) by_upd (by first | rfl | exact tcells_len _ | exact dcells_len _) (by first | rfl | exact tcells_len _ | exact dcells_len _) ?_)) | ((with_reducible refine k_alloc ?_); refine rl_op rfl (op_alloc (by decide) rfl fun b => ?_)) | ((with_reducible refine k_box ?_); refine rl_op rfl (op_box rfl (V.okc_or (by rfl)) rfl fun b => ?_)) | ((with_reducible refine k_neq ?_); refine rl_pure (pv_neq rfl rfl) rfl rfl rfl ?_) | ((with_reducible refine k_callv ?_); refine rl_op rfl (op_callF rfl rfl (hv) rfl ?_)) | (((with_reducible refine k_cond ?_); refine aw_cond rfl ?_ ?_) <;> intro hb <;> (have hc := hb) <;> (try simp only [decide_eq_true_eq, decide_eq_false_iff_not, Int.not_lt, Int.not_le, ne_eq, Bool.not_eq_true, Bool.not_eq_false, Decidable.not_not] at hc) <;> (try (exfalso; omega)) <;> (try (first | contradiction | (cases hc; done)))))
    all_goals first
    | (exfalso; omega)
    | skip
    (first | refine rl_op rfl (op_callR rfl rfl (.cons .here .nil) (h5 _) rfl ?_) | refine dl_op (by assumption) by_wants (op_callR rfl rfl (.cons .here .nil) (h5 _) rfl ?_))
    rintro _ _ ⟨left', d, is, rfl, rfl, hd⟩
    have hds := dcells_eq d
    rw [hds]
    repeat' (first | (with_reducible first | refine aw_seq ?_ | refine rl_nil ?_ | refine aw_region ?_ | refine then_n ?_ | refine aw_block ?_ | refine then_exit ?_ | refine then_ret ?_ | refine in_n ?_ | refine in_ret ?_ | refine aw_exit ?_ | refine aw_ret ?_ | refine aw_skip ?_ | refine in_exit_eq rfl ?_ | refine awr_succ ?_) | ((with_reducible refine k_move ?_); refine rl_pure (pv_move rfl) rfl rfl rfl ?_) | ((with_reducible refine k_assign ?_); refine rl_pure (pv_assign rfl) rfl rfl rfl ?_) | ((with_reducible refine k_load ?_); refine rl_val (vv_load_box_whole (by rfl) by_memb (by rfl) (by first | rfl | exact tcells_len _ | exact dcells_len _)) rfl rfl rfl ?_) | ((with_reducible refine k_store ?_); refine rl_op rfl (op_store_box_whole (by rfl) (by rfl) (V.okc_or (by rfl)) by_upd (by first | rfl | exact tcells_len _ | exact dcells_len _) (by first | rfl | exact tcells_len _ | exact dcells_len _) ?_)) | ((with_reducible refine k_alloc ?_); refine rl_op rfl (op_alloc (by decide) rfl fun b => ?_)) | ((with_reducible refine k_not ?_); refine rl_pure (pv_not rfl) rfl rfl rfl ?_) | ((with_reducible refine k_extract ?_); refine rl_pure (pv_extract rfl rfl) rfl rfl rfl ?_) | ((with_reducible refine k_build ?_); refine rl_pure (pv_build rfl by_fill) rfl rfl rfl ?_) | (((with_reducible refine k_cond ?_); refine aw_cond rfl ?_ ?_) <;> intro hb <;> (have hc := hb) <;> (try simp only [decide_eq_true_eq, decide_eq_false_iff_not, Int.not_lt, Int.not_le, ne_eq, Bool.not_eq_true, Bool.not_eq_false, Decidable.not_not] at hc) <;> (try (exfalso; omega)) <;> (try (first | contradiction | (cases hc; done)))))
    · have hi : is = false := by simpa using hc
      have hn : ¬ ncT t ≤ 4000 := by rcases hd with ⟨_, _, _, h⟩ | ⟨h, _⟩ <;> first | omega | (rw [hi] at h; cases h)
      have hD : lstD t = D00 := if_neg fun h => hn h.2
      have hE : lstE t = 3 := by rw [lstE, if_pos h0, if_neg hn]
      refine ret_r (retok_box_le 2 (.there (.there .here)) rfl le_nil_ro (retok_box_le 4 (.there (.there .here)) rfl le_nil_ro (ret2 rfl by_res by_res (List.nil_sublist _) ⟨_, rfl, ?_⟩)))
      refine ⟨?_, rfl⟩
      rw [hD, hE]
      rfl
    · have hi : is = true := by simpa using hc
      obtain ⟨hn, rfl⟩ : (ncT t : Int) ≤ 4000 ∧ d = lstT t := by
        rcases hd with ⟨h1, _, h2, _⟩ | ⟨_, h⟩
        · exact ⟨h1, h2⟩
        · rw [hi] at h; cases h
      have hn : ncT t ≤ 4000 := by omega
      have hD : lstD t = lstT t := if_pos ⟨h0, hn⟩
      have hE : lstE t = 0 := by rw [lstE, if_pos h0, if_pos hn]
      (first | refine ret_r (ret2 rfl by_res by_res (List.nil_sublist _) ⟨_, rfl, ?_⟩) | refine ret_n (ret2 rfl by_res by_res (List.nil_sublist _) ⟨_, rfl, ?_⟩))
      refine ⟨?_, rfl⟩
      rw [hD, hE, hds]
  · have hD : lstD t = D00 := if_neg fun h => h0 h.1
    have hE : lstE t = vld t := if_neg h0
    clear h48
    refine Fun.of (TriR.of (tri_of Try.func24 rfl Try.ntmps24 rfl fun j => ?_))
    repeat' (first | (with_reducible first | refine aw_seq ?_ | refine rl_nil ?_ | refine aw_region ?_ | refine then_n ?_ | refine aw_block ?_ | refine then_exit ?_ | refine then_ret ?_ | refine in_n ?_ | refine in_ret ?_ | refine aw_exit ?_ | refine aw_ret ?_ | refine aw_skip ?_ | refine in_exit_eq rfl ?_ | refine awr_succ ?_) | ((with_reducible refine k_move ?_); refine rl_pure (pv_move rfl) rfl rfl rfl ?_) | ((with_reducible refine k_assign ?_); refine rl_pure (pv_assign rfl) rfl rfl rfl ?_) | ((with_reducible refine k_load ?_); refine rl_val (vv_load_box_whole (by rfl) by_memb (by rfl) (by first | rfl | exact tcells_len _ | exact dcells_len _)) rfl rfl rfl ?_) | ((with_reducible refine k_store ?_); refine rl_op rfl (op_store_box_whole (by rfl) (by rfl) (V.okc_or (by rfl)) by_upd (by first | rfl | exact tcells_len _ | exact dcells_len _) (by first | rfl | exact tcells_len _ | exact dcells_len _) ?_)) | ((with_reducible refine k_alloc ?_); refine rl_op rfl (op_alloc (by decide) rfl fun b => ?_)) | ((with_reducible refine k_box ?_); refine rl_op rfl (op_box rfl (V.okc_or (by rfl)) rfl fun b => ?_)) | ((with_reducible refine k_neq ?_); refine rl_pure (pv_neq rfl rfl) rfl rfl rfl ?_) | ((with_reducible refine k_build ?_); refine rl_pure (pv_build rfl by_fill) rfl rfl rfl ?_) | ((with_reducible refine k_callv ?_); refine rl_op rfl (op_callF rfl rfl (hv) rfl ?_)) | (((with_reducible refine k_cond ?_); refine aw_cond rfl ?_ ?_) <;> intro hb <;> (have hc := hb) <;> (try simp only [decide_eq_true_eq, decide_eq_false_iff_not, Int.not_lt, Int.not_le, ne_eq, Bool.not_eq_true, Bool.not_eq_false, Decidable.not_not] at hc) <;> (try (exfalso; omega)) <;> (try (first | contradiction | (cases hc; done)))))
    all_goals first
    | (exfalso; omega)
    | (refine ret_r (retok_box_le 2 .here rfl le_nil_ro (retok_box_le 4 .here rfl le_nil_ro (ret2 rfl by_res by_res (List.nil_sublist _) ⟨_, rfl, ?_⟩)))
       refine ⟨?_, rfl⟩
       rw [hD, hE]
       rfl)
end Go.Proofs.Ytepmllodaoanmaa
