import Derived.Test.YtepmllodaoanmaaK16
set_option linter.unusedVariables false
set_option linter.unusedSimpArgs false
namespace Go.Proofs.Ytepmllodaoanmaa
open Go Go.AX
set_option maxHeartbeats 8000000
set_option maxRecDepth 20000
attribute [local irreducible] AW RL OP PureV ValV HV DL Tri TriR Fun RetOk ResV
theorem width67 (n : Int) (h : n < 9223372036854775808) : Fun Try.prog 67 [int n] (int (width n)) := by
  refine Fun.of (TriR.of (tri_of Try.func67 rfl Try.ntmps67 rfl fun j => ?_))
  repeat' (first | (with_reducible first | refine aw_seq ?_ | refine rl_nil ?_ | refine aw_region ?_ | refine then_n ?_ | refine aw_block ?_ | refine then_exit ?_ | refine then_ret ?_ | refine in_n ?_ | refine in_ret ?_ | refine aw_exit ?_ | refine aw_ret ?_ | refine aw_skip ?_ | refine in_exit_eq rfl ?_ | refine awr_succ ?_) | ((with_reducible refine k_assign ?_); refine rl_pure (pv_assign rfl) rfl rfl rfl ?_))
  refine aw_iter (α := Nat) (fun k => [(0, int n), (3, int k)]) (fun _ => []) (fun k => k ≤ 63 ∧ width n = k + wid (64 - k) (n / 2 ^ k)) (fun k => 64 - k)
    0 ⟨by omega, by simp [width]⟩ (by (repeat (first | exact sub_nil | refine sub_cons (by first | rfl | (simp; done)) ?_))) .nil fun k hI => ?_
  obtain ⟨hk, hE⟩ := hI
  have hsh := ishr_i64 n k (by omega)
  have h63 : n / 2 ^ 63 ≤ 0 := by omega
  have hdd : n / 2 ^ k / 2 = n / 2 ^ (k + 1) := by rw [Int.ediv_ediv_of_nonneg (by exact Int.le_of_lt (Int.pow_pos (by decide))), Int.pow_succ]
  repeat' (first | (with_reducible first | refine aw_seq ?_ | refine rl_nil ?_ | refine aw_region ?_ | refine then_n ?_ | refine aw_block ?_ | refine then_exit ?_ | refine then_ret ?_ | refine in_n ?_ | refine in_ret ?_ | refine aw_exit ?_ | refine aw_ret ?_ | refine aw_skip ?_ | refine in_exit_eq rfl ?_ | refine awr_succ ?_) | ((with_reducible refine k_move ?_); refine rl_pure (pv_move rfl) rfl rfl rfl ?_) | ((with_reducible refine k_assign ?_); refine rl_pure (pv_assign rfl) rfl rfl rfl ?_) | ((with_reducible refine k_gtr ?_); refine rl_pure (pv_gtr rfl rfl) rfl rfl rfl ?_) | ((with_reducible refine k_add ?_); refine rl_pure (pv_add_in rfl rfl (by omega)) rfl rfl rfl ?_) | ((with_reducible refine k_shr ?_); refine rl_pure (pv_shr rfl rfl (by omega)) rfl rfl rfl ?_) | (((with_reducible refine k_cond ?_); refine aw_cond rfl ?_ ?_) <;> ((fail_if_success (refine imp_known (by assumption) ?_)); (intro hb <;> (have hc := hb) <;> (try simp only [decide_eq_true_eq, decide_eq_false_iff_not, Int.not_lt, Int.not_le, ne_eq, Bool.not_eq_true, Bool.not_eq_false, Decidable.not_not] at hc) <;> (try (exfalso; omega)) <;> (try (exfalso; simp only [Bool.not_eq_eq_eq_not, Bool.not_true, Bool.not_false, decide_eq_true_eq, decide_eq_false_iff_not, ne_eq, Decidable.not_not, Int.not_lt, Int.not_le] at hc; omega)) <;> (try (first | contradiction | (cases hc; done))) <;> (try (first | exact absurd (hb.symm.trans (by assumption) : true = false) (by decide) | exact absurd (hb.symm.trans (by assumption) : false = true) (by decide)))))))
  · rw [hsh] at hc
    have hk2 : k ≤ 62 := by
      rcases Nat.lt_or_ge k 63 with g | g
      · omega
      · obtain rfl : k = 63 := by omega
        omega
    obtain ⟨f, hf⟩ : ∃ f, 64 - k = f + 1 := ⟨63 - k, by omega⟩
    rw [hf, wid, if_pos hc, hdd, show f = 64 - (k + 1) by omega] at hE
    exact next_of (R := []) (k + 1) ⟨by omega, by rw [hE]; omega⟩ (by omega) (by (repeat (first | exact sub_nil | refine sub_cons (by first | rfl | (simp; done)) ?_))) .nil
  · rw [hsh] at hc
    obtain ⟨f, hf⟩ : ∃ f, 64 - k = f + 1 := ⟨63 - k, by omega⟩
    rw [hf, wid, if_neg (by omega)] at hE
    (first | refine ret_r (ret1 rfl by_res (List.nil_sublist _) ⟨_, rfl, ?_⟩) | refine ret_n (ret1 rfl by_res (List.nil_sublist _) ⟨_, rfl, ?_⟩))
    exact ⟨by rw [hE, Int.add_zero], rfl⟩
/-- A size from 0 to 2 to the 52. -/
def cap (n : Int) : Int := if n < 0 then 0 else if n ≤ 4503599627370496 then n else 4503599627370496

theorem plus71 (p1 p2 q1 q2 : Int) (ha : 0 ≤ p1 ∧ p1 ≤ 4503599627370496) (hb' : 0 ≤ p2 ∧ p2 ≤ 4503599627370496) (hc' : 0 ≤ q1 ∧ q1 ≤ 4503599627370496) (hd : 0 ≤ q2 ∧ q2 ≤ 4503599627370496) :
    Fun Try.prog 71 [.agg [int p1, int p2], .agg [int q1, int q2]] (.agg [int (cap (p1 + q1)), int (cap (p2 + q2))]) := by
  refine Fun.of (TriR.of (tri_of Try.func71 rfl Try.ntmps71 rfl fun j => ?_))
  repeat' (first | (with_reducible first | refine aw_seq ?_ | refine rl_nil ?_ | refine aw_region ?_ | refine then_n ?_ | refine aw_block ?_ | refine then_exit ?_ | refine then_ret ?_ | refine in_n ?_ | refine in_ret ?_ | refine aw_exit ?_ | refine aw_ret ?_ | refine aw_skip ?_ | refine in_exit_eq rfl ?_ | refine awr_succ ?_) | ((with_reducible refine k_load ?_); refine rl_val (vv_load_box (by rfl) by_memb (by rfl) by_bd) rfl rfl rfl ?_) | ((with_reducible refine k_fieldAddr ?_); refine rl_pure (pv_fieldAddr rfl) rfl rfl rfl ?_) | ((with_reducible refine k_store ?_); refine rl_op rfl (op_store_box_whole (by rfl) (by rfl) (V.okc_or (by rfl)) by_upd (by first | rfl | exact tcells_len _) (by first | rfl | exact tcells_len _) ?_)) | ((with_reducible refine k_alloc ?_); refine rl_op rfl (op_alloc (by decide) rfl fun b => ?_)) | ((with_reducible refine k_box ?_); refine rl_op rfl (op_box rfl (V.okc_or (by rfl)) rfl fun b => ?_)) | ((with_reducible refine k_add ?_); refine rl_pure (pv_add_in rfl rfl (by omega)) rfl rfl rfl ?_) | ((with_reducible refine k_min ?_); refine rl_pure (pv_min2 rfl rfl) rfl rfl rfl ?_) | ((with_reducible refine k_build ?_); refine rl_pure (pv_build rfl by_fill) rfl rfl rfl ?_))
  all_goals
    (first | refine ret_r (ret1 rfl by_res (List.nil_sublist _) ⟨_, rfl, ?_⟩) | refine ret_n (ret1 rfl by_res (List.nil_sublist _) ⟨_, rfl, ?_⟩))
    refine ⟨?_, rfl⟩
    rw [show cap (p1 + q1) = min (p1 + q1) 4503599627370496 by unfold cap; omega, show cap (p2 + q2) = min (p2 + q2) 4503599627370496 by unfold cap; omega]
theorem times72 (p1 p2 q1 q2 : Int) (ha : 0 ≤ p1 ∧ p1 ≤ 4503599627370496) (hb' : 0 ≤ p2 ∧ p2 ≤ 4503599627370496) (hc' : 0 ≤ q1 ∧ q1 ≤ 255) (hd : 0 ≤ q2 ∧ q2 ≤ 255) :
    Fun Try.prog 72 [.agg [int p1, int p2], int q1, int q2] (.agg [int (cap (p1 * q1)), int (cap (p2 * q2))]) := by
  have h1 : 0 ≤ p1 * q1 ∧ p1 * q1 ≤ 4503599627370496 * 255 := ⟨Int.mul_nonneg ha.1 hc'.1, Int.mul_le_mul ha.2 hc'.2 hc'.1 (by decide)⟩
  have h2 : 0 ≤ p2 * q2 ∧ p2 * q2 ≤ 4503599627370496 * 255 := ⟨Int.mul_nonneg hb'.1 hd.1, Int.mul_le_mul hb'.2 hd.2 hd.1 (by decide)⟩
  refine Fun.of (TriR.of (tri_of Try.func72 rfl Try.ntmps72 rfl fun j => ?_))
  repeat' (first | (with_reducible first | refine aw_seq ?_ | refine rl_nil ?_ | refine aw_region ?_ | refine then_n ?_ | refine aw_block ?_ | refine then_exit ?_ | refine then_ret ?_ | refine in_n ?_ | refine in_ret ?_ | refine aw_exit ?_ | refine aw_ret ?_ | refine aw_skip ?_ | refine in_exit_eq rfl ?_ | refine awr_succ ?_) | ((with_reducible refine k_move ?_); refine rl_pure (pv_move rfl) rfl rfl rfl ?_) | ((with_reducible refine k_load ?_); refine rl_val (vv_load_box (by rfl) by_memb (by rfl) by_bd) rfl rfl rfl ?_) | ((with_reducible refine k_fieldAddr ?_); refine rl_pure (pv_fieldAddr rfl) rfl rfl rfl ?_) | ((with_reducible refine k_store ?_); refine rl_op rfl (op_store_box_whole (by rfl) (by rfl) (V.okc_or (by rfl)) by_upd (by first | rfl | exact tcells_len _) (by first | rfl | exact tcells_len _) ?_)) | ((with_reducible refine k_alloc ?_); refine rl_op rfl (op_alloc (by decide) rfl fun b => ?_)) | ((with_reducible refine k_box ?_); refine rl_op rfl (op_box rfl (V.okc_or (by rfl)) rfl fun b => ?_)) | ((with_reducible refine k_mul ?_); refine rl_pure (pv_mul_in rfl rfl (by omega)) rfl rfl rfl ?_) | ((with_reducible refine k_min ?_); refine rl_pure (pv_min2 rfl rfl) rfl rfl rfl ?_) | ((with_reducible refine k_build ?_); refine rl_pure (pv_build rfl by_fill) rfl rfl rfl ?_))
  all_goals
    (first | refine ret_r (ret1 rfl by_res (List.nil_sublist _) ⟨_, rfl, ?_⟩) | refine ret_n (ret1 rfl by_res (List.nil_sublist _) ⟨_, rfl, ?_⟩))
    refine ⟨?_, rfl⟩
    generalize p1 * q1 = ee at *
    generalize p2 * q2 = ff at *
    rw [show cap ee = min ee 4503599627370496 by unfold cap; omega, show cap ff = min ff 4503599627370496 by unfold cap; omega]
end Go.Proofs.Ytepmllodaoanmaa
