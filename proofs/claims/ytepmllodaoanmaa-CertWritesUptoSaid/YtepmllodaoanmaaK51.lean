import Derived.Test.YtepmllodaoanmaaK42
import Derived.Test.YtepmllodaoanmaaK4
set_option linter.unusedVariables false
set_option linter.unusedSimpArgs false
namespace Go.Proofs.Ytepmllodaoanmaa
open Go Go.AX
set_option maxHeartbeats 8000000
set_option maxRecDepth 20000
attribute [local irreducible] AW RL OP PureV ValV HV DL DX Tri TriR Fun RetOk ResV
/-- Whether a number is one of k bytes, as two's complement. -/
def nfit (k : Nat) (n : Int) : Bool := decide (-(2 ^ (8 * k - 1)) ≤ n ∧ n < 2 ^ (8 * k - 1))
def nkF : Nat → Nat → Int → Nat
  | 0, k, _ => k
  | f + 1, k, n => if nfit k n = true then k else nkF f (k + 1) n
/-- The bytes of a number, the first one ahead. -/
def numB : Nat → Int → List Int
  | 0, _ => []
  | k + 1, n => (n / 256 ^ k) % 256 :: numB k n
def numL (n : Int) : List Int := numB (nkF 7 1 n) n
theorem numB_len : ∀ (k : Nat) (n : Int), (numB k n).length = k
  | 0, _ => rfl
  | k + 1, n => by rw [numB, List.length_cons, numB_len k n]
theorem numB_byt : ∀ (k : Nat) (n : Int), Byt (numB k n)
  | 0, _ => fun x hx => by cases hx
  | k + 1, n => fun x hx => by
    rw [numB] at hx
    rcases List.mem_cons.1 hx with rfl | hx
    · omega
    · exact numB_byt k n x hx
theorem nkF_range : ∀ (f k : Nat) (n : Int), k ≤ nkF f k n ∧ nkF f k n ≤ k + f
  | 0, k, n => by rw [nkF]; omega
  | f + 1, k, n => by
    have := nkF_range f (k + 1) n
    rw [nkF]
    split <;> omega
theorem numL_len (n : Int) : (numL n).length ≤ 8 := by
  unfold numL
  rw [numB_len]
  have := nkF_range 7 1 n
  omega
theorem numL_byt (n : Int) : Byt (numL n) := numB_byt _ _
/-- What is left of a number is all its sign exactly where it is one of as many bytes. -/
theorem nfit_sh (r : Nat) (n : Int) : nfit (r + 1) n = decide (n / 2 ^ (7 + 8 * r) = 0 ∨ n / 2 ^ (7 + 8 * r) = -1) := by
  unfold nfit
  rw [show 8 * (r + 1) - 1 = 7 + 8 * r by omega]
  have hp : (0 : Int) < 2 ^ (7 + 8 * r) := Int.pow_pos (by decide)
  generalize (2 : Int) ^ (7 + 8 * r) = p at hp
  apply decide_eq_decide.2
  have h1 := Int.ediv_mul_add_emod n p
  have h2 := Int.emod_nonneg n (Int.ne_of_gt hp)
  have h3 := Int.emod_lt_of_pos n hp
  generalize n / p = q at h1 ⊢
  generalize n % p = e at h1 h2 h3
  constructor
  · intro h
    rcases Int.lt_or_le q 0 with g | g
    · right
      rcases Int.lt_or_le q (-1) with g2 | g2
      · exfalso
        have : q * p ≤ (-2) * p := Int.mul_le_mul_of_nonneg_right (by omega) (by omega)
        omega
      · omega
    · left
      rcases Int.lt_or_le 0 q with g2 | g2
      · exfalso
        have : 1 * p ≤ q * p := Int.mul_le_mul_of_nonneg_right (by omega) (by omega)
        omega
      · omega
  · rintro (rfl | rfl)
    · omega
    · omega
theorem nfit6 {n : Int} (h : -1099511627776 ≤ n ∧ n ≤ 1099511627776) : nfit 6 n = true := by
  unfold nfit
  exact decide_eq_true (by have : (2 : Int) ^ (8 * 6 - 1) = 140737488355328 := rfl; omega)
theorem number80 (t : Typ) (d : Dat) (p : Nat) (h : -1099511627776 ≤ d.n ∧ d.n ≤ 1099511627776) : Fun Try.prog 80 [ptr p, .agg t.cells, .agg d.cells] (.ro ((numL d.n).map br)) := by
  rw [cells_eq, dcells_eq]
  generalize d.n = n at h
  have h6 := nfit6 h
  refine Fun.of (TriR.of (tri_of Try.func80 rfl Try.ntmps80 rfl fun j => ?_))
  repeat' (first | (with_reducible first | refine aw_seq ?_ | refine rl_nil ?_ | refine aw_region ?_ | refine then_n ?_ | refine aw_block ?_ | refine then_exit ?_ | refine then_ret ?_ | refine in_n ?_ | refine in_ret ?_ | refine aw_exit ?_ | refine aw_ret ?_ | refine aw_skip ?_ | refine in_exit_eq rfl ?_ | refine awr_succ ?_) | ((with_reducible refine k_assign ?_); refine rl_pure (pv_assign rfl) rfl rfl rfl ?_) | ((with_reducible refine k_load ?_); refine rl_val (vv_load_box (by rfl) by_memb (by rfl) by_bd) rfl rfl rfl ?_) | ((with_reducible refine k_fieldAddr ?_); refine rl_pure (pv_fieldAddr rfl) rfl rfl rfl ?_) | ((with_reducible refine k_box ?_); refine rl_op rfl (op_box rfl (V.okc_or (by rfl)) rfl fun b => ?_)) | ((with_reducible refine k_shr ?_); refine rl_pure (pv_shr rfl rfl (by omega)) rfl rfl rfl ?_) | ((with_reducible refine k_buildSlice ?_); refine rl_op rfl (op_buildSlice_ro rfl rfl rfl (by rfl) (by rfl) (by rfl) (by rfl) rfl by_rows ?_)) | ((with_reducible refine k_convert ?_); refine rl_pure (pv_convert_u8 rfl) rfl rfl rfl ?_))
  have hs0 : ishr .i64 n 7 = n / 2 ^ (7 + 8 * 0) := ishr_i64 n 7 (by decide)
  refine aw_iter (α := Nat) (fun r => [(7, .ro ((numB (r + 1) n).map br)), (8, int (n / 2 ^ (7 + 8 * r)))]) (fun _ => []) (fun r => r ≤ 5 ∧ numL n = numB (nkF (7 - r) (r + 1) n) n) (fun r => 6 - r)
    0 ⟨by omega, rfl⟩ (by rw [← hs0, show numB (0 + 1) n = [n % 256] by simp [numB]]; (repeat (first | exact sub_nil | refine sub_cons (by first | rfl | (simp; done)) ?_))) .nil fun r hI => ?_
  obtain ⟨hr, hE⟩ := hI
  have hsh := nfit_sh r n
  rw [show 7 - r = (6 - r) + 1 by omega, nkF] at hE
  have hw1 : n / 2 ^ (7 + 8 * r) / 2 = n / 256 ^ (r + 1) := by
    rw [Int.ediv_ediv_of_nonneg (by exact Int.le_of_lt (Int.pow_pos (by decide))), ← Int.pow_succ, show (256 : Int) = 2 ^ 8 from rfl, ← Int.pow_mul, show (7 + 8 * r).succ = 8 * (r + 1) by omega]
  have hw2 : n / 2 ^ (7 + 8 * r) / 2 ^ 8 = n / 2 ^ (7 + 8 * (r + 1)) := by
    rw [Int.ediv_ediv_of_nonneg (by exact Int.le_of_lt (Int.pow_pos (by decide))), ← Int.pow_add, show 7 + 8 * r + 8 = 7 + 8 * (r + 1) by omega]
  have hnl := numB_len (r + 1) n
  have hnx : numB (r + 1 + 1) n = (n / 2 ^ (7 + 8 * r) / 2) % 256 :: numB (r + 1) n := by rw [hw1]; rfl
  generalize n / 2 ^ (7 + 8 * r) = w at hsh hw1 hw2 hnx ⊢
  have hs1 : ishr .i64 w 1 = w / 2 := by have := ishr_i64 w 1 (by decide); simpa using this
  have hs8 : ishr .i64 w 8 = w / 2 ^ 8 := ishr_i64 w 8 (by decide)
  repeat' (first | (with_reducible first | refine aw_seq ?_ | refine rl_nil ?_ | refine aw_region ?_ | refine then_n ?_ | refine aw_block ?_ | refine then_exit ?_ | refine then_ret ?_ | refine in_n ?_ | refine in_ret ?_ | refine aw_exit ?_ | refine aw_ret ?_ | refine aw_skip ?_ | refine in_exit_eq rfl ?_ | refine awr_succ ?_) | ((with_reducible refine k_move ?_); refine rl_pure (pv_move rfl) rfl rfl rfl ?_) | ((with_reducible refine k_assign ?_); refine rl_pure (pv_assign rfl) rfl rfl rfl ?_) | ((with_reducible refine k_neq ?_); refine rl_pure (pv_neq rfl rfl) rfl rfl rfl ?_) | ((with_reducible refine k_shr ?_); refine rl_pure (pv_shr rfl rfl (by omega)) rfl rfl rfl ?_) | ((with_reducible refine k_pick ?_); (first | refine rl_pure (pv_pick_t rfl by_bd rfl) rfl rfl rfl ?_ | refine rl_pure (pv_pick_f rfl by_bd rfl) rfl rfl rfl ?_)) | ((with_reducible refine k_convert ?_); refine rl_pure (pv_convert_u8 rfl) rfl rfl rfl ?_) | ((with_reducible refine k_guard ?_); (first | refine rl_on_yes rfl rfl rfl by_bd rfl ?_ | refine rl_off_t rfl rfl rfl by_bd rfl ?_)) | ((with_reducible refine k_cond ?_); refine aw_cond_f rfl ?_) | (((with_reducible refine k_guard ?_); first | refine rl_if_t rfl rfl rfl rfl ?_ ?_ | refine rl_if_f rfl rfl rfl rfl ?_ ?_) <;> ((fail_if_success (refine imp_known (by assumption) ?_)); (intro hb <;> (have hc := hb) <;> (try simp only [decide_eq_true_eq, decide_eq_false_iff_not, Int.not_lt, Int.not_le, ne_eq, Bool.not_eq_true, Bool.not_eq_false, Decidable.not_not] at hc) <;> (try (exfalso; omega)) <;> (try (exfalso; simp only [Bool.not_eq_eq_eq_not, Bool.not_true, Bool.not_false, decide_eq_true_eq, decide_eq_false_iff_not, ne_eq, Decidable.not_not, Int.not_lt, Int.not_le] at hc; omega)) <;> (try (first | contradiction | (cases hc; done))) <;> (try (first | exact absurd (hb.symm.trans (by assumption) : true = false) (by decide) | exact absurd (hb.symm.trans (by assumption) : false = true) (by decide)))))) | (((with_reducible refine k_cond ?_); refine aw_cond rfl ?_ ?_) <;> ((fail_if_success (refine imp_known (by assumption) ?_)); (intro hb <;> (have hc := hb) <;> (try simp only [decide_eq_true_eq, decide_eq_false_iff_not, Int.not_lt, Int.not_le, ne_eq, Bool.not_eq_true, Bool.not_eq_false, Decidable.not_not] at hc) <;> (try (exfalso; omega)) <;> (try (exfalso; simp only [Bool.not_eq_eq_eq_not, Bool.not_true, Bool.not_false, decide_eq_true_eq, decide_eq_false_iff_not, ne_eq, Decidable.not_not, Int.not_lt, Int.not_le] at hc; omega)) <;> (try (first | contradiction | (cases hc; done))) <;> (try (first | exact absurd (hb.symm.trans (by assumption) : true = false) (by decide) | exact absurd (hb.symm.trans (by assumption) : false = true) (by decide)))))))
  · (first | refine rl_op rfl (op_buildSlice rfl rfl rfl (by rfl) (by rfl) (by rfl) (by rfl) rfl fun sv => ?_) | (refine dl_op (by assumption) by_wants (op_buildSlice rfl rfl rfl (by rfl) (by rfl) (by rfl) (by rfl) rfl fun sv => ?_); intro jd hjd))
    repeat' ((with_reducible refine k_move ?_); refine rl_pure (pv_move rfl) rfl rfl rfl ?_)
    (first | refine rl_op rfl (op_append rfl .here rfl rfl rfl rfl (by first | (intro r hr; obtain ⟨_, _, rfl⟩ := List.mem_map.1 hr; rfl) | (simp; done) | (simp [V.cells]; done)) by_small rfl fun sv' => ?_) | (refine dl_op (by assumption) by_wants (op_append rfl .here rfl rfl rfl rfl (by first | (intro r hr; obtain ⟨_, _, rfl⟩ := List.mem_map.1 hr; rfl) | (simp; done) | (simp [V.cells]; done)) by_small rfl fun sv' => ?_); intro jd hjd))
    refine rl_freeze (d := 29) rfl by_take ?_
    repeat' (first | (with_reducible first | refine aw_seq ?_ | refine rl_nil ?_ | refine aw_region ?_ | refine then_n ?_ | refine aw_block ?_ | refine then_exit ?_ | refine then_ret ?_ | refine in_n ?_ | refine in_ret ?_ | refine aw_exit ?_ | refine aw_ret ?_ | refine aw_skip ?_ | refine in_exit_eq rfl ?_ | refine awr_succ ?_) | ((with_reducible refine k_move ?_); refine rl_pure (pv_move rfl) rfl rfl rfl ?_) | ((with_reducible refine k_assign ?_); refine rl_pure (pv_assign rfl) rfl rfl rfl ?_) | ((with_reducible refine k_shr ?_); refine rl_pure (pv_shr rfl rfl (by omega)) rfl rfl rfl ?_))
    have hnf : nfit (r + 1) n = false := by rw [hsh]; exact decide_eq_false (by omega)
    rw [hnf, if_neg (by simp)] at hE
    have hr5 : r ≠ 5 := fun e => by rw [e, h6] at hnf; cases hnf
    exact next_of (R := []) (r + 1) ⟨by omega, by rw [show 7 - (r + 1) = 6 - r by omega]; exact hE⟩ (by omega) (by rw [← hw2, ← hs8, hnx, ← hs1]; (repeat (first | exact sub_nil | refine sub_cons (by first | rfl | (simp; done)) ?_))) .nil
  all_goals
    have hnf : nfit (r + 1) n = true := by rw [hsh]; exact decide_eq_true (by omega)
    rw [hnf, if_pos rfl] at hE
    (first | refine ret_r (ret1 rfl by_res (List.nil_sublist _) ⟨_, rfl, ?_⟩) | refine ret_n (ret1 rfl by_res (List.nil_sublist _) ⟨_, rfl, ?_⟩))
    exact ⟨by rw [hE], rfl⟩
theorem numB_take : ∀ {k q : Nat} {n : Int}, q < k → (numB k n).take (k - q) = (numB k n).take (k - (q + 1)) ++ [n / 256 ^ q % 256]
  | 0, q, n, h => by omega
  | k + 1, q, n, h => by
    rw [numB]
    by_cases e : q = k
    · subst e
      rw [show q + 1 - q = 1 by omega, show q + 1 - (q + 1) = 0 by omega]
      rfl
    · rw [show k + 1 - q = (k - q) + 1 by omega, show k + 1 - (q + 1) = (k - (q + 1)) + 1 by omega, List.take_succ_cons, List.take_succ_cons, numB_take (by omega)]
      rfl
theorem number86 (n : Int) (h : -1099511627776 ≤ n ∧ n ≤ 1099511627776) : Fun Try.prog 86 [int n] (.ro ((numL n).map br)) := by
  have h6 := nfit6 h
  refine Fun.of (TriR.of (tri_of Try.func86 rfl Try.ntmps86 rfl fun j => ?_))
  refine aw_seq ?_
  repeat' (first | (with_reducible first | refine aw_seq ?_ | refine rl_nil ?_ | refine aw_region ?_ | refine then_n ?_ | refine aw_block ?_ | refine then_exit ?_ | refine then_ret ?_ | refine in_n ?_ | refine in_ret ?_ | refine aw_exit ?_ | refine aw_ret ?_ | refine aw_skip ?_ | refine in_exit_eq rfl ?_ | refine awr_succ ?_) | ((with_reducible refine k_assign ?_); refine rl_pure (pv_assign rfl) rfl rfl rfl ?_))
  refine aw_iter (α := Nat) (fun k => [(0, int n), (3, int k)]) (fun _ => []) (fun k => 1 ≤ k ∧ k ≤ 6 ∧ numL n = numB (nkF (8 - k) k n) n) (fun k => 7 - k)
    1 ⟨by omega, by omega, rfl⟩ (by (repeat (first | exact sub_nil | refine sub_cons (by first | rfl | (simp; done)) ?_))) .nil fun k hI => ?_
  obtain ⟨hk1, hk6, hE⟩ := hI
  rw [show 8 - k = (7 - k) + 1 by omega, nkF] at hE
  obtain ⟨p, hp⟩ : ∃ p : Int, (2 : Int) ^ (8 * k - 1) = p := ⟨_, rfl⟩
  have hpb : 0 < p ∧ p ≤ 140737488355328 := by
    rw [← hp]
    have e1 : ((2 : Int) ^ (8 * k - 1)) = ((2 ^ (8 * k - 1) : Nat) : Int) := by simp
    have e2 : 2 ^ (8 * k - 1) ≤ 2 ^ 47 := Nat.pow_le_pow_right (by decide) (by omega)
    have e3 := Nat.two_pow_pos (8 * k - 1)
    omega
  have hsh : ishl .i64 1 (8 * (k : Int) - 1) = p := by
    unfold ishl
    rw [show min (8 * (k : Int) - 1).toNat IntKind.i64.bits = 8 * k - 1 by simp only [IntKind.bits]; omega, Int.one_mul, hp, IntWalk.i64_in _ (by omega)]
  have hfit : nfit k n = decide (-p ≤ n ∧ n < p) := by unfold nfit; rw [hp]
  repeat' (first | (with_reducible first | refine aw_seq ?_ | refine rl_nil ?_ | refine aw_region ?_ | refine then_n ?_ | refine aw_block ?_ | refine then_exit ?_ | refine then_ret ?_ | refine in_n ?_ | refine in_ret ?_ | refine aw_exit ?_ | refine aw_ret ?_ | refine aw_skip ?_ | refine in_exit_eq rfl ?_ | refine awr_succ ?_) | ((with_reducible refine k_move ?_); refine rl_pure (pv_move rfl) rfl rfl rfl ?_) | ((with_reducible refine k_assign ?_); refine rl_pure (pv_assign rfl) rfl rfl rfl ?_) | ((with_reducible refine k_lss ?_); refine rl_pure (pv_lss rfl rfl) rfl rfl rfl ?_) | ((with_reducible refine k_geq ?_); refine rl_pure (pv_geq rfl rfl) rfl rfl rfl ?_) | ((with_reducible refine k_add ?_); refine rl_pure (pv_add_in rfl rfl (by omega)) rfl rfl rfl ?_) | ((with_reducible refine k_sub ?_); refine rl_pure (pv_sub_in rfl rfl (by omega)) rfl rfl rfl ?_) | ((with_reducible refine k_mul ?_); refine rl_pure (pv_mul_in rfl rfl (by omega)) rfl rfl rfl ?_) | ((with_reducible refine k_neg ?_); refine rl_pure (pv_neg_in rfl (by omega)) rfl rfl rfl ?_) | ((with_reducible refine k_shl ?_); refine rl_pure (pv_shl rfl rfl (by omega)) rfl rfl rfl ?_) | ((with_reducible refine k_pick ?_); (first | refine rl_pure (pv_pick_t rfl by_bd rfl) rfl rfl rfl ?_ | refine rl_pure (pv_pick_f rfl by_bd rfl) rfl rfl rfl ?_)) | ((with_reducible refine k_guard ?_); (first | refine rl_on_yes rfl rfl rfl by_bd rfl ?_ | refine rl_off_f rfl rfl rfl by_bd rfl ?_)) | ((with_reducible refine k_cond ?_); refine aw_cond_t rfl ?_) | (((with_reducible refine k_guard ?_); first | refine rl_if_t rfl rfl rfl rfl ?_ ?_ | refine rl_if_f rfl rfl rfl rfl ?_ ?_) <;> ((fail_if_success (refine imp_known (by assumption) ?_)); (intro hb <;> (have hc := hb) <;> (try simp only [decide_eq_true_eq, decide_eq_false_iff_not, Int.not_lt, Int.not_le, ne_eq, Bool.not_eq_true, Bool.not_eq_false, Decidable.not_not] at hc) <;> (try (exfalso; omega)) <;> (try (exfalso; simp only [Bool.not_eq_eq_eq_not, Bool.not_true, Bool.not_false, decide_eq_true_eq, decide_eq_false_iff_not, ne_eq, Decidable.not_not, Int.not_lt, Int.not_le] at hc; omega)) <;> (try (first | contradiction | (cases hc; done))) <;> (try (first | exact absurd (hb.symm.trans (by assumption) : true = false) (by decide) | exact absurd (hb.symm.trans (by assumption) : false = true) (by decide)))))) | (((with_reducible refine k_cond ?_); refine aw_cond rfl ?_ ?_) <;> ((fail_if_success (refine imp_known (by assumption) ?_)); (intro hb <;> (have hc := hb) <;> (try simp only [decide_eq_true_eq, decide_eq_false_iff_not, Int.not_lt, Int.not_le, ne_eq, Bool.not_eq_true, Bool.not_eq_false, Decidable.not_not] at hc) <;> (try (exfalso; omega)) <;> (try (exfalso; simp only [Bool.not_eq_eq_eq_not, Bool.not_true, Bool.not_false, decide_eq_true_eq, decide_eq_false_iff_not, ne_eq, Decidable.not_not, Int.not_lt, Int.not_le] at hc; omega)) <;> (try (first | contradiction | (cases hc; done))) <;> (try (first | exact absurd (hb.symm.trans (by assumption) : true = false) (by decide) | exact absurd (hb.symm.trans (by assumption) : false = true) (by decide)))))))
  all_goals first
  | (have hnf : nfit k n = false := by rw [hfit]; exact decide_eq_false (by omega)
     rw [hnf, if_neg (by simp)] at hE
     have hr5 : k ≠ 6 := fun e => by rw [e, h6] at hnf; cases hnf
     exact next_of (R := []) (k + 1) ⟨by omega, by omega, by rw [show 8 - (k + 1) = 7 - k by omega]; exact hE⟩ (by omega) (by (repeat (first | exact sub_nil | refine sub_cons (by first | rfl | (simp; done)) ?_))) .nil)
  | skip
  have hnf : nfit k n = true := by rw [hfit]; exact decide_eq_true (by omega)
  rw [hnf, if_pos rfl] at hE
  refine aw_nil_own 4 5 1 rfl ?_
  refine aw_iter (α := Nat × Value) (fun q => [(0, int n), (4, .own q.2), (5, int ((q.1 : Int) - 1))])
    (fun q => [.vec q.2 5 1 (((numB k n).take (k - q.1)).map br)]) (fun q => q.1 ≤ k) (fun q => q.1)
    (k, .slice none 0 0) (Nat.le_refl _) (by (repeat (first | exact sub_nil | refine sub_cons (by first | rfl | (simp; done)) ?_))) (by rw [Nat.sub_self, List.take_zero]; exact (.cons .here .nil)) fun q hI => ?_
  obtain ⟨r, sv1⟩ := q
  dsimp only at hI ⊢
  rcases r with _ | q
  · repeat' (first | (with_reducible first | refine aw_seq ?_ | refine rl_nil ?_ | refine aw_region ?_ | refine then_n ?_ | refine aw_block ?_ | refine then_exit ?_ | refine then_ret ?_ | refine in_n ?_ | refine in_ret ?_ | refine aw_exit ?_ | refine aw_ret ?_ | refine aw_skip ?_ | refine in_exit_eq rfl ?_ | refine awr_succ ?_) | ((with_reducible refine k_move ?_); refine rl_pure (pv_move rfl) rfl rfl rfl ?_) | ((with_reducible refine k_assign ?_); refine rl_pure (pv_assign rfl) rfl rfl rfl ?_) | ((with_reducible refine k_geq ?_); refine rl_pure (pv_geq rfl rfl) rfl rfl rfl ?_) | ((with_reducible refine k_cond ?_); refine aw_cond_f rfl ?_))
    all_goals first
    | (exfalso; omega)
    | skip
    refine ret_r (retok_freeze (d := 2) rfl .here (ret1 rfl by_res (List.nil_sublist _) ⟨_, rfl, ?_⟩))
    rw [Nat.sub_zero, List.take_of_length_le (Nat.le_of_eq (numB_len k n))]
    exact ⟨by rw [hE], rfl⟩
  · rw [show ((q + 1 : Nat) : Int) - 1 = (q : Int) by omega]
    have htk := numB_take (n := n) hI
    have htl : ((numB k n).take (k - (q + 1))).length ≤ 6 := by rw [List.length_take, numB_len]; omega
    have hs : ishr .i64 n (8 * (q : Int)) = n / 256 ^ q := by
      have := ishr_i64 n (8 * q) (by omega)
      rw [Int.natCast_mul] at this
      rw [show (8 : Int) * (q : Int) = ((8 : Nat) : Int) * (q : Int) from rfl, this, Int.pow_mul]
      rfl
    repeat' (first | (with_reducible first | refine aw_seq ?_ | refine rl_nil ?_ | refine aw_region ?_ | refine then_n ?_ | refine aw_block ?_ | refine then_exit ?_ | refine then_ret ?_ | refine in_n ?_ | refine in_ret ?_ | refine aw_exit ?_ | refine aw_ret ?_ | refine aw_skip ?_ | refine in_exit_eq rfl ?_ | refine awr_succ ?_) | ((with_reducible refine k_move ?_); refine rl_pure (pv_move rfl) rfl rfl rfl ?_) | ((with_reducible refine k_geq ?_); refine rl_pure (pv_geq rfl rfl) rfl rfl rfl ?_) | ((with_reducible refine k_mul ?_); refine rl_pure (pv_mul_in rfl rfl (by omega)) rfl rfl rfl ?_) | ((with_reducible refine k_shr ?_); refine rl_pure (pv_shr rfl rfl (by omega)) rfl rfl rfl ?_) | ((with_reducible refine k_buildSlice ?_); refine rl_op rfl (op_buildSlice_ro rfl rfl rfl (by rfl) (by rfl) (by rfl) (by rfl) rfl by_rows ?_)) | ((with_reducible refine k_convert ?_); refine rl_pure (pv_convert_u8 rfl) rfl rfl rfl ?_) | ((with_reducible refine k_cond ?_); refine aw_cond_t rfl ?_))
    all_goals first
    | (exfalso; omega)
    | skip
    (first | refine rl_op rfl (op_append rfl .here rfl rfl rfl rfl (by first | (intro r hr; obtain ⟨_, _, rfl⟩ := List.mem_map.1 hr; rfl) | (simp; done) | (simp [V.cells]; done)) by_small rfl fun sv' => ?_) | (refine dl_op (by assumption) by_wants (op_append rfl .here rfl rfl rfl rfl (by first | (intro r hr; obtain ⟨_, _, rfl⟩ := List.mem_map.1 hr; rfl) | (simp; done) | (simp [V.cells]; done)) by_small rfl fun sv' => ?_); intro jd hjd))
    repeat' (first | (with_reducible first | refine aw_seq ?_ | refine rl_nil ?_ | refine aw_region ?_ | refine then_n ?_ | refine aw_block ?_ | refine then_exit ?_ | refine then_ret ?_ | refine in_n ?_ | refine in_ret ?_ | refine aw_exit ?_ | refine aw_ret ?_ | refine aw_skip ?_ | refine in_exit_eq rfl ?_ | refine awr_succ ?_) | ((with_reducible refine k_move ?_); refine rl_pure (pv_move rfl) rfl rfl rfl ?_) | ((with_reducible refine k_assign ?_); refine rl_pure (pv_assign rfl) rfl rfl rfl ?_) | ((with_reducible refine k_sub ?_); refine rl_pure (pv_sub_in rfl rfl (by omega)) rfl rfl rfl ?_))
    exact next_of (R := []) (q, sv') (by omega) (by dsimp only; omega) (by (repeat (first | exact sub_nil | refine sub_cons (by first | rfl | (simp; done)) ?_))) (by dsimp only; rw [htk, List.map_append, ← hs]; exact (.cons .here .nil))
end Go.Proofs.Ytepmllodaoanmaa
