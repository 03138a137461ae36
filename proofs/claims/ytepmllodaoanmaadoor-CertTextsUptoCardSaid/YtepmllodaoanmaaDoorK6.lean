import Derived.Test.YtepmllodaoanmaaDoorK5
set_option linter.unusedVariables false
set_option linter.unusedSimpArgs false
namespace Go.Proofs.YtepmllodaoanmaaDoor
open Go Go.AX
set_option maxHeartbeats 8000000
set_option maxRecDepth 20000
attribute [local irreducible] AW RL OP PureV ValV HV DL DX Tri TriR Fun RetOk ResV
/-- Whether a number is one of k bytes, as two's complement. -/
def nfit (k : Nat) (n : Int) : Bool := decide (-(2 ^ (8 * k - 1)) ≤ n ∧ n < 2 ^ (8 * k - 1))
def nkF : Nat → Nat → Int → Nat
  | 0, k, _ => k
  | f + 1, k, n => if nfit k n = true then k else nkF f (k + 1) n
/-- The bytes of a number, the first one ahead. -/
def numB : Nat → Int → List Int
  | 0, _ => []
  | k + 1, n => (n / 256 ^ k) % 256 :: numB k n
def numL (n : Int) : List Int := numB (nkF 7 1 n) n
theorem numB_len : ∀ (k : Nat) (n : Int), (numB k n).length = k
  | 0, _ => rfl
  | k + 1, n => by rw [numB, List.length_cons, numB_len k n]
theorem numB_byt : ∀ (k : Nat) (n : Int), Byt (numB k n)
  | 0, _ => fun x hx => by cases hx
  | k + 1, n => fun x hx => by
    rw [numB] at hx
    rcases List.mem_cons.1 hx with rfl | hx
    · omega
    · exact numB_byt k n x hx
theorem nkF_range : ∀ (f k : Nat) (n : Int), k ≤ nkF f k n ∧ nkF f k n ≤ k + f
  | 0, k, n => by rw [nkF]; omega
  | f + 1, k, n => by
    have := nkF_range f (k + 1) n
    rw [nkF]
    split <;> omega
theorem numL_len (n : Int) : (numL n).length ≤ 8 := by
  unfold numL
  rw [numB_len]
  have := nkF_range 7 1 n
  omega
theorem numL_byt (n : Int) : Byt (numL n) := numB_byt _ _
/-- What is left of a number is all its sign exactly where it is one of as many bytes. -/
theorem nfit_sh (r : Nat) (n : Int) : nfit (r + 1) n = decide (n / 2 ^ (7 + 8 * r) = 0 ∨ n / 2 ^ (7 + 8 * r) = -1) := by
  unfold nfit
  rw [show 8 * (r + 1) - 1 = 7 + 8 * r by omega]
  have hp : (0 : Int) < 2 ^ (7 + 8 * r) := Int.pow_pos (by decide)
  generalize (2 : Int) ^ (7 + 8 * r) = p at hp
  apply decide_eq_decide.2
  have h1 := Int.ediv_mul_add_emod n p
  have h2 := Int.emod_nonneg n (Int.ne_of_gt hp)
  have h3 := Int.emod_lt_of_pos n hp
  generalize n / p = q at h1 ⊢
  generalize n % p = e at h1 h2 h3
  constructor
  · intro h
    rcases Int.lt_or_le q 0 with g | g
    · right
      rcases Int.lt_or_le q (-1) with g2 | g2
      · exfalso
        have : q * p ≤ (-2) * p := Int.mul_le_mul_of_nonneg_right (by omega) (by omega)
        omega
      · omega
    · left
      rcases Int.lt_or_le 0 q with g2 | g2
      · exfalso
        have : 1 * p ≤ q * p := Int.mul_le_mul_of_nonneg_right (by omega) (by omega)
        omega
      · omega
  · rintro (rfl | rfl)
    · omega
    · omega
theorem nfit6 {n : Int} (h : -1099511627776 ≤ n ∧ n ≤ 1099511627776) : nfit 6 n = true := by
  unfold nfit
  exact decide_eq_true (by have : (2 : Int) ^ (8 * 6 - 1) = 140737488355328 := rfl; omega)
theorem number80 (t : Typ) (d : Dat) (p : Nat) (h : -1099511627776 ≤ d.n ∧ d.n ≤ 1099511627776) : Fun Tryd.prog 91 [ptr p, .agg t.cells, .agg d.cells] (.ro ((numL d.n).map br)) := by
  rw [cells_eq, dcells_eq]
  generalize d.n = n at h
  have h6 := nfit6 h
  refine Fun.of (TriR.of (tri_of Tryd.func91 rfl Tryd.ntmps91 rfl fun j => ?_))
  repeat' (first | (with_reducible first | refine aw_seq ?_ | refine rl_nil ?_ | refine aw_region ?_ | refine then_n ?_ | refine aw_block ?_ | refine then_exit ?_ | refine then_ret ?_ | refine in_n ?_ | refine in_ret ?_ | refine aw_exit ?_ | refine aw_ret ?_ | refine aw_skip ?_ | refine in_exit_eq rfl ?_ | refine awr_succ ?_) | ((with_reducible refine k_assign ?_); refine rl_pure (pv_assign rfl) rfl rfl rfl ?_) | ((with_reducible refine k_load ?_); refine rl_val (vv_load_box (by rfl) by_memb (by rfl) by_bd) rfl rfl rfl ?_) | ((with_reducible refine k_fieldAddr ?_); refine rl_pure (pv_fieldAddr rfl) rfl rfl rfl ?_) | ((with_reducible refine k_box ?_); refine rl_op rfl (op_box rfl (V.okc_or (by rfl)) rfl fun b => ?_)) | ((with_reducible refine k_shr ?_); refine rl_pure (pv_shr rfl rfl (by omega)) rfl rfl rfl ?_) | ((with_reducible refine k_buildSlice ?_); refine rl_op rfl (op_buildSlice_ro rfl rfl rfl (by rfl) (by rfl) (by rfl) (by rfl) rfl by_rows ?_)) | ((with_reducible refine k_convert ?_); refine rl_pure (pv_convert_u8 rfl) rfl rfl rfl ?_))
  have hs0 : ishr .i64 n 7 = n / 2 ^ (7 + 8 * 0) := ishr_i64 n 7 (by decide)
  refine aw_iter (α := Nat) (fun r => [(7, .ro ((numB (r + 1) n).map br)), (8, int (n / 2 ^ (7 + 8 * r)))]) (fun _ => []) (fun r => r ≤ 5 ∧ numL n = numB (nkF (7 - r) (r + 1) n) n) (fun r => 6 - r)
    0 ⟨by omega, rfl⟩ (by rw [← hs0, show numB (0 + 1) n = [n % 256] by simp [numB]]; (repeat (first | exact sub_nil | refine sub_cons (by first | rfl | (simp; done)) ?_))) .nil fun r hI => ?_
  obtain ⟨hr, hE⟩ := hI
  have hsh := nfit_sh r n
  rw [show 7 - r = (6 - r) + 1 by omega, nkF] at hE
  have hw1 : n / 2 ^ (7 + 8 * r) / 2 = n / 256 ^ (r + 1) := by
    rw [Int.ediv_ediv_of_nonneg (by exact Int.le_of_lt (Int.pow_pos (by decide))), ← Int.pow_succ, show (256 : Int) = 2 ^ 8 from rfl, ← Int.pow_mul, show (7 + 8 * r).succ = 8 * (r + 1) by omega]
  have hw2 : n / 2 ^ (7 + 8 * r) / 2 ^ 8 = n / 2 ^ (7 + 8 * (r + 1)) := by
    rw [Int.ediv_ediv_of_nonneg (by exact Int.le_of_lt (Int.pow_pos (by decide))), ← Int.pow_add, show 7 + 8 * r + 8 = 7 + 8 * (r + 1) by omega]
  have hnl := numB_len (r + 1) n
  have hnx : numB (r + 1 + 1) n = (n / 2 ^ (7 + 8 * r) / 2) % 256 :: numB (r + 1) n := by rw [hw1]; rfl
  generalize n / 2 ^ (7 + 8 * r) = w at hsh hw1 hw2 hnx ⊢
  have hs1 : ishr .i64 w 1 = w / 2 := by have := ishr_i64 w 1 (by decide); simpa using this
  have hs8 : ishr .i64 w 8 = w / 2 ^ 8 := ishr_i64 w 8 (by decide)
  repeat' (first | (with_reducible first | refine aw_seq ?_ | refine rl_nil ?_ | refine aw_region ?_ | refine then_n ?_ | refine aw_block ?_ | refine then_exit ?_ | refine then_ret ?_ | refine in_n ?_ | refine in_ret ?_ | refine aw_exit ?_ | refine aw_ret ?_ | refine aw_skip ?_ | refine in_exit_eq rfl ?_ | refine awr_succ ?_) | ((with_reducible refine k_move ?_); refine rl_pure (pv_move rfl) rfl rfl rfl ?_) | ((with_reducible refine k_assign ?_); refine rl_pure (pv_assign rfl) rfl rfl rfl ?_) | ((with_reducible refine k_neq ?_); refine rl_pure (pv_neq rfl rfl) rfl rfl rfl ?_) | ((with_reducible refine k_shr ?_); refine rl_pure (pv_shr rfl rfl (by omega)) rfl rfl rfl ?_) | ((with_reducible refine k_pick ?_); (first | refine rl_pure (pv_pick_t rfl by_bd rfl) rfl rfl rfl ?_ | refine rl_pure (pv_pick_f rfl by_bd rfl) rfl rfl rfl ?_)) | ((with_reducible refine k_convert ?_); refine rl_pure (pv_convert_u8 rfl) rfl rfl rfl ?_) | ((with_reducible refine k_guard ?_); (first | refine rl_on_yes rfl rfl rfl by_bd rfl ?_ | refine rl_off_t rfl rfl rfl by_bd rfl ?_)) | ((with_reducible refine k_cond ?_); refine aw_cond_f rfl ?_) | (((with_reducible refine k_guard ?_); first | refine rl_if_t rfl rfl rfl rfl ?_ ?_ | refine rl_if_f rfl rfl rfl rfl ?_ ?_) <;> ((fail_if_success (refine imp_known (by assumption) ?_)); (intro hb <;> (have hc := hb) <;> (try simp only [decide_eq_true_eq, decide_eq_false_iff_not, Int.not_lt, Int.not_le, ne_eq, Bool.not_eq_true, Bool.not_eq_false, Decidable.not_not] at hc) <;> (try (exfalso; omega)) <;> (try (exfalso; simp only [Bool.not_eq_eq_eq_not, Bool.not_true, Bool.not_false, decide_eq_true_eq, decide_eq_false_iff_not, ne_eq, Decidable.not_not, Int.not_lt, Int.not_le] at hc; omega)) <;> (try (first | contradiction | (cases hc; done))) <;> (try (first | exact absurd (hb.symm.trans (by assumption) : true = false) (by decide) | exact absurd (hb.symm.trans (by assumption) : false = true) (by decide)))))) | (((with_reducible refine k_cond ?_); refine aw_cond rfl ?_ ?_) <;> ((fail_if_success (refine imp_known (by assumption) ?_)); (intro hb <;> (have hc := hb) <;> (try simp only [decide_eq_true_eq, decide_eq_false_iff_not, Int.not_lt, Int.not_le, ne_eq, Bool.not_eq_true, Bool.not_eq_false, Decidable.not_not] at hc) <;> (try (exfalso; omega)) <;> (try (exfalso; simp only [Bool.not_eq_eq_eq_not, Bool.not_true, Bool.not_false, decide_eq_true_eq, decide_eq_false_iff_not, ne_eq, Decidable.not_not, Int.not_lt, Int.not_le] at hc; omega)) <;> (try (first | contradiction | (cases hc; done))) <;> (try (first | exact absurd (hb.symm.trans (by assumption) : true = false) (by decide) | exact absurd (hb.symm.trans (by assumption) : false = true) (by decide)))))))
  · (first | refine rl_op rfl (op_buildSlice rfl rfl rfl (by rfl) (by rfl) (by rfl) (by rfl) rfl fun sv => ?_) | (refine dl_op (by assumption) by_wants (op_buildSlice rfl rfl rfl (by rfl) (by rfl) (by rfl) (by rfl) rfl fun sv => ?_); intro jd hjd))
    repeat' ((with_reducible refine k_move ?_); refine rl_pure (pv_move rfl) rfl rfl rfl ?_)
    (first | refine rl_op rfl (op_append rfl .here rfl rfl rfl rfl (by first | (intro r hr; obtain ⟨_, _, rfl⟩ := List.mem_map.1 hr; rfl) | (simp; done) | (simp [V.cells]; done)) by_small rfl fun sv' => ?_) | (refine dl_op (by assumption) by_wants (op_append rfl .here rfl rfl rfl rfl (by first | (intro r hr; obtain ⟨_, _, rfl⟩ := List.mem_map.1 hr; rfl) | (simp; done) | (simp [V.cells]; done)) by_small rfl fun sv' => ?_); intro jd hjd))
    refine rl_freeze (d := 29) rfl by_take ?_
    repeat' (first | (with_reducible first | refine aw_seq ?_ | refine rl_nil ?_ | refine aw_region ?_ | refine then_n ?_ | refine aw_block ?_ | refine then_exit ?_ | refine then_ret ?_ | refine in_n ?_ | refine in_ret ?_ | refine aw_exit ?_ | refine aw_ret ?_ | refine aw_skip ?_ | refine in_exit_eq rfl ?_ | refine awr_succ ?_) | ((with_reducible refine k_move ?_); refine rl_pure (pv_move rfl) rfl rfl rfl ?_) | ((with_reducible refine k_assign ?_); refine rl_pure (pv_assign rfl) rfl rfl rfl ?_) | ((with_reducible refine k_shr ?_); refine rl_pure (pv_shr rfl rfl (by omega)) rfl rfl rfl ?_))
    have hnf : nfit (r + 1) n = false := by rw [hsh]; exact decide_eq_false (by omega)
    rw [hnf, if_neg (by simp)] at hE
    have hr5 : r ≠ 5 := fun e => by rw [e, h6] at hnf; cases hnf
    exact next_of (R := []) (r + 1) ⟨by omega, by rw [show 7 - (r + 1) = 6 - r by omega]; exact hE⟩ (by omega) (by rw [← hw2, ← hs8, hnx, ← hs1]; (repeat (first | exact sub_nil | refine sub_cons (by first | rfl | (simp; done)) ?_))) .nil
  all_goals
    have hnf : nfit (r + 1) n = true := by rw [hsh]; exact decide_eq_true (by omega)
    rw [hnf, if_pos rfl] at hE
    (first | refine ret_r (ret1 rfl by_res (List.nil_sublist _) ⟨_, rfl, ?_⟩) | refine ret_n (ret1 rfl by_res (List.nil_sublist _) ⟨_, rfl, ?_⟩))
    exact ⟨by rw [hE], rfl⟩
theorem numB_take : ∀ {k q : Nat} {n : Int}, q < k → (numB k n).take (k - q) = (numB k n).take (k - (q + 1)) ++ [n / 256 ^ q % 256]
  | 0, q, n, h => by omega
  | k + 1, q, n, h => by
    rw [numB]
    by_cases e : q = k
    · subst e
      rw [show q + 1 - q = 1 by omega, show q + 1 - (q + 1) = 0 by omega]
      rfl
    · rw [show k + 1 - q = (k - q) + 1 by omega, show k + 1 - (q + 1) = (k - (q + 1)) + 1 by omega, List.take_succ_cons, List.take_succ_cons, numB_take (by omega)]
      rfl
theorem number86 (n : Int) (h : -1099511627776 ≤ n ∧ n ≤ 1099511627776) : Fun Tryd.prog 104 [int n] (.ro ((numL n).map br)) := by
  have h6 := nfit6 h
  refine Fun.of (TriR.of (tri_of Tryd.func104 rfl Tryd.ntmps104 rfl fun j => ?_))
  refine aw_seq ?_
  repeat' (first | (with_reducible first | refine aw_seq ?_ | refine rl_nil ?_ | refine aw_region ?_ | refine then_n ?_ | refine aw_block ?_ | refine then_exit ?_ | refine then_ret ?_ | refine in_n ?_ | refine in_ret ?_ | refine aw_exit ?_ | refine aw_ret ?_ | refine aw_skip ?_ | refine in_exit_eq rfl ?_ | refine awr_succ ?_) | ((with_reducible refine k_assign ?_); refine rl_pure (pv_assign rfl) rfl rfl rfl ?_))
  refine aw_iter (α := Nat) (fun k => [(0, int n), (3, int k)]) (fun _ => []) (fun k => 1 ≤ k ∧ k ≤ 6 ∧ numL n = numB (nkF (8 - k) k n) n) (fun k => 7 - k)
    1 ⟨by omega, by omega, rfl⟩ (by (repeat (first | exact sub_nil | refine sub_cons (by first | rfl | (simp; done)) ?_))) .nil fun k hI => ?_
  obtain ⟨hk1, hk6, hE⟩ := hI
  rw [show 8 - k = (7 - k) + 1 by omega, nkF] at hE
  obtain ⟨p, hp⟩ : ∃ p : Int, (2 : Int) ^ (8 * k - 1) = p := ⟨_, rfl⟩
  have hpb : 0 < p ∧ p ≤ 140737488355328 := by
    rw [← hp]
    have e1 : ((2 : Int) ^ (8 * k - 1)) = ((2 ^ (8 * k - 1) : Nat) : Int) := by simp
    have e2 : 2 ^ (8 * k - 1) ≤ 2 ^ 47 := Nat.pow_le_pow_right (by decide) (by omega)
    have e3 := Nat.two_pow_pos (8 * k - 1)
    omega
  have hsh : ishl .i64 1 (8 * (k : Int) - 1) = p := by
    unfold ishl
    rw [show min (8 * (k : Int) - 1).toNat IntKind.i64.bits = 8 * k - 1 by simp only [IntKind.bits]; omega, Int.one_mul, hp, IntWalk.i64_in _ (by omega)]
  have hfit : nfit k n = decide (-p ≤ n ∧ n < p) := by unfold nfit; rw [hp]
  repeat' (first | (with_reducible first | refine aw_seq ?_ | refine rl_nil ?_ | refine aw_region ?_ | refine then_n ?_ | refine aw_block ?_ | refine then_exit ?_ | refine then_ret ?_ | refine in_n ?_ | refine in_ret ?_ | refine aw_exit ?_ | refine aw_ret ?_ | refine aw_skip ?_ | refine in_exit_eq rfl ?_ | refine awr_succ ?_) | ((with_reducible refine k_move ?_); refine rl_pure (pv_move rfl) rfl rfl rfl ?_) | ((with_reducible refine k_assign ?_); refine rl_pure (pv_assign rfl) rfl rfl rfl ?_) | ((with_reducible refine k_lss ?_); refine rl_pure (pv_lss rfl rfl) rfl rfl rfl ?_) | ((with_reducible refine k_geq ?_); refine rl_pure (pv_geq rfl rfl) rfl rfl rfl ?_) | ((with_reducible refine k_add ?_); refine rl_pure (pv_add_in rfl rfl (by omega)) rfl rfl rfl ?_) | ((with_reducible refine k_sub ?_); refine rl_pure (pv_sub_in rfl rfl (by omega)) rfl rfl rfl ?_) | ((with_reducible refine k_mul ?_); refine rl_pure (pv_mul_in rfl rfl (by omega)) rfl rfl rfl ?_) | ((with_reducible refine k_neg ?_); refine rl_pure (pv_neg_in rfl (by omega)) rfl rfl rfl ?_) | ((with_reducible refine k_shl ?_); refine rl_pure (pv_shl rfl rfl (by omega)) rfl rfl rfl ?_) | ((with_reducible refine k_pick ?_); (first | refine rl_pure (pv_pick_t rfl by_bd rfl) rfl rfl rfl ?_ | refine rl_pure (pv_pick_f rfl by_bd rfl) rfl rfl rfl ?_)) | ((with_reducible refine k_guard ?_); (first | refine rl_on_yes rfl rfl rfl by_bd rfl ?_ | refine rl_off_f rfl rfl rfl by_bd rfl ?_)) | ((with_reducible refine k_cond ?_); refine aw_cond_t rfl ?_) | (((with_reducible refine k_guard ?_); first | refine rl_if_t rfl rfl rfl rfl ?_ ?_ | refine rl_if_f rfl rfl rfl rfl ?_ ?_) <;> ((fail_if_success (refine imp_known (by assumption) ?_)); (intro hb <;> (have hc := hb) <;> (try simp only [decide_eq_true_eq, decide_eq_false_iff_not, Int.not_lt, Int.not_le, ne_eq, Bool.not_eq_true, Bool.not_eq_false, Decidable.not_not] at hc) <;> (try (exfalso; omega)) <;> (try (exfalso; simp only [Bool.not_eq_eq_eq_not, Bool.not_true, Bool.not_false, decide_eq_true_eq, decide_eq_false_iff_not, ne_eq, Decidable.not_not, Int.not_lt, Int.not_le] at hc; omega)) <;> (try (first | contradiction | (cases hc; done))) <;> (try (first | exact absurd (hb.symm.trans (by assumption) : true = false) (by decide) | exact absurd (hb.symm.trans (by assumption) : false = true) (by decide)))))) | (((with_reducible refine k_cond ?_); refine aw_cond rfl ?_ ?_) <;> ((fail_if_success (refine imp_known (by assumption) ?_)); (intro hb <;> (have hc := hb) <;> (try simp only [decide_eq_true_eq, decide_eq_false_iff_not, Int.not_lt, Int.not_le, ne_eq, Bool.not_eq_true, Bool.not_eq_false, Decidable.not_not] at hc) <;> (try (exfalso; omega)) <;> (try (exfalso; simp only [Bool.not_eq_eq_eq_not, Bool.not_true, Bool.not_false, decide_eq_true_eq, decide_eq_false_iff_not, ne_eq, Decidable.not_not, Int.not_lt, Int.not_le] at hc; omega)) <;> (try (first | contradiction | (cases hc; done))) <;> (try (first | exact absurd (hb.symm.trans (by assumption) : true = false) (by decide) | exact absurd (hb.symm.trans (by assumption) : false = true) (by decide)))))))
  all_goals first
  | (have hnf : nfit k n = false := by rw [hfit]; exact decide_eq_false (by omega)
     rw [hnf, if_neg (by simp)] at hE
     have hr5 : k ≠ 6 := fun e => by rw [e, h6] at hnf; cases hnf
     exact next_of (R := []) (k + 1) ⟨by omega, by omega, by rw [show 8 - (k + 1) = 7 - k by omega]; exact hE⟩ (by omega) (by (repeat (first | exact sub_nil | refine sub_cons (by first | rfl | (simp; done)) ?_))) .nil)
  | skip
  have hnf : nfit k n = true := by rw [hfit]; exact decide_eq_true (by omega)
  rw [hnf, if_pos rfl] at hE
  refine aw_nil_own 4 5 1 rfl ?_
  refine aw_iter (α := Nat × Value) (fun q => [(0, int n), (4, .own q.2), (5, int ((q.1 : Int) - 1))])
    (fun q => [.vec q.2 5 1 (((numB k n).take (k - q.1)).map br)]) (fun q => q.1 ≤ k) (fun q => q.1)
    (k, .slice none 0 0) (Nat.le_refl _) (by (repeat (first | exact sub_nil | refine sub_cons (by first | rfl | (simp; done)) ?_))) (by rw [Nat.sub_self, List.take_zero]; exact (.cons .here .nil)) fun q hI => ?_
  obtain ⟨r, sv1⟩ := q
  dsimp only at hI ⊢
  rcases r with _ | q
  · repeat' (first | (with_reducible first | refine aw_seq ?_ | refine rl_nil ?_ | refine aw_region ?_ | refine then_n ?_ | refine aw_block ?_ | refine then_exit ?_ | refine then_ret ?_ | refine in_n ?_ | refine in_ret ?_ | refine aw_exit ?_ | refine aw_ret ?_ | refine aw_skip ?_ | refine in_exit_eq rfl ?_ | refine awr_succ ?_) | ((with_reducible refine k_move ?_); refine rl_pure (pv_move rfl) rfl rfl rfl ?_) | ((with_reducible refine k_assign ?_); refine rl_pure (pv_assign rfl) rfl rfl rfl ?_) | ((with_reducible refine k_geq ?_); refine rl_pure (pv_geq rfl rfl) rfl rfl rfl ?_) | ((with_reducible refine k_cond ?_); refine aw_cond_f rfl ?_))
    all_goals first
    | (exfalso; omega)
    | skip
    refine ret_r (retok_freeze (d := 2) rfl .here (ret1 rfl by_res (List.nil_sublist _) ⟨_, rfl, ?_⟩))
    rw [Nat.sub_zero, List.take_of_length_le (Nat.le_of_eq (numB_len k n))]
    exact ⟨by rw [hE], rfl⟩
  · rw [show ((q + 1 : Nat) : Int) - 1 = (q : Int) by omega]
    have htk := numB_take (n := n) hI
    have htl : ((numB k n).take (k - (q + 1))).length ≤ 6 := by rw [List.length_take, numB_len]; omega
    have hs : ishr .i64 n (8 * (q : Int)) = n / 256 ^ q := by
      have := ishr_i64 n (8 * q) (by omega)
      rw [Int.natCast_mul] at this
      rw [show (8 : Int) * (q : Int) = ((8 : Nat) : Int) * (q : Int) from rfl, this, Int.pow_mul]
      rfl
    repeat' (first | (with_reducible first | refine aw_seq ?_ | refine rl_nil ?_ | refine aw_region ?_ | refine then_n ?_ | refine aw_block ?_ | refine then_exit ?_ | refine then_ret ?_ | refine in_n ?_ | refine in_ret ?_ | refine aw_exit ?_ | refine aw_ret ?_ | refine aw_skip ?_ | refine in_exit_eq rfl ?_ | refine awr_succ ?_) | ((with_reducible refine k_move ?_); refine rl_pure (pv_move rfl) rfl rfl rfl ?_) | ((with_reducible refine k_geq ?_); refine rl_pure (pv_geq rfl rfl) rfl rfl rfl ?_) | ((with_reducible refine k_mul ?_); refine rl_pure (pv_mul_in rfl rfl (by omega)) rfl rfl rfl ?_) | ((with_reducible refine k_shr ?_); refine rl_pure (pv_shr rfl rfl (by omega)) rfl rfl rfl ?_) | ((with_reducible refine k_buildSlice ?_); refine rl_op rfl (op_buildSlice_ro rfl rfl rfl (by rfl) (by rfl) (by rfl) (by rfl) rfl by_rows ?_)) | ((with_reducible refine k_convert ?_); refine rl_pure (pv_convert_u8 rfl) rfl rfl rfl ?_) | ((with_reducible refine k_cond ?_); refine aw_cond_t rfl ?_))
    all_goals first
    | (exfalso; omega)
    | skip
    (first | refine rl_op rfl (op_append rfl .here rfl rfl rfl rfl (by first | (intro r hr; obtain ⟨_, _, rfl⟩ := List.mem_map.1 hr; rfl) | (simp; done) | (simp [V.cells]; done)) by_small rfl fun sv' => ?_) | (refine dl_op (by assumption) by_wants (op_append rfl .here rfl rfl rfl rfl (by first | (intro r hr; obtain ⟨_, _, rfl⟩ := List.mem_map.1 hr; rfl) | (simp; done) | (simp [V.cells]; done)) by_small rfl fun sv' => ?_); intro jd hjd))
    repeat' (first | (with_reducible first | refine aw_seq ?_ | refine rl_nil ?_ | refine aw_region ?_ | refine then_n ?_ | refine aw_block ?_ | refine then_exit ?_ | refine then_ret ?_ | refine in_n ?_ | refine in_ret ?_ | refine aw_exit ?_ | refine aw_ret ?_ | refine aw_skip ?_ | refine in_exit_eq rfl ?_ | refine awr_succ ?_) | ((with_reducible refine k_move ?_); refine rl_pure (pv_move rfl) rfl rfl rfl ?_) | ((with_reducible refine k_assign ?_); refine rl_pure (pv_assign rfl) rfl rfl rfl ?_) | ((with_reducible refine k_sub ?_); refine rl_pure (pv_sub_in rfl rfl (by omega)) rfl rfl rfl ?_))
    exact next_of (R := []) (q, sv') (by omega) (by dsimp only; omega) (by (repeat (first | exact sub_nil | refine sub_cons (by first | rfl | (simp; done)) ?_))) (by dsimp only; rw [htk, List.map_append, ← hs]; exact (.cons .here .nil))
end Go.Proofs.YtepmllodaoanmaaDoor

set_option linter.unusedVariables false
set_option linter.unusedSimpArgs false
namespace Go.Proofs.YtepmllodaoanmaaDoor
open Go Go.AX
set_option maxHeartbeats 8000000
set_option maxRecDepth 20000
attribute [local irreducible] AW RL OP PureV ValV HV DL DX Tri TriR Fun RetOk ResV
/-- A tag, a length, a body. -/
def tagd (tag : Int) (b : List Int) : List Int := tag :: (lenB b.length ++ b)
theorem lenB_le (n : Int) : (lenB n).length ≤ 4 := by
  unfold lenB
  repeat' split
  all_goals simp
theorem tagd_len (tag : Int) (b : List Int) : (tagd tag b).length ≤ b.length + 5 := by
  have := lenB_le b.length
  rw [tagd, List.length_cons, List.length_append]
  omega
theorem tagged58 (p : Nat) (tag : Int) (b : List Int) (full : Bool) (hb : b.length ≤ 1048576) :
    TriR Tryd.prog 67 [ptr p, byte tag, .ro (b.map br)] [.box p 69 [bool full]] fun v H' => ∃ out : List Int, v = .ro (out.map br) ∧ out.length ≤ 4010 ∧
      ((b.length ≤ 4000 ∧ out = tagd tag b ∧ H' = [.box p 69 [bool full]]) ∨ (4000 < b.length ∧ H' = [.box p 69 [bool true]])) := by
  have hsh := fun m : Int => ishr_i64 m 8 (by decide)
  refine TriR.of (tri_of Tryd.func67 rfl Tryd.ntmps67 rfl fun j => ?_)
  repeat' (first | (with_reducible first | refine aw_seq ?_ | refine rl_nil ?_ | refine aw_region ?_ | refine then_n ?_ | refine aw_block ?_ | refine then_exit ?_ | refine then_ret ?_ | refine in_n ?_ | refine in_ret ?_ | refine aw_exit ?_ | refine aw_ret ?_ | refine aw_skip ?_ | refine in_exit_eq rfl ?_ | refine awr_succ ?_) | ((with_reducible refine k_move ?_); refine rl_pure (pv_move rfl) rfl rfl rfl ?_) | ((with_reducible refine k_assign ?_); refine rl_pure (pv_assign rfl) rfl rfl rfl ?_) | ((with_reducible refine k_fieldAddr ?_); refine rl_pure (pv_fieldAddr rfl) rfl rfl rfl ?_) | ((with_reducible refine k_store ?_); refine rl_op rfl (op_store_box_whole (by rfl) (by rfl) (V.okc_or (by rfl)) by_upd (by first | rfl | exact tcells_len _ | exact dcells_len _) (by first | rfl | exact tcells_len _ | exact dcells_len _) ?_)) | ((with_reducible refine k_gtr ?_); refine rl_pure (pv_gtr rfl rfl) rfl rfl rfl ?_) | ((with_reducible refine k_len ?_); refine rl_pure (pv_len_ro' (by rfl) by_len) rfl rfl rfl ?_) | ((with_reducible refine k_nilCheck ?_); refine rl_pure (pv_nilCheck rfl) rfl rfl rfl ?_) | (((with_reducible refine k_cond ?_); refine aw_cond rfl ?_ ?_) <;> ((fail_if_success (refine imp_known (by assumption) ?_)); (intro hb <;> (have hc := hb) <;> (try simp only [decide_eq_true_eq, decide_eq_false_iff_not, Int.not_lt, Int.not_le, ne_eq, Bool.not_eq_true, Bool.not_eq_false, Decidable.not_not] at hc) <;> (try (exfalso; omega)) <;> (try (exfalso; simp only [Bool.not_eq_eq_eq_not, Bool.not_true, Bool.not_false, decide_eq_true_eq, decide_eq_false_iff_not, ne_eq, Decidable.not_not, Int.not_lt, Int.not_le] at hc; omega)) <;> (try (first | contradiction | (cases hc; done))) <;> (try (first | exact absurd (hb.symm.trans (by assumption) : true = false) (by decide) | exact absurd (hb.symm.trans (by assumption) : false = true) (by decide)))))))
  · refine rl_nil_ro 2 rfl ?_
    (first | refine rl_op rfl (op_buildSlice rfl rfl rfl (by rfl) (by rfl) (by rfl) (by rfl) rfl fun sv => ?_) | (refine dl_op (by assumption) by_wants (op_buildSlice rfl rfl rfl (by rfl) (by rfl) (by rfl) (by rfl) rfl fun sv => ?_); intro jd hjd))
    repeat' (first | (with_reducible first | refine aw_seq ?_ | refine rl_nil ?_ | refine aw_region ?_ | refine then_n ?_ | refine aw_block ?_ | refine then_exit ?_ | refine then_ret ?_ | refine in_n ?_ | refine in_ret ?_ | refine aw_exit ?_ | refine aw_ret ?_ | refine aw_skip ?_ | refine in_exit_eq rfl ?_ | refine awr_succ ?_) | ((with_reducible refine k_move ?_); refine rl_pure (pv_move rfl) rfl rfl rfl ?_) | ((with_reducible refine k_assign ?_); refine rl_pure (pv_assign rfl) rfl rfl rfl ?_) | ((with_reducible refine k_lss ?_); refine rl_pure (pv_lss rfl rfl) rfl rfl rfl ?_) | ((with_reducible refine k_gtr ?_); refine rl_pure (pv_gtr rfl rfl) rfl rfl rfl ?_) | ((with_reducible refine k_len ?_); refine rl_pure (pv_len_ro' (by rfl) by_len) rfl rfl rfl ?_) | ((with_reducible refine k_buildSlice ?_); refine rl_op rfl (op_buildSlice_ro rfl rfl rfl (by rfl) (by rfl) (by rfl) (by rfl) rfl by_rows ?_)) | ((with_reducible refine k_convert ?_); refine rl_pure (pv_convert_in rfl (by first | rfl | exact IntWalk.i64_in _ (by omega) | exact IntWalk.u8_in _ (by omega) | exact IntWalk.u32_in _ (by omega))) rfl rfl rfl ?_) | ((with_reducible refine k_cond ?_); (first | refine aw_cond_t rfl ?_ | refine aw_cond_f rfl ?_)) | refine aw_rounds 1 ?_)
    (first | refine rl_op rfl (op_append rfl .here rfl rfl rfl rfl (by first | (intro r hr; obtain ⟨_, _, rfl⟩ := List.mem_map.1 hr; rfl) | (simp; done) | (simp [V.cells]; done)) by_small rfl fun sv' => ?_) | (refine dl_op (by assumption) by_wants (op_append rfl .here rfl rfl rfl rfl (by first | (intro r hr; obtain ⟨_, _, rfl⟩ := List.mem_map.1 hr; rfl) | (simp; done) | (simp [V.cells]; done)) by_small rfl fun sv' => ?_); intro jd hjd))
    repeat' (first | (with_reducible first | refine aw_seq ?_ | refine rl_nil ?_ | refine aw_region ?_ | refine then_n ?_ | refine aw_block ?_ | refine then_exit ?_ | refine then_ret ?_ | refine in_n ?_ | refine in_ret ?_ | refine aw_exit ?_ | refine aw_ret ?_ | refine aw_skip ?_ | refine in_exit_eq rfl ?_ | refine awr_succ ?_) | ((with_reducible refine k_move ?_); refine rl_pure (pv_move rfl) rfl rfl rfl ?_) | ((with_reducible refine k_assign ?_); refine rl_pure (pv_assign rfl) rfl rfl rfl ?_))
    (first | refine rl_op rfl (op_append rfl .here rfl rfl rfl rfl (by first | (intro r hr; obtain ⟨_, _, rfl⟩ := List.mem_map.1 hr; rfl) | (simp; done) | (simp [V.cells]; done)) by_small rfl fun sv' => ?_) | (refine dl_op (by assumption) by_wants (op_append rfl .here rfl rfl rfl rfl (by first | (intro r hr; obtain ⟨_, _, rfl⟩ := List.mem_map.1 hr; rfl) | (simp; done) | (simp [V.cells]; done)) by_small rfl fun sv' => ?_); intro jd hjd))
    repeat' (first | (with_reducible first | refine aw_seq ?_ | refine rl_nil ?_ | refine aw_region ?_ | refine then_n ?_ | refine aw_block ?_ | refine then_exit ?_ | refine then_ret ?_ | refine in_n ?_ | refine in_ret ?_ | refine aw_exit ?_ | refine aw_ret ?_ | refine aw_skip ?_ | refine in_exit_eq rfl ?_ | refine awr_succ ?_) | ((with_reducible refine k_assign ?_); refine rl_pure (pv_assign rfl) rfl rfl rfl ?_))
    refine ret_r (retok_freeze (d := 6) rfl .here (ret1 rfl by_res (List.Sublist.refl _) ⟨_, rfl, ?_⟩))
    exact ⟨[tag, 0], rfl, by simp, .inr ⟨by omega, rfl⟩⟩
  · (first | refine rl_op rfl (op_buildSlice rfl rfl rfl (by rfl) (by rfl) (by rfl) (by rfl) rfl fun sv => ?_) | (refine dl_op (by assumption) by_wants (op_buildSlice rfl rfl rfl (by rfl) (by rfl) (by rfl) (by rfl) rfl fun sv => ?_); intro jd hjd))
    repeat' (first | (with_reducible first | refine aw_seq ?_ | refine rl_nil ?_ | refine aw_region ?_ | refine then_n ?_ | refine aw_block ?_ | refine then_exit ?_ | refine then_ret ?_ | refine in_n ?_ | refine in_ret ?_ | refine aw_exit ?_ | refine aw_ret ?_ | refine aw_skip ?_ | refine in_exit_eq rfl ?_ | refine awr_succ ?_) | ((with_reducible refine k_move ?_); refine rl_pure (pv_move rfl) rfl rfl rfl ?_) | ((with_reducible refine k_assign ?_); refine rl_pure (pv_assign rfl) rfl rfl rfl ?_) | ((with_reducible refine k_len ?_); refine rl_pure (pv_len_ro' (by rfl) by_len) rfl rfl rfl ?_))
    refine aw_nil_ro 8 rfl ?_
    refine aw_iter (α := Nat × Int × List Int) (fun q => [(2, .ro (b.map br)), (7, .own sv), (9, int q.2.1), (8, .ro (q.2.2.map br))]) (fun q => [.vec sv 5 1 [[byte tag]], .box p 69 [bool full]]) (fun q => 0 ≤ q.2.1 ∧ q.2.1 < 256 ^ q.1 ∧ dg q.1 q.2.1 ++ q.2.2 = dg 3 b.length) (fun q => q.2.1.toNat)
      (3, b.length, []) ⟨by dsimp only; omega, by dsimp only; omega, by dsimp only; rw [List.append_nil]⟩ (by (repeat (first | exact sub_nil | refine sub_cons (by first | rfl | (simp; done)) ?_))) (.cons .here (.cons .here .nil)) fun q hI => ?_
    obtain ⟨f, m, out⟩ := q
    dsimp only at hI ⊢
    obtain ⟨h0, h1, h2⟩ := hI
    have hl : out.length ≤ 3 := by
      have e1 := congrArg List.length h2
      have e2 := dg_len 3 b.length
      rw [List.length_append] at e1
      omega
    rcases Int.lt_or_le 0 m with hm | hm
    · obtain ⟨f, rfl⟩ : ∃ g, f = g + 1 := by
        rcases f with _ | f
        · simp at h1; omega
        · exact ⟨f, rfl⟩
      repeat' (first | (with_reducible first | refine aw_seq ?_ | refine rl_nil ?_ | refine aw_region ?_ | refine then_n ?_ | refine aw_block ?_ | refine then_exit ?_ | refine then_ret ?_ | refine in_n ?_ | refine in_ret ?_ | refine aw_exit ?_ | refine aw_ret ?_ | refine aw_skip ?_ | refine in_exit_eq rfl ?_ | refine awr_succ ?_) | ((with_reducible refine k_move ?_); refine rl_pure (pv_move rfl) rfl rfl rfl ?_) | ((with_reducible refine k_gtr ?_); refine rl_pure (pv_gtr rfl rfl) rfl rfl rfl ?_) | ((with_reducible refine k_convert ?_); refine rl_pure (pv_convert_u8 rfl) rfl rfl rfl ?_) | (((with_reducible refine k_cond ?_); refine aw_cond rfl ?_ ?_) <;> ((fail_if_success (refine imp_known (by assumption) ?_)); (intro hb <;> (have hc := hb) <;> (try simp only [decide_eq_true_eq, decide_eq_false_iff_not, Int.not_lt, Int.not_le, ne_eq, Bool.not_eq_true, Bool.not_eq_false, Decidable.not_not] at hc) <;> (try (exfalso; omega)) <;> (try (exfalso; simp only [Bool.not_eq_eq_eq_not, Bool.not_true, Bool.not_false, decide_eq_true_eq, decide_eq_false_iff_not, ne_eq, Decidable.not_not, Int.not_lt, Int.not_le] at hc; omega)) <;> (try (first | contradiction | (cases hc; done))) <;> (try (first | exact absurd (hb.symm.trans (by assumption) : true = false) (by decide) | exact absurd (hb.symm.trans (by assumption) : false = true) (by decide)))))))
      (first | refine rl_op rfl (op_buildSlice rfl rfl rfl (by rfl) (by rfl) (by rfl) (by rfl) rfl fun sv => ?_) | (refine dl_op (by assumption) by_wants (op_buildSlice rfl rfl rfl (by rfl) (by rfl) (by rfl) (by rfl) rfl fun sv => ?_); intro jd hjd))
      repeat' ((with_reducible refine k_move ?_); refine rl_pure (pv_move rfl) rfl rfl rfl ?_)
      (first | refine rl_op rfl (op_append rfl .here rfl rfl rfl rfl (by first | (intro r hr; obtain ⟨_, _, rfl⟩ := List.mem_map.1 hr; rfl) | (simp; done) | (simp [V.cells]; done)) by_small rfl fun sv' => ?_) | (refine dl_op (by assumption) by_wants (op_append rfl .here rfl rfl rfl rfl (by first | (intro r hr; obtain ⟨_, _, rfl⟩ := List.mem_map.1 hr; rfl) | (simp; done) | (simp [V.cells]; done)) by_small rfl fun sv' => ?_); intro jd hjd))
      refine rl_freeze (d := 28) rfl by_take ?_
      repeat' (first | (with_reducible first | refine aw_seq ?_ | refine rl_nil ?_ | refine aw_region ?_ | refine then_n ?_ | refine aw_block ?_ | refine then_exit ?_ | refine then_ret ?_ | refine in_n ?_ | refine in_ret ?_ | refine aw_exit ?_ | refine aw_ret ?_ | refine aw_skip ?_ | refine in_exit_eq rfl ?_ | refine awr_succ ?_) | ((with_reducible refine k_move ?_); refine rl_pure (pv_move rfl) rfl rfl rfl ?_) | ((with_reducible refine k_assign ?_); refine rl_pure (pv_assign rfl) rfl rfl rfl ?_) | ((with_reducible refine k_shr ?_); refine rl_pure (pv_shr rfl rfl (by omega)) rfl rfl rfl ?_))
      rw [show ishr .i64 m 8 = m / 256 from hsh m]
      rw [dg, if_neg (by omega)] at h2
      have h3 : m / 256 < 256 ^ f := by
        rw [Int.pow_succ] at h1
        exact Int.ediv_lt_of_lt_mul (by decide) h1
      exact next_of (R := []) (f, m / 256, m % 256 :: out) ⟨by dsimp only; omega, h3, by dsimp only; rw [← h2]; simp⟩ (by dsimp only; omega) (by (repeat (first | exact sub_nil | refine sub_cons (by first | rfl | (simp; done)) ?_))) (.cons .here (.cons .here .nil))
    · have e : out = dg 3 b.length := by
        rw [← h2]
        rcases f with _ | f
        · rfl
        · rw [dg, if_pos hm]; rfl
      subst e
      repeat' (first | (with_reducible first | refine aw_seq ?_ | refine rl_nil ?_ | refine aw_region ?_ | refine then_n ?_ | refine aw_block ?_ | refine then_exit ?_ | refine then_ret ?_ | refine in_n ?_ | refine in_ret ?_ | refine aw_exit ?_ | refine aw_ret ?_ | refine aw_skip ?_ | refine in_exit_eq rfl ?_ | refine awr_succ ?_) | ((with_reducible refine k_move ?_); refine rl_pure (pv_move rfl) rfl rfl rfl ?_) | ((with_reducible refine k_lss ?_); refine rl_pure (pv_lss rfl rfl) rfl rfl rfl ?_) | ((with_reducible refine k_gtr ?_); refine rl_pure (pv_gtr rfl rfl) rfl rfl rfl ?_) | ((with_reducible refine k_len ?_); refine rl_pure (pv_len_ro' (by rfl) by_len) rfl rfl rfl ?_) | ((with_reducible refine k_buildSlice ?_); refine rl_op rfl (op_buildSlice_ro rfl rfl rfl (by rfl) (by rfl) (by rfl) (by rfl) rfl by_rows ?_)) | ((with_reducible refine k_convert ?_); refine rl_pure (pv_convert_in rfl (by first | rfl | exact IntWalk.i64_in _ (by omega) | exact IntWalk.u8_in _ (by omega) | exact IntWalk.u32_in _ (by omega))) rfl rfl rfl ?_) | ((with_reducible refine k_add ?_); refine rl_pure (pv_add rfl rfl) rfl rfl rfl ?_) | (((with_reducible refine k_cond ?_); refine aw_cond rfl ?_ ?_) <;> ((fail_if_success (refine imp_known (by assumption) ?_)); (intro hb <;> (have hc := hb) <;> (try simp only [decide_eq_true_eq, decide_eq_false_iff_not, Int.not_lt, Int.not_le, ne_eq, Bool.not_eq_true, Bool.not_eq_false, Decidable.not_not] at hc) <;> (try (exfalso; omega)) <;> (try (exfalso; simp only [Bool.not_eq_eq_eq_not, Bool.not_true, Bool.not_false, decide_eq_true_eq, decide_eq_false_iff_not, ne_eq, Decidable.not_not, Int.not_lt, Int.not_le] at hc; omega)) <;> (try (first | contradiction | (cases hc; done))) <;> (try (first | exact absurd (hb.symm.trans (by assumption) : true = false) (by decide) | exact absurd (hb.symm.trans (by assumption) : false = true) (by decide)))))))
      · (first | refine rl_op rfl (op_append rfl .here rfl rfl rfl rfl (by first | (intro r hr; obtain ⟨_, _, rfl⟩ := List.mem_map.1 hr; rfl) | (simp; done) | (simp [V.cells]; done)) by_small rfl fun sv' => ?_) | (refine dl_op (by assumption) by_wants (op_append rfl .here rfl rfl rfl rfl (by first | (intro r hr; obtain ⟨_, _, rfl⟩ := List.mem_map.1 hr; rfl) | (simp; done) | (simp [V.cells]; done)) by_small rfl fun sv' => ?_); intro jd hjd))
        repeat' (first | (with_reducible first | refine aw_seq ?_ | refine rl_nil ?_ | refine aw_region ?_ | refine then_n ?_ | refine aw_block ?_ | refine then_exit ?_ | refine then_ret ?_ | refine in_n ?_ | refine in_ret ?_ | refine aw_exit ?_ | refine aw_ret ?_ | refine aw_skip ?_ | refine in_exit_eq rfl ?_ | refine awr_succ ?_) | ((with_reducible refine k_move ?_); refine rl_pure (pv_move rfl) rfl rfl rfl ?_) | ((with_reducible refine k_assign ?_); refine rl_pure (pv_assign rfl) rfl rfl rfl ?_))
        (first | refine rl_op rfl (op_append rfl .here rfl rfl rfl rfl (by first | (intro r hr; obtain ⟨_, _, rfl⟩ := List.mem_map.1 hr; rfl) | (simp; done) | (simp [V.cells]; done)) by_small rfl fun sv' => ?_) | (refine dl_op (by assumption) by_wants (op_append rfl .here rfl rfl rfl rfl (by first | (intro r hr; obtain ⟨_, _, rfl⟩ := List.mem_map.1 hr; rfl) | (simp; done) | (simp [V.cells]; done)) by_small rfl fun sv' => ?_); intro jd hjd))
        repeat' (first | (with_reducible first | refine aw_seq ?_ | refine rl_nil ?_ | refine aw_region ?_ | refine then_n ?_ | refine aw_block ?_ | refine then_exit ?_ | refine then_ret ?_ | refine in_n ?_ | refine in_ret ?_ | refine aw_exit ?_ | refine aw_ret ?_ | refine aw_skip ?_ | refine in_exit_eq rfl ?_ | refine awr_succ ?_) | ((with_reducible refine k_assign ?_); refine rl_pure (pv_assign rfl) rfl rfl rfl ?_))
        refine ret_r (retok_freeze (d := 6) rfl .here (ret1 rfl by_res (List.Sublist.refl _) ⟨_, rfl, ?_⟩))
        have := tagd_len tag b
        exact ⟨tagd tag b, by rw [tagd, lenB, if_pos (by omega)]; rfl, by omega, .inl ⟨by omega, rfl, rfl⟩⟩
      · (first | refine rl_op rfl (op_append rfl .here rfl rfl rfl rfl (by first | (intro r hr; obtain ⟨_, _, rfl⟩ := List.mem_map.1 hr; rfl) | (simp; done) | (simp [V.cells]; done)) by_small rfl fun sv' => ?_) | (refine dl_op (by assumption) by_wants (op_append rfl .here rfl rfl rfl rfl (by first | (intro r hr; obtain ⟨_, _, rfl⟩ := List.mem_map.1 hr; rfl) | (simp; done) | (simp [V.cells]; done)) by_small rfl fun sv' => ?_); intro jd hjd))
        repeat' ((with_reducible refine k_move ?_); refine rl_pure (pv_move rfl) rfl rfl rfl ?_)
        (first | refine rl_op rfl (op_append rfl .here rfl rfl rfl rfl (by first | (intro r hr; obtain ⟨_, _, rfl⟩ := List.mem_map.1 hr; rfl) | (simp; done) | (simp [V.cells]; done)) by_small rfl fun sv' => ?_) | (refine dl_op (by assumption) by_wants (op_append rfl .here rfl rfl rfl rfl (by first | (intro r hr; obtain ⟨_, _, rfl⟩ := List.mem_map.1 hr; rfl) | (simp; done) | (simp [V.cells]; done)) by_small rfl fun sv' => ?_); intro jd hjd))
        repeat' (first | (with_reducible first | refine aw_seq ?_ | refine rl_nil ?_ | refine aw_region ?_ | refine then_n ?_ | refine aw_block ?_ | refine then_exit ?_ | refine then_ret ?_ | refine in_n ?_ | refine in_ret ?_ | refine aw_exit ?_ | refine aw_ret ?_ | refine aw_skip ?_ | refine in_exit_eq rfl ?_ | refine awr_succ ?_) | ((with_reducible refine k_move ?_); refine rl_pure (pv_move rfl) rfl rfl rfl ?_) | ((with_reducible refine k_assign ?_); refine rl_pure (pv_assign rfl) rfl rfl rfl ?_))
        (first | refine rl_op rfl (op_append rfl .here rfl rfl rfl rfl (by first | (intro r hr; obtain ⟨_, _, rfl⟩ := List.mem_map.1 hr; rfl) | (simp; done) | (simp [V.cells]; done)) by_small rfl fun sv' => ?_) | (refine dl_op (by assumption) by_wants (op_append rfl .here rfl rfl rfl rfl (by first | (intro r hr; obtain ⟨_, _, rfl⟩ := List.mem_map.1 hr; rfl) | (simp; done) | (simp [V.cells]; done)) by_small rfl fun sv' => ?_); intro jd hjd))
        repeat' (first | (with_reducible first | refine aw_seq ?_ | refine rl_nil ?_ | refine aw_region ?_ | refine then_n ?_ | refine aw_block ?_ | refine then_exit ?_ | refine then_ret ?_ | refine in_n ?_ | refine in_ret ?_ | refine aw_exit ?_ | refine aw_ret ?_ | refine aw_skip ?_ | refine in_exit_eq rfl ?_ | refine awr_succ ?_) | ((with_reducible refine k_assign ?_); refine rl_pure (pv_assign rfl) rfl rfl rfl ?_))
        refine ret_r (retok_freeze (d := 6) rfl .here (ret1 rfl by_res (List.Sublist.refl _) ⟨_, rfl, ?_⟩))
        have := tagd_len tag b
        refine ⟨tagd tag b, ?_, by omega, .inl ⟨by omega, rfl, rfl⟩⟩
        rw [tagd, dg3 (by omega)]
        simp
        exact IntWalk.u8_in _ (by omega)
end Go.Proofs.YtepmllodaoanmaaDoor

set_option linter.unusedVariables false
set_option linter.unusedSimpArgs false
namespace Go.Proofs.YtepmllodaoanmaaDoor
open Go Go.AX
set_option maxHeartbeats 8000000
set_option maxRecDepth 20000
/-- The tag of a value. -/
def tagOf (t : Typ) (d : Dat) : Int := if t.kind = 0 then 1 else if t.kind = 1 then 2 else if t.kind = 2 then 4 else if t.kind = 3 then 10 else if t.kind = 4 then 48 else if t.kind = 5 then 160 + d.n else if t.kind = 6 then 49 else 5
mutual
/-- The body of a value by the basic rules. -/
def bodyT : Typ → Dat → List Int
  | .mk k _ _ _ _ l, d =>
    if k = 0 then [255 * d.n % 256]
    else if k = 1 ∨ k = 3 then numL d.n
    else if k = 2 then d.b
    else if k = 4 then rowB l d.l 0
    else if k = 5 then basAt l d.n.toNat d.l
    else if k = 6 then basHd l d.l
    else []
def rowB : List Typ → List Dat → Nat → List Int
  | [], _, _ => []
  | t :: ts, ds, i => match ds with
    | [] => []
    | d :: ds => (if d.set = true then tagd (128 + i) (if t.kind = 5 then tagd (tagOf t d) (bodyT t d) else bodyT t d) else []) ++ rowB ts ds (i + 1)
def basAt : List Typ → Nat → List Dat → List Int
  | [], _, _ => []
  | t :: ts, n, ds => match n with
    | 0 => match ds with
      | [] => []
      | d :: _ => tagd (tagOf t d) (bodyT t d)
    | n + 1 => basAt ts n ds
def basHd : List Typ → List Dat → List Int
  | [], _ => []
  | t :: _, ds => (ds.map fun d => tagd (tagOf t d) (bodyT t d)).flatten
end
/-- A value by the basic rules. -/
def basT (t : Typ) (d : Dat) : List Int := tagd (tagOf t d) (bodyT t d)
theorem bodyT_eq (t : Typ) (d : Dat) : bodyT t d = (if t.kind = 0 then [255 * d.n % 256]
    else if t.kind = 1 ∨ t.kind = 3 then numL d.n
    else if t.kind = 2 then d.b
    else if t.kind = 4 then rowB t.l d.l 0
    else if t.kind = 5 then basAt t.l d.n.toNat d.l
    else if t.kind = 6 then basHd t.l d.l
    else []) := by
  cases t
  rw [bodyT]
  rfl
/-- What stands of a part in a row. -/
def partB (t : Typ) (d : Dat) (i : Nat) : List Int := if d.set = true then tagd (128 + i) (if t.kind = 5 then basT t d else bodyT t d) else []
theorem rowB_take : ∀ {l : List Typ} {ds : List Dat} {i k : Nat} {t : Typ} {d : Dat}, l[i]? = some t → ds[i]? = some d → rowB (l.take (i + 1)) (ds.take (i + 1)) k = rowB (l.take i) (ds.take i) k ++ partB t d (k + i)
  | [], _, i, k, t, d, h, _ => by simp at h
  | u :: l, [], i, k, t, d, _, h => by simp at h
  | u :: l, e :: ds, 0, k, t, d, h, h2 => by
    simp at h h2
    subst h h2
    simp only [List.take_succ_cons, List.take_zero, rowB, List.nil_append, List.append_nil]
    rfl
  | u :: l, e :: ds, i + 1, k, t, d, h, h2 => by
    have := rowB_take (l := l) (ds := ds) (i := i) (k := k + 1) (by simpa using h) (by simpa using h2)
    simp only [List.take_succ_cons, rowB, List.append_assoc] at this ⊢
    rw [this, show k + (i + 1) = k + 1 + i by omega]
theorem basAt_eq : ∀ {l : List Typ} {n : Nat} {ds : List Dat} {t : Typ} {d : Dat}, l[n]? = some t → ds[0]? = some d → basAt l n ds = basT t d
  | [], n, ds, t, d, h, _ => by simp at h
  | u :: l, 0, [], t, d, h, h2 => by simp at h2
  | u :: l, 0, e :: ds, t, d, h, h2 => by
    simp at h h2
    subst h h2
    rw [basAt]
    rfl
  | u :: l, n + 1, ds, t, d, h, h2 => by
    rw [basAt]
    exact basAt_eq (by simpa using h) h2
theorem tagd_ge (tag : Int) (b : List Int) : b.length < (tagd tag b).length := by
  rw [tagd, List.length_cons, List.length_append]
  omega
end Go.Proofs.YtepmllodaoanmaaDoor

set_option linter.unusedVariables false
set_option linter.unusedSimpArgs false
namespace Go.Proofs.YtepmllodaoanmaaDoor
open Go Go.AX
set_option maxHeartbeats 8000000
set_option maxRecDepth 20000
attribute [local irreducible] AW RL OP PureV ValV HV DL DX Tri TriR Fun RetOk ResV
def fK (k : Int) : Nat := if k = 0 then 90 else if k = 1 then 91 else if k = 2 then 92 else if k = 3 then 91 else if k = 4 then 93 else if k = 5 then 94 else if k = 6 then 95 else 96
def tag0 (k : Int) : Int := if k = 0 then 1 else if k = 1 then 2 else if k = 2 then 4 else if k = 3 then 10 else if k = 4 then 48 else if k = 5 then 160 else if k = 6 then 49 else 5
theorem entK {k : Int} (h : 0 ≤ k ∧ k ≤ 7) : Ent Tryd.prog (fK k) := by
  obtain rfl | rfl | rfl | rfl | rfl | rfl | rfl | rfl : k = 0 ∨ k = 1 ∨ k = 2 ∨ k = 3 ∨ k = 4 ∨ k = 5 ∨ k = 6 ∨ k = 7 := by omega
  · exact inferInstanceAs (Ent Tryd.prog 90)
  · exact inferInstanceAs (Ent Tryd.prog 91)
  · exact inferInstanceAs (Ent Tryd.prog 92)
  · exact inferInstanceAs (Ent Tryd.prog 91)
  · exact inferInstanceAs (Ent Tryd.prog 93)
  · exact inferInstanceAs (Ent Tryd.prog 94)
  · exact inferInstanceAs (Ent Tryd.prog 95)
  · exact inferInstanceAs (Ent Tryd.prog 96)
theorem atK {k : Int} (p : Nat) (h : 0 ≤ k ∧ k ≤ 7) : ([.mf 90 [ptr p], .mf 91 [ptr p], .mf 92 [ptr p], .mf 91 [ptr p], .mf 93 [ptr p], .mf 94 [ptr p], .mf 95 [ptr p], .mf 96 [ptr p]] : List V)[k.toNat]? = some (.mf (fK k) [ptr p]) := by
  obtain rfl | rfl | rfl | rfl | rfl | rfl | rfl | rfl : k = 0 ∨ k = 1 ∨ k = 2 ∨ k = 3 ∨ k = 4 ∨ k = 5 ∨ k = 6 ∨ k = 7 := by omega
  all_goals rfl
theorem atT {k : Int} (h : 0 ≤ k ∧ k ≤ 7) : ([byte 1, byte 2, byte 4, byte 10, byte 48, byte 160, byte 49, byte 5] : List V)[k.toNat]? = some (byte (tag0 k)) := by
  obtain rfl | rfl | rfl | rfl | rfl | rfl | rfl | rfl : k = 0 ∨ k = 1 ∨ k = 2 ∨ k = 3 ∨ k = 4 ∨ k = 5 ∨ k = 6 ∨ k = 7 := by omega
  all_goals rfl
theorem kindR {t : Typ} (h : okT t = true) : 0 ≤ t.kind ∧ t.kind ≤ 7 := by
  have := okT_cls h
  omega
/-- What a function of the writer does: what is wanted, or it is full and too much is wanted. -/
def WB (f : FuncId) (x : Typ) (u : Dat) (want : List Int) (lim : Nat) : Prop := ∀ (p : Nat) (full : Bool),
  TriR Tryd.prog f [ptr p, .agg x.cells, .agg u.cells] [.box p 69 [bool full]] fun v H' => ∃ (out : List Int) (full' : Bool), v = .ro (out.map br) ∧ H' = [.box p 69 [bool full']] ∧ out.length ≤ lim ∧ ((full' = full ∧ out = want) ∨ (full' = true ∧ 4000 < want.length))
theorem tagged58F (p : Nat) (tag : Int) (b : List Int) (full : Bool) (hlb : b.length ≤ 1048576) :
    TriR Tryd.prog 67 [ptr p, byte tag, .ro (b.map br)] [.box p 69 [bool full]] fun v H' => ∃ (out : List Int) (full' : Bool), v = .ro (out.map br) ∧ H' = [.box p 69 [bool full']] ∧ out.length ≤ 4010 ∧ ((full' = full ∧ out = tagd tag b) ∨ (full' = true ∧ 4000 < b.length)) :=
  TriR.of (Tri.mono (TriR.tri (tagged58 p tag b full hlb)) fun ae H' ⟨v, h1, out, h2, h3, h4⟩ => ⟨v, h1, by
    rcases h4 with ⟨_, k2, k3⟩ | ⟨k1, k2⟩
    · exact ⟨out, full, h2, k3, h3, .inl ⟨rfl, k2⟩⟩
    · exact ⟨out, true, h2, k2, h3, .inr ⟨rfl, k1⟩⟩⟩)
theorem value36 (t : Typ) (d : Dat) (hok : okT t = true) (hn : t.kind = 5 → 0 ≤ d.n ∧ d.n ≤ 20) (hBd : WB (fK t.kind) t d (bodyT t d) 100000) : WB 37 t d (basT t d) 4010 := by
  intro p full
  have hk := kindR hok
  have h57 := tags57
  have h59 := bodies59 p
  have hat := atT hk
  have hak := atK p hk
  haveI := entK hk
  unfold WB at hBd
  have hB1 := hBd p full
  clear hBd
  have htg : t.kind = 5 → tag0 t.kind = 160 := fun e => by rw [e]; rfl
  have htg5 : t.kind = 5 → tagOf t d = 160 + d.n := fun e => by unfold tagOf; rw [e]; rfl
  have htn : t.kind ≠ 5 → tagOf t d = tag0 t.kind := fun e => by
    unfold tagOf tag0
    repeat' split
    all_goals first | rfl | omega
  unfold basT
  generalize bodyT t d = want at hB1
  generalize tagOf t d = tg at htg5 htn
  rw [cells_eq, dcells_eq] at hB1 ⊢
  refine TriR.of (tri_of Tryd.func37 rfl Tryd.ntmps37 rfl fun j => ?_)
  repeat' (first | (with_reducible first | refine aw_seq ?_ | refine rl_nil ?_ | refine aw_region ?_ | refine then_n ?_ | refine aw_block ?_ | refine then_exit ?_ | refine then_ret ?_ | refine in_n ?_ | refine in_ret ?_ | refine aw_exit ?_ | refine aw_ret ?_ | refine aw_skip ?_ | refine in_exit_eq rfl ?_ | refine awr_succ ?_) | ((with_reducible refine k_move ?_); refine rl_pure (pv_move rfl) rfl rfl rfl ?_) | ((with_reducible refine k_assign ?_); refine rl_pure (pv_assign rfl) rfl rfl rfl ?_) | ((with_reducible refine k_load ?_); refine rl_val (vv_load_box (by rfl) by_memb (by rfl) by_bd) rfl rfl rfl ?_) | ((with_reducible refine k_fieldAddr ?_); refine rl_pure (pv_fieldAddr rfl) rfl rfl rfl ?_) | ((with_reducible refine k_box ?_); refine rl_op rfl (op_box rfl (V.okc_or (by rfl)) rfl fun b => ?_)) | ((with_reducible refine k_eql ?_); refine rl_pure (pv_eql rfl rfl) rfl rfl rfl ?_) | ((with_reducible refine k_convert ?_); refine rl_pure (pv_convert_in rfl (by first | rfl | exact IntWalk.i64_in _ (by omega) | exact IntWalk.u8_in _ (by omega) | exact IntWalk.u32_in _ (by omega))) rfl rfl rfl ?_) | (with_reducible refine dl_nil by_app ?_) | ((with_reducible refine kd_move ?_); refine dl_pure (by assumption) (pv_move rfl) by_wants rfl rfl ?_) | ((with_reducible refine kd_assign ?_); refine dl_pure (by assumption) (pv_assign rfl) by_wants rfl rfl ?_) | ((with_reducible refine kd_fieldAddr ?_); refine dl_pure (by assumption) (pv_fieldAddr rfl) by_wants rfl rfl ?_) | ((with_reducible refine kd_index ?_); refine dl_pure (by assumption) (pv_index_agg (by rfl) rfl by_bound rfl by_bd) by_wants rfl rfl ?_) | ((with_reducible refine kd_load ?_); (first | refine dl_take (by assumption) (hv_load_box (by assumption) (by rfl) by_mem0 (by rfl) by_bd) by_wants rfl rfl ?_ | refine dl_take (by assumption) (hv_load_box_whole (by assumption) (by rfl) by_mem0 (by rfl) (by first | rfl | exact tcells_len _ | exact dcells_len _)) by_wants rfl rfl ?_)) | (refine aw_draw (id := 1) [(false, 1), (false, 2), (true, 0), (false, 3), (false, 4)] [] (by kernel_rfl) (by decide +kernel) (by decide) by_lit .nil by_nos fun jd hjd => ?_) | (refine aw_draw (id := 4) [(false, 0), (false, 1), (false, 2), (false, 4), (false, 5), (false, 7), (false, 8), (true, 3), (false, 6), (true, 9), (true, 10), (false, 11)] _ (by kernel_rfl) (by decide +kernel) (by decide) by_lit (.cons (.there (.there .here)) .nil) by_nos fun jd hjd => ?_) | ((with_reducible refine k_add ?_); refine rl_pure (pv_add rfl rfl) rfl rfl rfl ?_) | ((with_reducible refine kd_callv ?_); (first | (refine dl_op (by assumption) by_wants (op_callF rfl rfl (h57) rfl ?_); intro jd hjd) | (refine dl_op (by assumption) by_wants (op_callF rfl rfl (h59) rfl ?_); intro jd hjd))) | (((with_reducible refine k_cond ?_); refine aw_cond rfl ?_ ?_) <;> ((fail_if_success (refine imp_known (by assumption) ?_)); (intro hb <;> (have hc := hb) <;> (try simp only [decide_eq_true_eq, decide_eq_false_iff_not, Int.not_lt, Int.not_le, ne_eq, Bool.not_eq_true, Bool.not_eq_false, Decidable.not_not] at hc) <;> (try (exfalso; omega)) <;> (try (exfalso; simp only [Bool.not_eq_eq_eq_not, Bool.not_true, Bool.not_false, decide_eq_true_eq, decide_eq_false_iff_not, ne_eq, Decidable.not_not, Int.not_lt, Int.not_le] at hc; omega)) <;> (try (first | contradiction | (cases hc; done))) <;> (try (first | exact absurd (hb.symm.trans (by assumption) : true = false) (by decide) | exact absurd (hb.symm.trans (by assumption) : false = true) (by decide)))))))
  all_goals
    (first | refine rl_op rfl (op_callR rfl rfl (.cons .here .nil) hB1 rfl ?_) | refine dl_op (by assumption) by_wants (op_callR rfl rfl (.cons .here .nil) hB1 rfl ?_))
    rintro _ _ ⟨out, full1, rfl, rfl, hlen, hout⟩ jd hjd
    repeat' (fail)
    (first | refine rl_op rfl (op_callR rfl rfl (.cons .here .nil) (tagged58F p _ out full1 (by omega)) rfl ?_) | refine dl_op (by assumption) by_wants (op_callR rfl rfl (.cons .here .nil) (tagged58F p _ out full1 (by omega)) rfl ?_))
    rintro _ _ ⟨out2, full2, rfl, rfl, hl2, h2⟩ jd hjd
    repeat' (first | (with_reducible first | refine aw_seq ?_ | refine rl_nil ?_ | refine aw_region ?_ | refine then_n ?_ | refine aw_block ?_ | refine then_exit ?_ | refine then_ret ?_ | refine in_n ?_ | refine in_ret ?_ | refine aw_exit ?_ | refine aw_ret ?_ | refine aw_skip ?_ | refine in_exit_eq rfl ?_ | refine awr_succ ?_) | (with_reducible refine dl_nil by_app ?_) | ((with_reducible refine kd_assign ?_); refine dl_pure (by assumption) (pv_assign rfl) by_wants rfl rfl ?_))
    (first | refine ret_r (retok_pick (.cons .here .nil) (ret1 rfl by_res (List.Sublist.refl _) ⟨_, rfl, ?_⟩)) | refine ret_n (retok_pick (.cons .here .nil) (ret1 rfl by_res (List.Sublist.refl _) ⟨_, rfl, ?_⟩)))
    refine ⟨out2, full2, rfl, rfl, hl2, ?_⟩
    have hge := tagd_ge tg want
    rcases hout with ⟨rfl, rfl⟩ | ⟨rfl, hw⟩
    · rcases h2 with ⟨rfl, rfl⟩ | ⟨rfl, hw⟩
      · refine .inl ⟨rfl, ?_⟩
        first
        | (have e1 := htg5 hc
           have e2 := htg hc
           have e3 := hn hc
           have e4 : IntKind.u8.wrap (tag0 t.kind + d.n) = tg := by rw [e2, IntWalk.u8_in _ (by omega)]; omega
           rw [e4])
        | rw [htn hc]
        | (set_option pp.deepTerms false in set_option pp.deepTerms.threshold 3 in trace_state)
      · exact .inr ⟨rfl, by omega⟩
    · refine .inr ⟨?_, by omega⟩
      rcases h2 with ⟨rfl, _⟩ | ⟨rfl, _⟩ <;> rfl
end Go.Proofs.YtepmllodaoanmaaDoor

set_option linter.unusedVariables false
set_option linter.unusedSimpArgs false
namespace Go.AX
open Go Go.AX
theorem flat_take {α : Type} {l : List α} {f : α → List Int} {i : Nat} {c : α} (h : l[i]? = some c) : ((l.take (i + 1)).map f).flatten = ((l.take i).map f).flatten ++ f c := by
  obtain ⟨g, rfl⟩ := List.getElem?_eq_some_iff.1 h
  rw [List.take_succ_eq_append_getElem g, List.map_append, List.flatten_append]
  simp
/-- A function of its arguments alone leaves what is owned besides. -/
theorem Fun.frame {P : Program} {f : FuncId} {vs : List V} {v : V} {H : List Ch} (h : Fun P f vs v) : TriR P f vs H fun u H' => u = v ∧ H' = H := fun F w xs hp hv => by
  refine Calls.mono (h (H ++ F) w xs hp hv) fun e w' ⟨ae, H', k1, k2, k3, k4, u, k5, k6, k7⟩ => ?_
  subst k7
  have hno : ∀ b, ¬ own ([] : List Ch) b := fun b => by simp [own, blks]
  have hk : Keeps (own (H ++ F)) w (own (H ++ F)) w' := ⟨k4.size, fun b hb _ => k4.block b hb (hno b), fun _ _ h => h⟩
  have hnd := hp.nd
  rw [blks_append] at hnd
  refine ⟨ae, H, k1, (List.nodup_append.1 hnd).1, fun c hc => ?_, ⟨k4.os, k4.tape, k4.output, k4.size, fun b hb _ => k4.block b hb (hno b), fun b hb => .inl hb⟩, u, k5, k6, rfl⟩
  have hs := hp.sat c (List.mem_append_left _ hc)
  exact Ch.sat_keep hk hs fun b hb => k4.block b (Ch.blk_lt hs hb) (hno b)
end Go.AX
namespace Go.Proofs.YtepmllodaoanmaaDoor
open Go Go.AX
set_option maxHeartbeats 8000000
set_option maxRecDepth 20000
attribute [local irreducible] AW RL OP PureV ValV HV DL DX Tri TriR Fun RetOk ResV
theorem wb_fun {f : FuncId} {x : Typ} {u : Dat} {want : List Int} {lim : Nat} (hl : want.length ≤ lim) (h : ∀ p full, TriR Tryd.prog f [ptr p, .agg x.cells, .agg u.cells] [.box p 69 [bool full]] fun v H' => v = .ro (want.map br) ∧ H' = [.box p 69 [bool full]]) : WB f x u want lim := fun p full =>
  TriR.of (Tri.mono (TriR.tri (h p full)) fun ae H' ⟨v, h1, h2, h3⟩ => ⟨v, h1, want, full, h2, h3, hl, .inl ⟨rfl, rfl⟩⟩)
theorem truth79 (t : Typ) (d : Dat) (h : d.n = 0 ∨ d.n = 1) : WB 90 t d [255 * d.n % 256] 100000 := wb_fun (by simp) fun p full => by
  rw [cells_eq, dcells_eq]
  refine TriR.of (tri_of Tryd.func90 rfl Tryd.ntmps90 rfl fun j => ?_)
  repeat' (first | (with_reducible first | refine aw_seq ?_ | refine rl_nil ?_ | refine aw_region ?_ | refine then_n ?_ | refine aw_block ?_ | refine then_exit ?_ | refine then_ret ?_ | refine in_n ?_ | refine in_ret ?_ | refine aw_exit ?_ | refine aw_ret ?_ | refine aw_skip ?_ | refine in_exit_eq rfl ?_ | refine awr_succ ?_) | ((with_reducible refine k_assign ?_); refine rl_pure (pv_assign rfl) rfl rfl rfl ?_) | ((with_reducible refine k_load ?_); refine rl_val (vv_load_box (by rfl) by_memb (by rfl) by_bd) rfl rfl rfl ?_) | ((with_reducible refine k_fieldAddr ?_); refine rl_pure (pv_fieldAddr rfl) rfl rfl rfl ?_) | ((with_reducible refine k_box ?_); refine rl_op rfl (op_box rfl (V.okc_or (by rfl)) rfl fun b => ?_)) | ((with_reducible refine k_neg ?_); refine rl_pure (pv_neg_in rfl (by omega)) rfl rfl rfl ?_) | ((with_reducible refine k_buildSlice ?_); refine rl_op rfl (op_buildSlice_ro rfl rfl rfl (by rfl) (by rfl) (by rfl) (by rfl) rfl by_rows ?_)) | ((with_reducible refine k_convert ?_); refine rl_pure (pv_convert_u8 rfl) rfl rfl rfl ?_))
  (first | refine ret_r (retok_pick (.cons (.there (.there .here)) .nil) (ret1 rfl by_res (List.Sublist.refl _) ⟨_, rfl, ?_⟩)) | refine ret_n (retok_pick (.cons (.there (.there .here)) .nil) (ret1 rfl by_res (List.Sublist.refl _) ⟨_, rfl, ?_⟩)))
  refine ⟨?_, rfl⟩
  rw [show 255 * d.n % 256 = -d.n % 256 by omega]
  rfl
theorem octets81 (t : Typ) (d : Dat) (h : d.b.length ≤ 255) : WB 92 t d d.b 100000 := wb_fun (by omega) fun p full => by
  rw [cells_eq, dcells_eq]
  refine TriR.of (tri_of Tryd.func92 rfl Tryd.ntmps92 rfl fun j => ?_)
  repeat' (first | (with_reducible first | refine aw_seq ?_ | refine rl_nil ?_ | refine aw_region ?_ | refine then_n ?_ | refine aw_block ?_ | refine then_exit ?_ | refine then_ret ?_ | refine in_n ?_ | refine in_ret ?_ | refine aw_exit ?_ | refine aw_ret ?_ | refine aw_skip ?_ | refine in_exit_eq rfl ?_ | refine awr_succ ?_) | ((with_reducible refine k_assign ?_); refine rl_pure (pv_assign rfl) rfl rfl rfl ?_) | ((with_reducible refine k_load ?_); refine rl_val (vv_load_box (by rfl) by_memb (by rfl) by_bd) rfl rfl rfl ?_) | ((with_reducible refine k_fieldAddr ?_); refine rl_pure (pv_fieldAddr rfl) rfl rfl rfl ?_) | ((with_reducible refine k_box ?_); refine rl_op rfl (op_box rfl (V.okc_or (by rfl)) rfl fun b => ?_)))
  (first | refine ret_r (retok_pick (.cons (.there (.there .here)) .nil) (ret1 rfl by_res (List.Sublist.refl _) ⟨_, rfl, ?_⟩)) | refine ret_n (retok_pick (.cons (.there (.there .here)) .nil) (ret1 rfl by_res (List.Sublist.refl _) ⟨_, rfl, ?_⟩)))
  exact ⟨rfl, rfl⟩
theorem nothing85 (t : Typ) (d : Dat) : WB 96 t d [] 100000 := wb_fun (by simp) fun p full => by
  rw [cells_eq, dcells_eq]
  refine TriR.of (tri_of Tryd.func96 rfl Tryd.ntmps96 rfl fun j => ?_)
  repeat' (first | (with_reducible first | refine aw_seq ?_ | refine rl_nil ?_ | refine aw_region ?_ | refine then_n ?_ | refine aw_block ?_ | refine then_exit ?_ | refine then_ret ?_ | refine in_n ?_ | refine in_ret ?_ | refine aw_exit ?_ | refine aw_ret ?_ | refine aw_skip ?_ | refine in_exit_eq rfl ?_ | refine awr_succ ?_) | ((with_reducible refine k_assign ?_); refine rl_pure (pv_assign rfl) rfl rfl rfl ?_) | ((with_reducible refine k_box ?_); refine rl_op rfl (op_box rfl (V.okc_or (by rfl)) rfl fun b => ?_)))
  refine ret_r (retok_nil_ro 6 rfl (retok_pick (.cons (.there (.there .here)) .nil) (ret1 rfl by_res (List.Sublist.refl _) ⟨_, rfl, ?_⟩)))
  exact ⟨rfl, rfl⟩
theorem number80F (t : Typ) (d : Dat) (h : -1099511627776 ≤ d.n ∧ d.n ≤ 1099511627776) : WB 91 t d (numL d.n) 100000 := wb_fun (by have := numL_len d.n; omega) fun p full => (number80 t d p h).frame
theorem choice83 (t : Typ) (d : Dat) (x : Typ) (u : Dat) (k : Nat) (hkn : d.n = k) (hx : t.l[k]? = some x) (hu : d.l[0]? = some u) (hlen : t.l.length ≤ 1048576) (hv : WB 37 x u (basT x u) 4010) : WB 94 t d (basT x u) 100000 := by
  intro p full
  unfold WB at hv
  have hv1 := hv p full
  clear hv
  have hr1 : (t.l.map Typ.cells)[k]? = some x.cells := by simp [hx]
  have hr2 : (d.l.map Dat.cells)[0]? = some u.cells := by simp [hu]
  have hkl : k < t.l.length := (List.getElem?_eq_some_iff.1 hx).1
  have hul : 0 < d.l.length := (List.getElem?_eq_some_iff.1 hu).1
  rw [cells_eq x] at hr1 hv1
  rw [dcells_eq u] at hr2 hv1
  rw [cells_eq, dcells_eq, hkn]
  refine TriR.of (tri_of Tryd.func94 rfl Tryd.ntmps94 rfl fun j => ?_)
  repeat' (first | (with_reducible first | refine aw_seq ?_ | refine rl_nil ?_ | refine aw_region ?_ | refine then_n ?_ | refine aw_block ?_ | refine then_exit ?_ | refine then_ret ?_ | refine in_n ?_ | refine in_ret ?_ | refine aw_exit ?_ | refine aw_ret ?_ | refine aw_skip ?_ | refine in_exit_eq rfl ?_ | refine awr_succ ?_) | ((with_reducible refine k_assign ?_); refine rl_pure (pv_assign rfl) rfl rfl rfl ?_) | ((with_reducible refine k_box ?_); refine rl_op rfl (op_box rfl (V.okc_or (by rfl)) rfl fun b => ?_)) | ((with_reducible refine kd_move ?_); refine dl_pure (by assumption) (pv_move rfl) by_wants rfl rfl ?_) | ((with_reducible refine kd_fieldAddr ?_); refine dl_pure (by assumption) (pv_fieldAddr rfl) by_wants rfl rfl ?_) | ((with_reducible refine kd_indexAddr ?_); refine dl_pure (by assumption) (pv_indexAddr_ro (by rfl) rfl (by omega) (by first | rfl | assumption) (by first | rfl | exact tcells_len _ | exact dcells_len _)) by_wants rfl rfl ?_) | ((with_reducible refine kd_load ?_); (first | refine dl_take (by assumption) (hv_load_ro_whole (by assumption) (by rfl) (by rfl) (by first | rfl | exact tcells_len _ | exact dcells_len _)) by_wants rfl rfl ?_ | refine dl_take (by assumption) (hv_load_box (by assumption) (by rfl) by_mem0 (by rfl) by_bd) by_wants rfl rfl ?_)) | (refine aw_draw (id := 1) [(false, 0), (false, 1), (false, 2), (false, 3), (false, 4), (false, 5), (false, 6), (false, 7), (false, 8), (false, 9), (false, 10), (true, 11), (false, 12)] _ (by kernel_rfl) (by decide +kernel) (by decide) by_lit (.cons (.there (.there .here)) .nil) by_nos fun jd hjd => ?_))
  (first | refine rl_op rfl (op_callR rfl rfl (.cons .here .nil) hv1 rfl ?_) | refine dl_op (by assumption) by_wants (op_callR rfl rfl (.cons .here .nil) hv1 rfl ?_))
  rintro _ _ ⟨out, full1, rfl, rfl, hl1, h1⟩ jd hjd
  repeat' (first | (with_reducible first | refine aw_seq ?_ | refine rl_nil ?_ | refine aw_region ?_ | refine then_n ?_ | refine aw_block ?_ | refine then_exit ?_ | refine then_ret ?_ | refine in_n ?_ | refine in_ret ?_ | refine aw_exit ?_ | refine aw_ret ?_ | refine aw_skip ?_ | refine in_exit_eq rfl ?_ | refine awr_succ ?_) | (with_reducible refine dl_nil by_app ?_) | ((with_reducible refine kd_assign ?_); refine dl_pure (by assumption) (pv_assign rfl) by_wants rfl rfl ?_))
  (first | refine ret_r (retok_pick (.cons .here .nil) (ret1 rfl by_res (List.Sublist.refl _) ⟨_, rfl, ?_⟩)) | refine ret_n (retok_pick (.cons .here .nil) (ret1 rfl by_res (List.Sublist.refl _) ⟨_, rfl, ?_⟩)))
  exact ⟨out, full1, rfl, rfl, by omega, h1⟩
theorem list84 (t : Typ) (d : Dat) (x : Typ) (hx : t.l[0]? = some x) (hdl : d.l.length ≤ 1048576) (hv : ∀ u ∈ d.l, WB 37 x u (basT x u) 4010) : WB 95 t d ((d.l.map fun u => basT x u).flatten) 100000 := by
  intro p full
  have hr1 : (t.l.map Typ.cells)[0]? = some x.cells := by simp [hx]
  have hxl : 0 < t.l.length := (List.getElem?_eq_some_iff.1 hx).1
  rw [cells_eq x] at hr1
  rw [cells_eq t, dcells_eq]
  refine TriR.of (tri_of Tryd.func95 rfl Tryd.ntmps95 rfl fun j => ?_)
  repeat' (first | (with_reducible first | refine aw_seq ?_ | refine rl_nil ?_ | refine aw_region ?_ | refine then_n ?_ | refine aw_block ?_ | refine then_exit ?_ | refine then_ret ?_ | refine in_n ?_ | refine in_ret ?_ | refine aw_exit ?_ | refine aw_ret ?_ | refine aw_skip ?_ | refine in_exit_eq rfl ?_ | refine awr_succ ?_) | ((with_reducible refine k_move ?_); refine rl_pure (pv_move rfl) rfl rfl rfl ?_) | ((with_reducible refine k_assign ?_); refine rl_pure (pv_assign rfl) rfl rfl rfl ?_) | ((with_reducible refine k_load ?_); refine rl_val (vv_load_box (by rfl) by_memb (by rfl) by_bd) rfl rfl rfl ?_) | ((with_reducible refine k_fieldAddr ?_); refine rl_pure (pv_fieldAddr rfl) rfl rfl rfl ?_) | ((with_reducible refine k_box ?_); refine rl_op rfl (op_box rfl (V.okc_or (by rfl)) rfl fun b => ?_)) | ((with_reducible refine k_len ?_); refine rl_pure (pv_len_ro' (by rfl) by_len) rfl rfl rfl ?_))
  refine aw_nil_own 7 5 1 rfl ?_
  revert b; intro bd
  obtain ⟨tot, htot⟩ : ∃ tot, (d.l.map fun u => basT x u).flatten = tot := ⟨_, rfl⟩
  rw [htot]
  refine aw_iter (α := Nat × Value × List Int × Bool) (fun q => [(0, ptr p), (4, ptr b), (7, .own q.2.1), (11, .ro (d.l.map Dat.cells)), (12, int d.l.length), (13, int q.1)])
    (fun q => [.vec q.2.1 5 1 (q.2.2.1.map br), .box p 69 [bool q.2.2.2], .box b 24 [int t.kind, str t.name, int t.lo, int t.hi, bool t.opt, .ro (t.l.map Typ.cells)]])
    (fun q => q.1 ≤ d.l.length ∧ q.2.2.1.length ≤ 4000 ∧ ((q.2.2.2 = full ∧ q.2.2.1 = ((d.l.take q.1).map fun u => basT x u).flatten) ∨ (q.2.2.2 = true ∧ 4000 < tot.length))) (fun q => d.l.length - q.1)
    (0, .slice none 0 0, [], full) ⟨Nat.zero_le _, by simp, .inl ⟨rfl, by simp⟩⟩ (by (repeat (first | exact sub_nil | refine sub_cons (by first | rfl | (simp; done)) ?_))) (.cons .here (.cons (.there (.there .here)) (.cons (.there .here) .nil))) fun q hI => ?_
  obtain ⟨i, so, out, f⟩ := q
  dsimp only at hI ⊢
  obtain ⟨hi, hol, hI⟩ := hI
  rcases Nat.lt_or_ge i d.l.length with hlt | hge
  · obtain ⟨u, hu⟩ : ∃ u, d.l[i]? = some u := ⟨_, List.getElem?_eq_getElem hlt⟩
    have hr2 : (d.l.map Dat.cells)[i]? = some u.cells := by simp [hu]
    have hft := flat_take (f := fun u => basT x u) hu
    have hle : ((d.l.take (i + 1)).map fun u => basT x u).flatten.length ≤ tot.length := by
      rw [← htot]
      conv => rhs; rw [← List.take_append_drop (i + 1) d.l, List.map_append, List.flatten_append, List.length_append]
      omega
    have hv1 := hv u (List.mem_of_getElem? hu)
    clear hv
    unfold WB at hv1
    have hv1 := hv1 p f
    rw [hft] at hle
    rw [List.length_append] at hle
    rw [cells_eq x] at hv1
    rw [dcells_eq u] at hr2 hv1
    repeat' (first | (with_reducible first | refine aw_seq ?_ | refine rl_nil ?_ | refine aw_region ?_ | refine then_n ?_ | refine aw_block ?_ | refine then_exit ?_ | refine then_ret ?_ | refine in_n ?_ | refine in_ret ?_ | refine aw_exit ?_ | refine aw_ret ?_ | refine aw_skip ?_ | refine in_exit_eq rfl ?_ | refine awr_succ ?_) | ((with_reducible refine k_load ?_); refine rl_val (vv_load_ro_whole (by rfl) (by rfl) (by first | rfl | exact tcells_len _ | exact dcells_len _)) rfl rfl rfl ?_) | ((with_reducible refine k_store ?_); refine rl_op rfl (op_store_box_whole (by rfl) (by rfl) (V.okc_or (by rfl)) by_upd (by first | rfl | exact tcells_len _ | exact dcells_len _) (by first | rfl | exact tcells_len _ | exact dcells_len _) ?_)) | ((with_reducible refine k_alloc ?_); refine rl_op rfl (op_alloc (by decide) rfl fun b => ?_)) | ((with_reducible refine k_lss ?_); refine rl_pure (pv_lss rfl rfl) rfl rfl rfl ?_) | ((with_reducible refine k_indexAddr ?_); refine rl_pure (pv_indexAddr_ro (by rfl) rfl (by omega) (by first | rfl | assumption) (by first | rfl | exact tcells_len _ | exact dcells_len _)) rfl rfl rfl ?_) | ((with_reducible refine kd_move ?_); refine dl_pure (by assumption) (pv_move rfl) by_wants rfl rfl ?_) | ((with_reducible refine kd_fieldAddr ?_); refine dl_pure (by assumption) (pv_fieldAddr rfl) by_wants rfl rfl ?_) | ((with_reducible refine kd_indexAddr ?_); refine dl_pure (by assumption) (pv_indexAddr_ro (by rfl) rfl (by omega) (by first | rfl | assumption) (by first | rfl | exact tcells_len _ | exact dcells_len _)) by_wants rfl rfl ?_) | ((with_reducible refine kd_load ?_); (first | refine dl_take (by assumption) (hv_load_ro_whole (by assumption) (by rfl) (by rfl) (by first | rfl | exact tcells_len _ | exact dcells_len _)) by_wants rfl rfl ?_ | refine dl_take (by assumption) (hv_load_box (by assumption) (by rfl) by_mem0 (by rfl) by_bd) by_wants rfl rfl ?_ | refine dl_take (by assumption) (hv_load_box_whole (by assumption) (by rfl) by_mem0 (by rfl) (by first | rfl | exact tcells_len _ | exact dcells_len _)) by_wants rfl rfl ?_)) | (refine aw_draw (id := 5) [(false, 0), (false, 1), (false, 2), (false, 3), (false, 4), (false, 5), (false, 6), (true, 7), (true, 8), (false, 9)] _ (by kernel_rfl) (by decide +kernel) (by decide) by_lit (.cons (.there .here) (.cons (.there .here) .nil)) by_nos fun jd hjd => ?_) | (((with_reducible refine k_cond ?_); refine aw_cond rfl ?_ ?_) <;> ((fail_if_success (refine imp_known (by assumption) ?_)); (intro hb <;> (have hc := hb) <;> (try simp only [decide_eq_true_eq, decide_eq_false_iff_not, Int.not_lt, Int.not_le, ne_eq, Bool.not_eq_true, Bool.not_eq_false, Decidable.not_not] at hc) <;> (try (exfalso; omega)) <;> (try (exfalso; simp only [Bool.not_eq_eq_eq_not, Bool.not_true, Bool.not_false, decide_eq_true_eq, decide_eq_false_iff_not, ne_eq, Decidable.not_not, Int.not_lt, Int.not_le] at hc; omega)) <;> (try (first | contradiction | (cases hc; done))) <;> (try (first | exact absurd (hb.symm.trans (by assumption) : true = false) (by decide) | exact absurd (hb.symm.trans (by assumption) : false = true) (by decide)))))))
    (first | refine rl_op rfl (op_callR rfl rfl (.cons (.there .here) .nil) hv1 rfl ?_) | refine dl_op (by assumption) by_wants (op_callR rfl rfl (.cons (.there .here) .nil) hv1 rfl ?_))
    rintro _ _ ⟨o1, f1, rfl, rfl, hl1, h1⟩ jd hjd
    repeat' (fail)
    (first | refine rl_op rfl (op_append rfl (.there .here) rfl rfl rfl rfl (by first | (intro r hr; obtain ⟨_, _, rfl⟩ := List.mem_map.1 hr; rfl) | (simp; done) | (simp [V.cells]; done)) by_small rfl fun sv' => ?_) | (refine dl_op (by assumption) by_wants (op_append rfl (.there .here) rfl rfl rfl rfl (by first | (intro r hr; obtain ⟨_, _, rfl⟩ := List.mem_map.1 hr; rfl) | (simp; done) | (simp [V.cells]; done)) by_small rfl fun sv' => ?_); intro jd hjd))
    have hkey : (f1 = full ∧ out ++ o1 = ((d.l.take (i + 1)).map fun u => basT x u).flatten) ∨ (f1 = true ∧ 4000 < tot.length) := by
      rcases h1 with ⟨rfl, rfl⟩ | ⟨rfl, h2⟩
      · rcases hI with ⟨rfl, rfl⟩ | ⟨rfl, h3⟩
        · exact .inl ⟨rfl, hft.symm⟩
        · exact .inr ⟨rfl, h3⟩
      · exact .inr ⟨rfl, by omega⟩
    have hap : out.map br ++ o1.map br = (out ++ o1).map br := by rw [List.map_append]
    rw [hap] at hjd ⊢
    have hal : (out ++ o1).length = out.length + o1.length := List.length_append
    have hkl : f1 = full ∧ out ++ o1 = ((d.l.take (i + 1)).map fun u => basT x u).flatten → (out ++ o1).length ≤ tot.length := fun h => by
      rw [h.2, hft, List.length_append]
      exact hle
    generalize out ++ o1 = o2 at hkey hal hkl hjd ⊢
    repeat' (first | (first | (with_reducible first | refine aw_seq ?_ | refine rl_nil ?_ | refine aw_region ?_ | refine then_n ?_ | refine aw_block ?_ | refine then_exit ?_ | refine then_ret ?_ | refine in_n ?_ | refine in_ret ?_ | refine aw_exit ?_ | refine aw_ret ?_ | refine aw_skip ?_ | refine in_exit_eq rfl ?_ | refine awr_succ ?_) | (refine in_exit_ne (by decide) ?_)) | ((with_reducible refine k_move ?_); refine rl_pure (pv_move rfl) rfl rfl rfl ?_) | ((with_reducible refine k_assign ?_); refine rl_pure (pv_assign rfl) rfl rfl rfl ?_) | ((with_reducible refine k_fieldAddr ?_); refine rl_pure (pv_fieldAddr rfl) rfl rfl rfl ?_) | ((with_reducible refine k_store ?_); refine rl_op rfl (op_store_box_whole (by rfl) (by rfl) (V.okc_or (by rfl)) by_upd (by first | rfl | exact tcells_len _ | exact dcells_len _) (by first | rfl | exact tcells_len _ | exact dcells_len _) ?_)) | ((with_reducible refine k_gtr ?_); refine rl_pure (pv_gtr rfl rfl) rfl rfl rfl ?_) | ((with_reducible refine k_add ?_); refine rl_pure (pv_add_in rfl rfl (by omega)) rfl rfl rfl ?_) | ((with_reducible refine k_len ?_); refine rl_pure (pv_len_own' (by rfl) by_memb by_len) rfl rfl rfl ?_) | ((with_reducible refine k_nilCheck ?_); refine rl_pure (pv_nilCheck rfl) rfl rfl rfl ?_) | (with_reducible refine dl_nil by_app ?_) | ((with_reducible refine kd_assign ?_); refine dl_pure (by assumption) (pv_assign rfl) by_wants rfl rfl ?_) | (((with_reducible refine k_cond ?_); refine aw_cond rfl ?_ ?_) <;> ((fail_if_success (refine imp_known (by assumption) ?_)); (intro hb <;> (have hc := hb) <;> (try simp only [decide_eq_true_eq, decide_eq_false_iff_not, Int.not_lt, Int.not_le, ne_eq, Bool.not_eq_true, Bool.not_eq_false, Decidable.not_not] at hc) <;> (try (exfalso; omega)) <;> (try (exfalso; simp only [Bool.not_eq_eq_eq_not, Bool.not_true, Bool.not_false, decide_eq_true_eq, decide_eq_false_iff_not, ne_eq, Decidable.not_not, Int.not_lt, Int.not_le] at hc; omega)) <;> (try (first | contradiction | (cases hc; done))) <;> (try (first | exact absurd (hb.symm.trans (by assumption) : true = false) (by decide) | exact absurd (hb.symm.trans (by assumption) : false = true) (by decide)))))))
    · refine ret_r (retok_freeze (d := 6) rfl .here (retok_pick (.cons .here .nil) (ret1 rfl by_res (List.Sublist.refl _) ⟨_, rfl, ?_⟩)))
      refine ⟨o2, true, rfl, rfl, by omega, .inr ⟨rfl, ?_⟩⟩
      rcases hkey with h | h
      · have := hkl h; omega
      · exact h.2
    · exact next_of (R := [_]) (i + 1, sv', o2, f1) ⟨hlt, by dsimp only; omega, hkey⟩ (by dsimp only; omega) (by (repeat (first | exact sub_nil | refine sub_cons (by first | rfl | (simp; done)) ?_))) (.cons .here (.cons .here (.cons (.there .here) .nil)))
  · have hki : i = d.l.length := by omega
    subst hki
    rw [List.take_of_length_le (Nat.le_refl _), htot] at hI
    repeat' (first | (with_reducible first | refine aw_seq ?_ | refine rl_nil ?_ | refine aw_region ?_ | refine then_n ?_ | refine aw_block ?_ | refine then_exit ?_ | refine then_ret ?_ | refine in_n ?_ | refine in_ret ?_ | refine aw_exit ?_ | refine aw_ret ?_ | refine aw_skip ?_ | refine in_exit_eq rfl ?_ | refine awr_succ ?_) | ((with_reducible refine k_move ?_); refine rl_pure (pv_move rfl) rfl rfl rfl ?_) | ((with_reducible refine k_assign ?_); refine rl_pure (pv_assign rfl) rfl rfl rfl ?_) | ((with_reducible refine k_lss ?_); refine rl_pure (pv_lss rfl rfl) rfl rfl rfl ?_) | (((with_reducible refine k_cond ?_); refine aw_cond rfl ?_ ?_) <;> ((fail_if_success (refine imp_known (by assumption) ?_)); (intro hb <;> (have hc := hb) <;> (try simp only [decide_eq_true_eq, decide_eq_false_iff_not, Int.not_lt, Int.not_le, ne_eq, Bool.not_eq_true, Bool.not_eq_false, Decidable.not_not] at hc) <;> (try (exfalso; omega)) <;> (try (exfalso; simp only [Bool.not_eq_eq_eq_not, Bool.not_true, Bool.not_false, decide_eq_true_eq, decide_eq_false_iff_not, ne_eq, Decidable.not_not, Int.not_lt, Int.not_le] at hc; omega)) <;> (try (first | contradiction | (cases hc; done))) <;> (try (first | exact absurd (hb.symm.trans (by assumption) : true = false) (by decide) | exact absurd (hb.symm.trans (by assumption) : false = true) (by decide)))))))
    refine ret_r (retok_freeze (d := 6) rfl .here (retok_pick (.cons .here .nil) (ret1 rfl by_res (List.Sublist.refl _) ⟨_, rfl, ?_⟩)))
    exact ⟨out, f, rfl, rfl, by omega, hI⟩
end Go.Proofs.YtepmllodaoanmaaDoor

set_option linter.unusedVariables false
set_option linter.unusedSimpArgs false
namespace Go.Proofs.YtepmllodaoanmaaDoor
open Go Go.AX
set_option maxHeartbeats 8000000
set_option maxRecDepth 20000
attribute [local irreducible] AW RL OP PureV ValV HV DL DX Tri TriR Fun RetOk ResV
theorem rowB_mono : ∀ (l : List Typ) (ds : List Dat) (i k : Nat), (rowB (l.take i) (ds.take i) k).length ≤ (rowB l ds k).length
  | [], _, i, k => by rw [List.take_nil, rowB]; exact Nat.zero_le _
  | t :: l, [], i, k => by rw [List.take_nil]; cases i <;> simp [rowB]
  | t :: l, d :: ds, 0, k => by rw [List.take_zero, rowB]; exact Nat.zero_le _
  | t :: l, d :: ds, i + 1, k => by
    rw [List.take_succ_cons, List.take_succ_cons, rowB, rowB, List.length_append, List.length_append]
    have := rowB_mono l ds i (k + 1)
    omega
theorem row82 (t : Typ) (d : Dat) (hl : d.l.length = t.l.length) (hlen : t.l.length ≤ 20) (hk : ∀ (i : Nat) x u, t.l[i]? = some x → d.l[i]? = some u → u.set = true → u.kind = x.kind ∧ okT x = true ∧ WB (fK x.kind) x u (bodyT x u) 100000 ∧ WB 37 x u (basT x u) 4010) : WB 93 t d (rowB t.l d.l 0) 100000 := by
  intro p full
  have h59 := bodies59 p
  rw [cells_eq t, dcells_eq]
  refine TriR.of (tri_of Tryd.func93 rfl Tryd.ntmps93 rfl fun j => ?_)
  repeat' (first | (with_reducible first | refine aw_seq ?_ | refine rl_nil ?_ | refine aw_region ?_ | refine then_n ?_ | refine aw_block ?_ | refine then_exit ?_ | refine then_ret ?_ | refine in_n ?_ | refine in_ret ?_ | refine aw_exit ?_ | refine aw_ret ?_ | refine aw_skip ?_ | refine in_exit_eq rfl ?_ | refine awr_succ ?_) | ((with_reducible refine k_move ?_); refine rl_pure (pv_move rfl) rfl rfl rfl ?_) | ((with_reducible refine k_assign ?_); refine rl_pure (pv_assign rfl) rfl rfl rfl ?_) | ((with_reducible refine k_load ?_); refine rl_val (vv_load_box (by rfl) by_memb (by rfl) by_bd) rfl rfl rfl ?_) | ((with_reducible refine k_fieldAddr ?_); refine rl_pure (pv_fieldAddr rfl) rfl rfl rfl ?_) | ((with_reducible refine k_box ?_); refine rl_op rfl (op_box rfl (V.okc_or (by rfl)) rfl fun b => ?_)) | ((with_reducible refine k_len ?_); refine rl_pure (pv_len_ro' (by rfl) by_len) rfl rfl rfl ?_))
  refine aw_nil_own 7 5 1 rfl ?_
  revert b; intro bd
  obtain ⟨tot, htot⟩ : ∃ tot, rowB t.l d.l 0 = tot := ⟨_, rfl⟩
  rw [htot]
  refine aw_iter (α := Nat × Value × List Int × Bool) (fun q => [(0, ptr p), (4, ptr b), (7, .own q.2.1), (12, .ro (d.l.map Dat.cells)), (13, int d.l.length), (14, int q.1)])
    (fun q => [.vec q.2.1 5 1 (q.2.2.1.map br), .box p 69 [bool q.2.2.2], .box b 24 [int t.kind, str t.name, int t.lo, int t.hi, bool t.opt, .ro (t.l.map Typ.cells)]])
    (fun q => q.1 ≤ d.l.length ∧ q.2.2.1.length ≤ 4010 * q.1 ∧ ((q.2.2.2 = full ∧ q.2.2.1 = rowB (t.l.take q.1) (d.l.take q.1) 0) ∨ (q.2.2.2 = true ∧ 4000 < tot.length))) (fun q => d.l.length - q.1)
    (0, .slice none 0 0, [], full) ⟨Nat.zero_le _, by simp, .inl ⟨rfl, by simp [rowB]⟩⟩ (by (repeat (first | exact sub_nil | refine sub_cons (by first | rfl | (simp; done)) ?_))) (.cons .here (.cons (.there (.there .here)) (.cons (.there .here) .nil))) fun q hI => ?_
  obtain ⟨i, so, out, f⟩ := q
  dsimp only at hI ⊢
  obtain ⟨hi, hol, hI⟩ := hI
  rcases Nat.lt_or_ge i d.l.length with hlt | hge
  · obtain ⟨x, hx⟩ : ∃ x, t.l[i]? = some x := ⟨_, List.getElem?_eq_getElem (by omega)⟩
    obtain ⟨u, hu⟩ : ∃ u, d.l[i]? = some u := ⟨_, List.getElem?_eq_getElem hlt⟩
    have hr1 : (t.l.map Typ.cells)[i]? = some x.cells := by simp [hx]
    have hr2 : (d.l.map Dat.cells)[i]? = some u.cells := by simp [hu]
    have hft := rowB_take (k := 0) hx hu
    have hle := rowB_mono t.l d.l (i + 1) 0
    rw [htot, hft, List.length_append, Nat.zero_add] at hle
    rw [Nat.zero_add] at hft
    have hkid := hk i x u hx hu
    clear hk
    unfold WB at hkid
    rw [cells_eq x] at hr1 hkid
    rw [dcells_eq u] at hr2 hkid
    cases hs : u.set
    · rw [hs] at hr2
      have hpb : partB x u i = [] := by rw [partB, if_neg (by simp [hs])]
      clear hkid
      repeat' (first | (with_reducible first | refine aw_seq ?_ | refine rl_nil ?_ | refine aw_region ?_ | refine then_n ?_ | refine aw_block ?_ | refine then_exit ?_ | refine then_ret ?_ | refine in_n ?_ | refine in_ret ?_ | refine aw_exit ?_ | refine aw_ret ?_ | refine aw_skip ?_ | refine in_exit_eq rfl ?_ | refine awr_succ ?_) | ((with_reducible refine k_move ?_); refine rl_pure (pv_move rfl) rfl rfl rfl ?_) | ((with_reducible refine k_assign ?_); refine rl_pure (pv_assign rfl) rfl rfl rfl ?_) | ((with_reducible refine k_load ?_); (first | refine rl_val (vv_load_ro_whole (by rfl) (by rfl) (by first | rfl | exact tcells_len _ | exact dcells_len _)) rfl rfl rfl ?_ | refine rl_val (vv_load_box (by rfl) by_memb (by rfl) by_bd) rfl rfl rfl ?_)) | ((with_reducible refine k_fieldAddr ?_); refine rl_pure (pv_fieldAddr rfl) rfl rfl rfl ?_) | ((with_reducible refine k_store ?_); refine rl_op rfl (op_store_box_whole (by rfl) (by rfl) (V.okc_or (by rfl)) by_upd (by first | rfl | exact tcells_len _ | exact dcells_len _) (by first | rfl | exact tcells_len _ | exact dcells_len _) ?_)) | ((with_reducible refine k_alloc ?_); refine rl_op rfl (op_alloc (by decide) rfl fun b => ?_)) | ((with_reducible refine k_lss ?_); refine rl_pure (pv_lss rfl rfl) rfl rfl rfl ?_) | ((with_reducible refine k_add ?_); refine rl_pure (pv_add_in rfl rfl (by omega)) rfl rfl rfl ?_) | ((with_reducible refine k_not ?_); refine rl_pure (pv_not rfl) rfl rfl rfl ?_) | ((with_reducible refine k_indexAddr ?_); refine rl_pure (pv_indexAddr_ro (by rfl) rfl (by omega) (by first | rfl | assumption) (by first | rfl | exact tcells_len _ | exact dcells_len _)) rfl rfl rfl ?_) | ((with_reducible refine k_cond ?_); refine aw_cond_t rfl ?_) | (((with_reducible refine k_cond ?_); refine aw_cond rfl ?_ ?_) <;> ((fail_if_success (refine imp_known (by assumption) ?_)); (intro hb <;> (have hc := hb) <;> (try simp only [decide_eq_true_eq, decide_eq_false_iff_not, Int.not_lt, Int.not_le, ne_eq, Bool.not_eq_true, Bool.not_eq_false, Decidable.not_not] at hc) <;> (try (exfalso; omega)) <;> (try (exfalso; simp only [Bool.not_eq_eq_eq_not, Bool.not_true, Bool.not_false, decide_eq_true_eq, decide_eq_false_iff_not, ne_eq, Decidable.not_not, Int.not_lt, Int.not_le] at hc; omega)) <;> (try (first | contradiction | (cases hc; done))) <;> (try (first | exact absurd (hb.symm.trans (by assumption) : true = false) (by decide) | exact absurd (hb.symm.trans (by assumption) : false = true) (by decide)))))))
      exact next_of (R := [_]) (i + 1, so, out, f) ⟨hlt, by dsimp only; omega, by dsimp only; rw [hft, hpb, List.append_nil]; exact hI⟩ (by dsimp only; omega) (by (repeat (first | exact sub_nil | refine sub_cons (by first | rfl | (simp; done)) ?_))) (.cons (.there .here) (.cons (.there .here) (.cons (.there .here) .nil)))
    · obtain ⟨hku, hokx, hb1, hb2⟩ := hkid hs
      have hkx := kindR hokx
      have hak := atK p hkx
      haveI := entK hkx
      have hb1 := hb1 p f
      have hb2 := hb2 p
      rw [hs] at hr2 hb1 hb2
      rw [hku] at hr2 hb1 hb2
      have hpb : partB x u i = tagd (128 + i) (if x.kind = 5 then basT x u else bodyT x u) := by rw [partB, if_pos hs]
      have e4 : IntKind.u8.wrap (128 + (i : Int)) = 128 + i := IntWalk.u8_in _ (by omega)
      have hbb : (bodyT x u).length < (basT x u).length := tagd_ge _ _
      repeat' (first | (with_reducible first | refine aw_seq ?_ | refine rl_nil ?_ | refine aw_region ?_ | refine then_n ?_ | refine aw_block ?_ | refine then_exit ?_ | refine then_ret ?_ | refine in_n ?_ | refine in_ret ?_ | refine aw_exit ?_ | refine aw_ret ?_ | refine aw_skip ?_ | refine in_exit_eq rfl ?_ | refine awr_succ ?_) | ((with_reducible refine k_move ?_); refine rl_pure (pv_move rfl) rfl rfl rfl ?_) | ((with_reducible refine k_assign ?_); refine rl_pure (pv_assign rfl) rfl rfl rfl ?_) | ((with_reducible refine k_load ?_); (first | refine rl_val (vv_load_ro_whole (by rfl) (by rfl) (by first | rfl | exact tcells_len _ | exact dcells_len _)) rfl rfl rfl ?_ | refine rl_val (vv_load_box (by rfl) by_memb (by rfl) by_bd) rfl rfl rfl ?_)) | ((with_reducible refine k_fieldAddr ?_); refine rl_pure (pv_fieldAddr rfl) rfl rfl rfl ?_) | ((with_reducible refine k_store ?_); refine rl_op rfl (op_store_box_whole (by rfl) (by rfl) (V.okc_or (by rfl)) by_upd (by first | rfl | exact tcells_len _ | exact dcells_len _) (by first | rfl | exact tcells_len _ | exact dcells_len _) ?_)) | ((with_reducible refine k_alloc ?_); refine rl_op rfl (op_alloc (by decide) rfl fun b => ?_)) | ((with_reducible refine k_lss ?_); refine rl_pure (pv_lss rfl rfl) rfl rfl rfl ?_) | ((with_reducible refine k_not ?_); refine rl_pure (pv_not rfl) rfl rfl rfl ?_) | ((with_reducible refine k_indexAddr ?_); refine rl_pure (pv_indexAddr_ro (by rfl) rfl (by omega) (by first | rfl | assumption) (by first | rfl | exact tcells_len _ | exact dcells_len _)) rfl rfl rfl ?_) | ((with_reducible refine k_cond ?_); refine aw_cond_f rfl ?_) | ((with_reducible refine kd_move ?_); refine dl_pure (by assumption) (pv_move rfl) by_wants rfl rfl ?_) | ((with_reducible refine kd_fieldAddr ?_); refine dl_pure (by assumption) (pv_fieldAddr rfl) by_wants rfl rfl ?_) | ((with_reducible refine kd_index ?_); refine dl_pure (by assumption) (pv_index_agg (by rfl) rfl by_bound rfl by_bd) by_wants rfl rfl ?_) | ((with_reducible refine kd_indexAddr ?_); refine dl_pure (by assumption) (pv_indexAddr_ro (by rfl) rfl (by omega) (by first | rfl | assumption) (by first | rfl | exact tcells_len _ | exact dcells_len _)) by_wants rfl rfl ?_) | ((with_reducible refine kd_load ?_); (first | refine dl_take (by assumption) (hv_load_ro_whole (by assumption) (by rfl) (by rfl) (by first | rfl | exact tcells_len _ | exact dcells_len _)) by_wants rfl rfl ?_ | refine dl_take (by assumption) (hv_load_box (by assumption) (by rfl) by_mem0 (by rfl) by_bd) by_wants rfl rfl ?_ | refine dl_take (by assumption) (hv_load_box_whole (by assumption) (by rfl) by_mem0 (by rfl) (by first | rfl | exact tcells_len _ | exact dcells_len _)) by_wants rfl rfl ?_)) | (refine aw_draw (id := 6) [(false, 0), (false, 2), (false, 3), (false, 5), (false, 6), (false, 7), (false, 8), (false, 9), (false, 10), (true, 1), (false, 4), (true, 11), (false, 12)] _ (by kernel_rfl) (by decide +kernel) (by decide) by_lit (.cons (.there (.there .here)) .nil) by_nos fun jd hjd => ?_) | ((with_reducible refine kd_callv ?_); (refine dl_op (by assumption) by_wants (op_callF rfl rfl (h59) rfl ?_); intro jd hjd)) | (((with_reducible refine k_cond ?_); refine aw_cond rfl ?_ ?_) <;> ((fail_if_success (refine imp_known (by assumption) ?_)); (intro hb <;> (have hc := hb) <;> (try simp only [decide_eq_true_eq, decide_eq_false_iff_not, Int.not_lt, Int.not_le, ne_eq, Bool.not_eq_true, Bool.not_eq_false, Decidable.not_not] at hc) <;> (try (exfalso; omega)) <;> (try (exfalso; simp only [Bool.not_eq_eq_eq_not, Bool.not_true, Bool.not_false, decide_eq_true_eq, decide_eq_false_iff_not, ne_eq, Decidable.not_not, Int.not_lt, Int.not_le] at hc; omega)) <;> (try (first | contradiction | (cases hc; done))) <;> (try (first | exact absurd (hb.symm.trans (by assumption) : true = false) (by decide) | exact absurd (hb.symm.trans (by assumption) : false = true) (by decide)))))))
      (first | refine rl_op rfl (op_callR rfl rfl (.cons .here .nil) hb1 rfl ?_) | refine dl_op (by assumption) by_wants (op_callR rfl rfl (.cons .here .nil) hb1 rfl ?_))
      rintro _ _ ⟨o1, f1, rfl, rfl, hl1, h1⟩ jd hjd
      repeat' (first | (with_reducible first | refine aw_seq ?_ | refine rl_nil ?_ | refine aw_region ?_ | refine then_n ?_ | refine aw_block ?_ | refine then_exit ?_ | refine then_ret ?_ | refine in_n ?_ | refine in_ret ?_ | refine aw_exit ?_ | refine aw_ret ?_ | refine aw_skip ?_ | refine in_exit_eq rfl ?_ | refine awr_succ ?_) | ((with_reducible refine k_move ?_); refine rl_pure (pv_move rfl) rfl rfl rfl ?_) | ((with_reducible refine k_load ?_); refine rl_val (vv_load_box (by rfl) by_memb (by rfl) by_bd) rfl rfl rfl ?_) | ((with_reducible refine k_fieldAddr ?_); refine rl_pure (pv_fieldAddr rfl) rfl rfl rfl ?_) | ((with_reducible refine k_eql ?_); refine rl_pure (pv_eql rfl rfl) rfl rfl rfl ?_) | ((with_reducible refine k_convert ?_); refine rl_pure (pv_convert_in rfl (by first | rfl | exact IntWalk.i64_in _ (by omega) | exact IntWalk.u8_in _ (by omega) | exact IntWalk.u32_in _ (by omega))) rfl rfl rfl ?_) | (with_reducible refine dl_nil by_app ?_) | ((with_reducible refine kd_move ?_); refine dl_pure (by assumption) (pv_move rfl) by_wants rfl rfl ?_) | ((with_reducible refine kd_assign ?_); refine dl_pure (by assumption) (pv_assign rfl) by_wants rfl rfl ?_) | ((with_reducible refine kd_fieldAddr ?_); refine dl_pure (by assumption) (pv_fieldAddr rfl) by_wants rfl rfl ?_) | ((with_reducible refine kd_indexAddr ?_); refine dl_pure (by assumption) (pv_indexAddr_ro (by rfl) rfl (by omega) (by first | rfl | assumption) (by first | rfl | exact tcells_len _ | exact dcells_len _)) by_wants rfl rfl ?_) | ((with_reducible refine kd_load ?_); (first | refine dl_take (by assumption) (hv_load_ro_whole (by assumption) (by rfl) (by rfl) (by first | rfl | exact tcells_len _ | exact dcells_len _)) by_wants rfl rfl ?_ | refine dl_take (by assumption) (hv_load_box (by assumption) (by rfl) by_mem0 (by rfl) by_bd) by_wants rfl rfl ?_ | refine dl_take (by assumption) (hv_load_box_whole (by assumption) (by rfl) by_mem0 (by rfl) (by first | rfl | exact tcells_len _ | exact dcells_len _)) by_wants rfl rfl ?_)) | (refine aw_draw (id := 8) [(false, 0), (false, 1), (false, 2), (false, 3), (false, 4), (false, 5), (false, 6), (true, 7), (false, 8)] _ (by kernel_rfl) (by decide +kernel) (by decide) by_lit (.cons .here .nil) by_nos fun jd hjd => ?_) | ((with_reducible refine k_add ?_); refine rl_pure (pv_add rfl rfl) rfl rfl rfl ?_) | (((with_reducible refine k_cond ?_); refine aw_cond rfl ?_ ?_) <;> ((fail_if_success (refine imp_known (by assumption) ?_)); (intro hb <;> (have hc := hb) <;> (try simp only [decide_eq_true_eq, decide_eq_false_iff_not, Int.not_lt, Int.not_le, ne_eq, Bool.not_eq_true, Bool.not_eq_false, Decidable.not_not] at hc) <;> (try (exfalso; omega)) <;> (try (exfalso; simp only [Bool.not_eq_eq_eq_not, Bool.not_true, Bool.not_false, decide_eq_true_eq, decide_eq_false_iff_not, ne_eq, Decidable.not_not, Int.not_lt, Int.not_le] at hc; omega)) <;> (try (first | contradiction | (cases hc; done))) <;> (try (first | exact absurd (hb.symm.trans (by assumption) : true = false) (by decide) | exact absurd (hb.symm.trans (by assumption) : false = true) (by decide)))))))
      · (first | refine rl_op rfl (op_callR rfl rfl (.cons .here .nil) (hb2 f1) rfl ?_) | refine dl_op (by assumption) by_wants (op_callR rfl rfl (.cons .here .nil) (hb2 f1) rfl ?_))
        rintro _ _ ⟨o2, f2, rfl, rfl, hl2, h2⟩ jd hjd
        repeat' (first | (with_reducible first | refine aw_seq ?_ | refine rl_nil ?_ | refine aw_region ?_ | refine then_n ?_ | refine aw_block ?_ | refine then_exit ?_ | refine then_ret ?_ | refine in_n ?_ | refine in_ret ?_ | refine aw_exit ?_ | refine aw_ret ?_ | refine aw_skip ?_ | refine in_exit_eq rfl ?_ | refine awr_succ ?_) | ((with_reducible refine k_move ?_); refine rl_pure (pv_move rfl) rfl rfl rfl ?_) | ((with_reducible refine k_convert ?_); refine rl_pure (pv_convert_in rfl (by first | rfl | exact IntWalk.i64_in _ (by omega) | exact IntWalk.u8_in _ (by omega) | exact IntWalk.u32_in _ (by omega))) rfl rfl rfl ?_) | (with_reducible refine dl_nil by_app ?_) | ((with_reducible refine kd_assign ?_); refine dl_pure (by assumption) (pv_assign rfl) by_wants rfl rfl ?_) | ((with_reducible refine k_add ?_); refine rl_pure (pv_add rfl rfl) rfl rfl rfl ?_))
        (first | refine rl_op rfl (op_callR rfl rfl (.cons .here .nil) (tagged58F p _ o2 f2 (by omega)) rfl ?_) | refine dl_op (by assumption) by_wants (op_callR rfl rfl (.cons .here .nil) (tagged58F p _ o2 f2 (by omega)) rfl ?_))
        rintro _ _ ⟨o3, f3, rfl, rfl, hl3, h3⟩
        repeat' (fail)
        (first | refine rl_op rfl (op_append rfl (.there (.there .here)) rfl rfl rfl rfl (by first | (intro r hr; obtain ⟨_, _, rfl⟩ := List.mem_map.1 hr; rfl) | (simp; done) | (simp [V.cells]; done)) by_small rfl fun sv' => ?_) | (refine dl_op (by assumption) by_wants (op_append rfl (.there (.there .here)) rfl rfl rfl rfl (by first | (intro r hr; obtain ⟨_, _, rfl⟩ := List.mem_map.1 hr; rfl) | (simp; done) | (simp [V.cells]; done)) by_small rfl fun sv' => ?_); intro jd hjd))
        repeat' (first | (with_reducible first | refine aw_seq ?_ | refine rl_nil ?_ | refine aw_region ?_ | refine then_n ?_ | refine aw_block ?_ | refine then_exit ?_ | refine then_ret ?_ | refine in_n ?_ | refine in_ret ?_ | refine aw_exit ?_ | refine aw_ret ?_ | refine aw_skip ?_ | refine in_exit_eq rfl ?_ | refine awr_succ ?_) | ((with_reducible refine k_move ?_); refine rl_pure (pv_move rfl) rfl rfl rfl ?_) | ((with_reducible refine k_assign ?_); refine rl_pure (pv_assign rfl) rfl rfl rfl ?_) | ((with_reducible refine k_add ?_); refine rl_pure (pv_add_in rfl rfl (by omega)) rfl rfl rfl ?_))
        have hkey : (f3 = full ∧ out ++ o3 = rowB (t.l.take (i + 1)) (d.l.take (i + 1)) 0) ∨ (f3 = true ∧ 4000 < tot.length) := by
          rw [hft, hpb, if_pos hc]
          rw [hpb, if_pos hc] at hle
          have hge := tagd_ge (128 + i) (basT x u)
          rcases h1 with ⟨rfl, rfl⟩ | ⟨rfl, h1⟩
          · rcases h2 with ⟨rfl, rfl⟩ | ⟨rfl, h2⟩
            · rcases h3 with ⟨rfl, rfl⟩ | ⟨rfl, h3⟩
              · rcases hI with ⟨rfl, rfl⟩ | ⟨rfl, h4⟩
                · exact .inl ⟨rfl, by rw [e4]⟩
                · exact .inr ⟨rfl, h4⟩
              · exact .inr ⟨rfl, by omega⟩
            · exact .inr ⟨by rcases h3 with ⟨h, _⟩ | ⟨h, _⟩ <;> exact h, by omega⟩
          · refine .inr ⟨?_, by omega⟩
            rcases h2 with ⟨rfl, _⟩ | ⟨rfl, _⟩ <;> rcases h3 with ⟨h, _⟩ | ⟨h, _⟩ <;> exact h
        exact next_of (R := [_]) (i + 1, sv', out ++ o3, f3) ⟨hlt, by dsimp only; rw [List.length_append]; omega, hkey⟩ (by dsimp only; omega) (by (repeat (first | exact sub_nil | refine sub_cons (by first | rfl | (simp; done)) ?_))) (by dsimp only; rw [List.map_append]; exact (.cons .here (.cons .here (.cons (.there .here) .nil))))
      · (first | refine rl_op rfl (op_callR rfl rfl (.cons .here .nil) (tagged58F p _ o1 f1 (by omega)) rfl ?_) | refine dl_op (by assumption) by_wants (op_callR rfl rfl (.cons .here .nil) (tagged58F p _ o1 f1 (by omega)) rfl ?_))
        rintro _ _ ⟨o3, f3, rfl, rfl, hl3, h3⟩
        repeat' (fail)
        (first | refine rl_op rfl (op_append rfl (.there (.there .here)) rfl rfl rfl rfl (by first | (intro r hr; obtain ⟨_, _, rfl⟩ := List.mem_map.1 hr; rfl) | (simp; done) | (simp [V.cells]; done)) by_small rfl fun sv' => ?_) | (refine dl_op (by assumption) by_wants (op_append rfl (.there (.there .here)) rfl rfl rfl rfl (by first | (intro r hr; obtain ⟨_, _, rfl⟩ := List.mem_map.1 hr; rfl) | (simp; done) | (simp [V.cells]; done)) by_small rfl fun sv' => ?_); intro jd hjd))
        repeat' (first | (with_reducible first | refine aw_seq ?_ | refine rl_nil ?_ | refine aw_region ?_ | refine then_n ?_ | refine aw_block ?_ | refine then_exit ?_ | refine then_ret ?_ | refine in_n ?_ | refine in_ret ?_ | refine aw_exit ?_ | refine aw_ret ?_ | refine aw_skip ?_ | refine in_exit_eq rfl ?_ | refine awr_succ ?_) | ((with_reducible refine k_move ?_); refine rl_pure (pv_move rfl) rfl rfl rfl ?_) | ((with_reducible refine k_assign ?_); refine rl_pure (pv_assign rfl) rfl rfl rfl ?_) | ((with_reducible refine k_add ?_); refine rl_pure (pv_add_in rfl rfl (by omega)) rfl rfl rfl ?_))
        have hkey : (f3 = full ∧ out ++ o3 = rowB (t.l.take (i + 1)) (d.l.take (i + 1)) 0) ∨ (f3 = true ∧ 4000 < tot.length) := by
          rw [hft, hpb, if_neg hc]
          rw [hpb, if_neg hc] at hle
          have hge := tagd_ge (128 + i) (bodyT x u)
          rcases h1 with ⟨rfl, rfl⟩ | ⟨rfl, h1⟩
          · rcases h3 with ⟨rfl, rfl⟩ | ⟨rfl, h3⟩
            · rcases hI with ⟨rfl, rfl⟩ | ⟨rfl, h4⟩
              · exact .inl ⟨rfl, by rw [e4]⟩
              · exact .inr ⟨rfl, h4⟩
            · exact .inr ⟨rfl, by omega⟩
          · refine .inr ⟨?_, by omega⟩
            rcases h3 with ⟨h, _⟩ | ⟨h, _⟩ <;> exact h
        exact next_of (R := [_]) (i + 1, sv', out ++ o3, f3) ⟨hlt, by dsimp only; rw [List.length_append]; omega, hkey⟩ (by dsimp only; omega) (by (repeat (first | exact sub_nil | refine sub_cons (by first | rfl | (simp; done)) ?_))) (by dsimp only; rw [List.map_append]; exact (.cons .here (.cons .here (.cons (.there .here) .nil))))
  · have hki : i = d.l.length := by omega
    subst hki
    rw [List.take_of_length_le (Nat.le_refl _), List.take_of_length_le (Nat.le_of_eq hl.symm), htot] at hI
    repeat' (first | (with_reducible first | refine aw_seq ?_ | refine rl_nil ?_ | refine aw_region ?_ | refine then_n ?_ | refine aw_block ?_ | refine then_exit ?_ | refine then_ret ?_ | refine in_n ?_ | refine in_ret ?_ | refine aw_exit ?_ | refine aw_ret ?_ | refine aw_skip ?_ | refine in_exit_eq rfl ?_ | refine awr_succ ?_) | ((with_reducible refine k_move ?_); refine rl_pure (pv_move rfl) rfl rfl rfl ?_) | ((with_reducible refine k_assign ?_); refine rl_pure (pv_assign rfl) rfl rfl rfl ?_) | ((with_reducible refine k_lss ?_); refine rl_pure (pv_lss rfl rfl) rfl rfl rfl ?_) | (((with_reducible refine k_cond ?_); refine aw_cond rfl ?_ ?_) <;> ((fail_if_success (refine imp_known (by assumption) ?_)); (intro hb <;> (have hc := hb) <;> (try simp only [decide_eq_true_eq, decide_eq_false_iff_not, Int.not_lt, Int.not_le, ne_eq, Bool.not_eq_true, Bool.not_eq_false, Decidable.not_not] at hc) <;> (try (exfalso; omega)) <;> (try (exfalso; simp only [Bool.not_eq_eq_eq_not, Bool.not_true, Bool.not_false, decide_eq_true_eq, decide_eq_false_iff_not, ne_eq, Decidable.not_not, Int.not_lt, Int.not_le] at hc; omega)) <;> (try (first | contradiction | (cases hc; done))) <;> (try (first | exact absurd (hb.symm.trans (by assumption) : true = false) (by decide) | exact absurd (hb.symm.trans (by assumption) : false = true) (by decide)))))))
    refine ret_r (retok_freeze (d := 6) rfl .here (retok_pick (.cons .here .nil) (ret1 rfl by_res (List.Sublist.refl _) ⟨_, rfl, ?_⟩)))
    exact ⟨out, f, rfl, rfl, by omega, hI⟩
end Go.Proofs.YtepmllodaoanmaaDoor

set_option linter.unusedVariables false
set_option linter.unusedSimpArgs false
namespace Go.Proofs.YtepmllodaoanmaaDoor
open Go Go.AX
set_option maxHeartbeats 8000000
set_option maxRecDepth 20000
attribute [local irreducible] AW RL OP PureV ValV HV DL DX Tri TriR Fun RetOk ResV
theorem bodyK : ∀ (n : Nat) (t : Typ) (d : Dat), t.wt ≤ n → n ≤ 1048576 → d.wt ≤ 1048576 → okT t = true → fitT t d = true → WB (fK t.kind) t d (bodyT t d) 100000 := by
  intro n
  induction n with
  | zero => intro t d h; have := wt_eq t; omega
  | succ n ih =>
    intro t d hw hn hdw hok hf
    have hwe := wt_eq t
    have hll := wtL_len t.l
    have hdwe := dwt_eq d
    have hdl := wtD_len d.l
    have hkid : ∀ (i : Nat) x (k : Nat) u, t.l[i]? = some x → d.l[k]? = some u → fitT x u = true → (u.kind = x.kind ∧ okT x = true) ∧ WB (fK x.kind) x u (bodyT x u) 100000 ∧ WB 37 x u (basT x u) 4010 := fun i x k u hx hu hfu => by
      have hokx := okT_kid hok x (List.mem_of_getElem? hx)
      have hB := ih x u (by have := wtL_take hx; omega) (by omega) (by have := wtD_take hu; omega) hokx hfu
      have hf2 := hfu
      rw [fitT_eq, Bool.and_eq_true] at hf2
      obtain ⟨g0, g1⟩ := hf2
      have g0 := of_decide_eq_true g0
      refine ⟨⟨g0.1, hokx⟩, hB, value36 x u hokx (fun e => ?_) hB⟩
      have hcx := okT_cls hokx
      rw [if_neg (by omega), if_neg (by omega), if_neg (by omega), if_neg (by omega), if_pos e] at g1
      simp only [Bool.and_eq_true, decide_eq_true_eq] at g1
      omega
    clear ih
    rw [fitT_eq, Bool.and_eq_true] at hf
    obtain ⟨hf0, hf⟩ := hf
    have hf0 := of_decide_eq_true hf0
    rw [bodyT_eq]
    rcases okT_cls hok with hk | hk | hk | hk | hk | hk | hk | hk
    · rw [if_pos (by omega)] at hf ⊢
      rw [show fK t.kind = 90 by rw [hk.1]; rfl]
      have := of_decide_eq_true hf
      exact truth79 t d this.1
    · rw [if_neg (by omega), if_neg (by omega), if_neg (by omega), if_neg (by omega), if_neg (by omega), if_neg (by omega)]
      rw [show fK t.kind = 96 by rw [hk.1]; rfl]
      exact nothing85 t d
    · rw [if_neg (by omega), if_pos (by omega)] at hf ⊢
      rw [show fK t.kind = 91 by rw [hk.1]; rfl]
      have := of_decide_eq_true hf
      exact number80F t d (by omega)
    · rw [if_neg (by omega), if_neg (by omega), if_pos (by omega)] at hf ⊢
      rw [show fK t.kind = 92 by rw [hk.1]; rfl]
      have := of_decide_eq_true hf
      exact octets81 t d (by omega)
    · rw [if_neg (by omega), if_pos (by omega)] at hf ⊢
      rw [show fK t.kind = 91 by rw [hk.1]; rfl]
      have := of_decide_eq_true hf
      exact number80F t d (by omega)
    · rw [if_neg (by omega), if_neg (by omega), if_neg (by omega), if_pos (by omega)] at hf ⊢
      simp only [Bool.and_eq_true, decide_eq_true_eq] at hf
      rw [show fK t.kind = 93 by rw [hk.1]; rfl]
      exact row82 t d hf.1.2 (by omega) fun i x u hx hu hs => by
        obtain ⟨⟨h1, h2⟩, h3, h4⟩ := hkid i x i u hx hu (fitRow_get hf.2 hx hu hs)
        exact ⟨h1, h2, h3, h4⟩
    · rw [if_neg (by omega), if_neg (by omega), if_neg (by omega), if_neg (by omega), if_pos (by omega)] at hf ⊢
      simp only [Bool.and_eq_true, decide_eq_true_eq] at hf
      obtain ⟨hf, hf2⟩ := hf
      obtain ⟨k, hkn⟩ : ∃ k : Nat, d.n = k := ⟨d.n.toNat, by omega⟩
      rw [hkn, Int.toNat_natCast] at hf2 ⊢
      obtain ⟨x, hx⟩ : ∃ x, t.l[k]? = some x := ⟨_, List.getElem?_eq_getElem (by omega)⟩
      obtain ⟨u, hu⟩ : ∃ u, d.l[0]? = some u := ⟨_, List.getElem?_eq_getElem (by omega)⟩
      rw [fitAt_eq hx hu] at hf2
      rw [basAt_eq hx hu, show fK t.kind = 94 by rw [hk.1]; rfl]
      exact choice83 t d x u k hkn hx hu (by omega) (hkid k x 0 u hx hu hf2).2.2
    · rw [if_neg (by omega), if_neg (by omega), if_neg (by omega), if_neg (by omega), if_neg (by omega), if_pos (by omega)] at hf ⊢
      simp only [Bool.and_eq_true, decide_eq_true_eq] at hf
      obtain ⟨hf, hf2⟩ := hf
      obtain ⟨x, hx⟩ : ∃ x, t.l[0]? = some x := ⟨_, List.getElem?_eq_getElem (by omega)⟩
      have e0 : t.l = x :: t.l.drop 1 := by simpa using drop_eq hx
      have hfa : (d.l.all fun u => fitT x u) = true := by rw [e0, fitHd] at hf2; exact hf2
      have hpa : basHd t.l d.l = (d.l.map fun u => basT x u).flatten := by rw [e0, basHd]; rfl
      rw [hpa, show fK t.kind = 95 by rw [hk.1]; rfl]
      exact list84 t d x hx (by omega) fun u hu => by
        obtain ⟨i, hi⟩ := List.mem_iff_getElem?.1 hu
        exact (hkid 0 x i u hx hi (List.all_eq_true.1 hfa u hu)).2.2
/-- The whole value. -/
theorem valueW (t : Typ) (d : Dat) (hw : t.wt ≤ 1048576) (hdw : d.wt ≤ 1048576) (hok : okT t = true) (hf : fitT t d = true) : WB 37 t d (basT t d) 4010 := by
  have hB := bodyK _ t d (Nat.le_refl _) hw hdw hok hf
  refine value36 t d hok (fun e => ?_) hB
  have hf2 := hf
  rw [fitT_eq, Bool.and_eq_true] at hf2
  obtain ⟨g0, g1⟩ := hf2
  have hcx := okT_cls hok
  rw [if_neg (by omega), if_neg (by omega), if_neg (by omega), if_neg (by omega), if_pos e] at g1
  simp only [Bool.and_eq_true, decide_eq_true_eq] at g1
  omega
def basE (t : Typ) (d : Dat) : Int := if rdE t d = 0 then (if (basT t d).length ≤ 4000 then 0 else 3) else rdE t d
def basB (t : Typ) (d : Dat) : List Int := if basE t d = 0 then basT t d else []
theorem Basic14 (t : Typ) (d : Dat) (hw : t.wt ≤ 1048576) (hdw : d.wt ≤ 1048576) : Fun Tryd.prog 18 [.agg t.cells, .agg d.cells] (.tup [.ro ((basB t d).map br), int (basE t d)]) := by
  have hr := ready35 t d hw hdw
  have hval := fun h : rdE t d = 0 => valueW t d hw hdw (vld_ok2 (rdE_0 h).1) (rdE_0 h).2
  unfold WB at hval
  rw [cells_eq] at hr hval ⊢
  rw [dcells_eq] at hr hval ⊢
  by_cases h0 : rdE t d = 0
  · have hval := fun p => hval h0 p false
    have hE : basE t d = if (basT t d).length ≤ 4000 then 0 else 3 := if_pos h0
    have hB : basB t d = if (basT t d).length ≤ 4000 then basT t d else [] := by
      rw [basB, hE]
      by_cases h : (basT t d).length ≤ 4000
      · rw [if_pos h, if_pos h, if_pos rfl]
      · rw [if_neg h, if_neg h, if_neg (by decide)]
    rw [hE, hB]
    generalize basT t d = bt at hval
    refine Fun.of (TriR.of (tri_of Tryd.func18 rfl Tryd.ntmps18 rfl fun j => ?_))
    repeat' (first | (with_reducible first | refine aw_seq ?_ | refine rl_nil ?_ | refine aw_region ?_ | refine then_n ?_ | refine aw_block ?_ | refine then_exit ?_ | refine then_ret ?_ | refine in_n ?_ | refine in_ret ?_ | refine aw_exit ?_ | refine aw_ret ?_ | refine aw_skip ?_ | refine in_exit_eq rfl ?_ | refine awr_succ ?_) | ((with_reducible refine k_move ?_); refine rl_pure (pv_move rfl) rfl rfl rfl ?_) | ((with_reducible refine k_assign ?_); refine rl_pure (pv_assign rfl) rfl rfl rfl ?_) | ((with_reducible refine k_load ?_); refine rl_val (vv_load_box_whole (by rfl) by_memb (by rfl) (by first | rfl | exact tcells_len _ | exact dcells_len _)) rfl rfl rfl ?_) | ((with_reducible refine k_box ?_); refine rl_op rfl (op_box rfl (V.okc_or (by rfl)) rfl fun b => ?_)) | ((with_reducible refine k_neq ?_); refine rl_pure (pv_neq rfl rfl) rfl rfl rfl ?_) | ((with_reducible refine k_build ?_); refine rl_pure (pv_build rfl by_fill) rfl rfl rfl ?_) | ((with_reducible refine k_callv ?_); refine rl_op rfl (op_callF rfl rfl (hr) rfl ?_)) | (((with_reducible refine k_cond ?_); refine aw_cond rfl ?_ ?_) <;> ((fail_if_success (refine imp_known (by assumption) ?_)); (intro hb <;> (have hc := hb) <;> (try simp only [decide_eq_true_eq, decide_eq_false_iff_not, Int.not_lt, Int.not_le, ne_eq, Bool.not_eq_true, Bool.not_eq_false, Decidable.not_not] at hc) <;> (try (exfalso; omega)) <;> (try (exfalso; simp only [Bool.not_eq_eq_eq_not, Bool.not_true, Bool.not_false, decide_eq_true_eq, decide_eq_false_iff_not, ne_eq, Decidable.not_not, Int.not_lt, Int.not_le] at hc; omega)) <;> (try (first | contradiction | (cases hc; done))) <;> (try (first | exact absurd (hb.symm.trans (by assumption) : true = false) (by decide) | exact absurd (hb.symm.trans (by assumption) : false = true) (by decide)))))))
    all_goals first
    | (exfalso; omega)
    | skip
    (first | refine rl_op rfl (op_callR rfl rfl (.cons .here .nil) (hval _) rfl ?_) | refine dl_op (by assumption) by_wants (op_callR rfl rfl (.cons .here .nil) (hval _) rfl ?_))
    rintro _ _ ⟨out, f1, rfl, rfl, hl1, h1⟩
    repeat' (first | (with_reducible first | refine aw_seq ?_ | refine rl_nil ?_ | refine aw_region ?_ | refine then_n ?_ | refine aw_block ?_ | refine then_exit ?_ | refine then_ret ?_ | refine in_n ?_ | refine in_ret ?_ | refine aw_exit ?_ | refine aw_ret ?_ | refine aw_skip ?_ | refine in_exit_eq rfl ?_ | refine awr_succ ?_) | ((with_reducible refine k_move ?_); refine rl_pure (pv_move rfl) rfl rfl rfl ?_) | ((with_reducible refine k_assign ?_); refine rl_pure (pv_assign rfl) rfl rfl rfl ?_) | ((with_reducible refine k_load ?_); refine rl_val (vv_load_box (by rfl) by_memb (by rfl) by_bd) rfl rfl rfl ?_) | ((with_reducible refine k_fieldAddr ?_); refine rl_pure (pv_fieldAddr rfl) rfl rfl rfl ?_) | ((with_reducible refine k_gtr ?_); refine rl_pure (pv_gtr rfl rfl) rfl rfl rfl ?_) | ((with_reducible refine k_len ?_); refine rl_pure (pv_len_ro' (by rfl) by_len) rfl rfl rfl ?_) | ((with_reducible refine k_nilCheck ?_); refine rl_pure (pv_nilCheck rfl) rfl rfl rfl ?_) | ((with_reducible refine k_pick ?_); (first | refine rl_pure (pv_pick_t rfl by_bd rfl) rfl rfl rfl ?_ | refine rl_pure (pv_pick_f rfl by_bd rfl) rfl rfl rfl ?_)) | ((with_reducible refine k_guard ?_); (first | refine rl_on_yes rfl rfl rfl by_bd rfl ?_ | refine rl_off_f rfl rfl rfl by_bd rfl ?_)) | ((with_reducible refine k_cond ?_); refine aw_cond_t rfl ?_) | (((with_reducible refine k_guard ?_); first | refine rl_if_t rfl rfl rfl rfl ?_ ?_ | refine rl_if_f rfl rfl rfl rfl ?_ ?_) <;> ((fail_if_success (refine imp_known (by assumption) ?_)); (intro hb <;> (have hc := hb) <;> (try simp only [decide_eq_true_eq, decide_eq_false_iff_not, Int.not_lt, Int.not_le, ne_eq, Bool.not_eq_true, Bool.not_eq_false, Decidable.not_not] at hc) <;> (try (exfalso; omega)) <;> (try (exfalso; simp only [Bool.not_eq_eq_eq_not, Bool.not_true, Bool.not_false, decide_eq_true_eq, decide_eq_false_iff_not, ne_eq, Decidable.not_not, Int.not_lt, Int.not_le] at hc; omega)) <;> (try (first | contradiction | (cases hc; done))) <;> (try (first | exact absurd (hb.symm.trans (by assumption) : true = false) (by decide) | exact absurd (hb.symm.trans (by assumption) : false = true) (by decide)))))) | (((with_reducible refine k_cond ?_); refine aw_cond rfl ?_ ?_) <;> ((fail_if_success (refine imp_known (by assumption) ?_)); (intro hb <;> (have hc := hb) <;> (try simp only [decide_eq_true_eq, decide_eq_false_iff_not, Int.not_lt, Int.not_le, ne_eq, Bool.not_eq_true, Bool.not_eq_false, Decidable.not_not] at hc) <;> (try (exfalso; omega)) <;> (try (exfalso; simp only [Bool.not_eq_eq_eq_not, Bool.not_true, Bool.not_false, decide_eq_true_eq, decide_eq_false_iff_not, ne_eq, Decidable.not_not, Int.not_lt, Int.not_le] at hc; omega)) <;> (try (first | contradiction | (cases hc; done))) <;> (try (first | exact absurd (hb.symm.trans (by assumption) : true = false) (by decide) | exact absurd (hb.symm.trans (by assumption) : false = true) (by decide)))))))
    · have hf1 : f1 = false := by assumption
      obtain ⟨_, rfl⟩ : f1 = false ∧ out = bt := by
        rcases h1 with h | ⟨h, _⟩
        · exact h
        · rw [hf1] at h; cases h
      rw [if_neg (by omega), if_neg (by omega)]
      refine ret_r (retok_nil_ro 4 rfl (ret2 rfl by_res by_res (List.nil_sublist _) ⟨_, rfl, ?_⟩))
      exact ⟨rfl, rfl⟩
    · have hf1 : f1 = false := by assumption
      obtain ⟨_, rfl⟩ : f1 = false ∧ out = bt := by
        rcases h1 with h | ⟨h, _⟩
        · exact h
        · rw [hf1] at h; cases h
      rw [if_pos (by omega), if_pos (by omega)]
      (first | refine ret_r (ret2 rfl by_res by_res (List.nil_sublist _) ⟨_, rfl, ?_⟩) | refine ret_n (ret2 rfl by_res by_res (List.nil_sublist _) ⟨_, rfl, ?_⟩))
      exact ⟨rfl, rfl⟩
    · have hf1 : f1 = true := by assumption
      have hbt : 4000 < bt.length := by
        rcases h1 with ⟨h, _⟩ | ⟨_, h⟩
        · rw [hf1] at h; cases h
        · exact h
      rw [if_neg (by omega), if_neg (by omega)]
      refine ret_r (retok_nil_ro 4 rfl (ret2 rfl by_res by_res (List.nil_sublist _) ⟨_, rfl, ?_⟩))
      exact ⟨rfl, rfl⟩
  · have hE : basE t d = rdE t d := if_neg h0
    have hB : basB t d = [] := if_neg (by rw [hE]; exact h0)
    clear hval
    refine Fun.of (TriR.of (tri_of Tryd.func18 rfl Tryd.ntmps18 rfl fun j => ?_))
    repeat' (first | (with_reducible first | refine aw_seq ?_ | refine rl_nil ?_ | refine aw_region ?_ | refine then_n ?_ | refine aw_block ?_ | refine then_exit ?_ | refine then_ret ?_ | refine in_n ?_ | refine in_ret ?_ | refine aw_exit ?_ | refine aw_ret ?_ | refine aw_skip ?_ | refine in_exit_eq rfl ?_ | refine awr_succ ?_) | ((with_reducible refine k_move ?_); refine rl_pure (pv_move rfl) rfl rfl rfl ?_) | ((with_reducible refine k_assign ?_); refine rl_pure (pv_assign rfl) rfl rfl rfl ?_) | ((with_reducible refine k_load ?_); refine rl_val (vv_load_box_whole (by rfl) by_memb (by rfl) (by first | rfl | exact tcells_len _ | exact dcells_len _)) rfl rfl rfl ?_) | ((with_reducible refine k_box ?_); refine rl_op rfl (op_box rfl (V.okc_or (by rfl)) rfl fun b => ?_)) | ((with_reducible refine k_neq ?_); refine rl_pure (pv_neq rfl rfl) rfl rfl rfl ?_) | ((with_reducible refine k_callv ?_); refine rl_op rfl (op_callF rfl rfl (hr) rfl ?_)) | (((with_reducible refine k_cond ?_); refine aw_cond rfl ?_ ?_) <;> ((fail_if_success (refine imp_known (by assumption) ?_)); (intro hb <;> (have hc := hb) <;> (try simp only [decide_eq_true_eq, decide_eq_false_iff_not, Int.not_lt, Int.not_le, ne_eq, Bool.not_eq_true, Bool.not_eq_false, Decidable.not_not] at hc) <;> (try (exfalso; omega)) <;> (try (exfalso; simp only [Bool.not_eq_eq_eq_not, Bool.not_true, Bool.not_false, decide_eq_true_eq, decide_eq_false_iff_not, ne_eq, Decidable.not_not, Int.not_lt, Int.not_le] at hc; omega)) <;> (try (first | contradiction | (cases hc; done))) <;> (try (first | exact absurd (hb.symm.trans (by assumption) : true = false) (by decide) | exact absurd (hb.symm.trans (by assumption) : false = true) (by decide)))))))
    all_goals first
    | (exfalso; omega)
    | (refine ret_r (retok_nil_ro 4 rfl (ret2 rfl by_res by_res (List.nil_sublist _) ⟨_, rfl, ?_⟩))
       exact ⟨by rw [hE, hB]; rfl, rfl⟩)
end Go.Proofs.YtepmllodaoanmaaDoor

set_option linter.unusedVariables false
set_option linter.unusedSimpArgs false
namespace Go.Proofs.YtepmllodaoanmaaDoor
open Go Go.AX
set_option maxHeartbeats 8000000
set_option maxRecDepth 20000
attribute [local irreducible] AW RL OP PureV ValV HV DL DX Tri TriR Fun RetOk ResV
theorem tag61 (t : Typ) (d : Dat) (hk : 0 ≤ t.kind ∧ t.kind ≤ 7) (hn : t.kind = 5 → 0 ≤ d.n ∧ d.n ≤ 20) : Fun Tryd.prog 79 [.agg t.cells, int d.n] (int (tagOf t d)) := by
  have ht : tagOf t d = if t.kind = 0 then 1 else if t.kind = 1 then 2 else if t.kind = 2 then 4 else if t.kind = 3 then 10 else if t.kind = 4 then 48 else if t.kind = 5 then 160 + d.n else if t.kind = 6 then 49 else 5 := rfl
  rw [cells_eq]
  generalize tagOf t d = tg at ht
  refine Fun.of (TriR.of (tri_of Tryd.func79 rfl Tryd.ntmps79 rfl fun j => ?_))
  repeat' (first | (with_reducible first | refine aw_seq ?_ | refine rl_nil ?_ | refine aw_region ?_ | refine then_n ?_ | refine aw_block ?_ | refine then_exit ?_ | refine then_ret ?_ | refine in_n ?_ | refine in_ret ?_ | refine aw_exit ?_ | refine aw_ret ?_ | refine aw_skip ?_ | refine in_exit_eq rfl ?_ | refine awr_succ ?_) | ((with_reducible refine k_move ?_); refine rl_pure (pv_move rfl) rfl rfl rfl ?_) | ((with_reducible refine k_assign ?_); refine rl_pure (pv_assign rfl) rfl rfl rfl ?_) | ((with_reducible refine k_load ?_); refine rl_val (vv_load_box (by rfl) by_memb (by rfl) by_bd) rfl rfl rfl ?_) | ((with_reducible refine k_fieldAddr ?_); refine rl_pure (pv_fieldAddr rfl) rfl rfl rfl ?_) | ((with_reducible refine k_box ?_); refine rl_op rfl (op_box rfl (V.okc_or (by rfl)) rfl fun b => ?_)) | ((with_reducible refine k_eql ?_); refine rl_pure (pv_eql rfl rfl) rfl rfl rfl ?_) | ((with_reducible refine k_add ?_); refine rl_pure (pv_add_in rfl rfl (by omega)) rfl rfl rfl ?_) | (((with_reducible refine k_cond ?_); refine aw_cond rfl ?_ ?_) <;> ((fail_if_success (refine imp_known (by assumption) ?_)); (intro hb <;> (have hc := hb) <;> (try simp only [decide_eq_true_eq, decide_eq_false_iff_not, Int.not_lt, Int.not_le, ne_eq, Bool.not_eq_true, Bool.not_eq_false, Decidable.not_not] at hc) <;> (try (exfalso; omega)) <;> (try (exfalso; simp only [Bool.not_eq_eq_eq_not, Bool.not_true, Bool.not_false, decide_eq_true_eq, decide_eq_false_iff_not, ne_eq, Decidable.not_not, Int.not_lt, Int.not_le] at hc; omega)) <;> (try (first | contradiction | (cases hc; done))) <;> (try (first | exact absurd (hb.symm.trans (by assumption) : true = false) (by decide) | exact absurd (hb.symm.trans (by assumption) : false = true) (by decide)))))))
  all_goals
    (first | refine ret_r (ret1 rfl by_res (List.nil_sublist _) ⟨_, rfl, ?_⟩) | refine ret_n (ret1 rfl by_res (List.nil_sublist _) ⟨_, rfl, ?_⟩))
    refine ⟨?_, rfl⟩
    rw [ht]
    repeat first | rw [if_pos (by omega)] | rw [if_neg (by omega)]
theorem tagOf_b {t : Typ} {d : Dat} (hn : t.kind = 5 → 0 ≤ d.n ∧ d.n ≤ 20) : 0 ≤ tagOf t d ∧ tagOf t d ≤ 180 := by
  unfold tagOf
  repeat' split
  all_goals first
  | omega
  | (have := hn (by assumption); omega)
theorem fit_n5 {t : Typ} {d : Dat} (hok : okT t = true) (hf : fitT t d = true) (e : t.kind = 5) : 0 ≤ d.n ∧ d.n ≤ 20 := by
  rw [fitT_eq, Bool.and_eq_true] at hf
  obtain ⟨g0, g1⟩ := hf
  have hcx := okT_cls hok
  rw [if_neg (by omega), if_neg (by omega), if_neg (by omega), if_neg (by omega), if_pos e] at g1
  simp only [Bool.and_eq_true, decide_eq_true_eq] at g1
  omega
theorem basic37 (t : Typ) (d : Dat) (hok : okT t = true) (hn : t.kind = 5 → 0 ≤ d.n ∧ d.n ≤ 20) (hlen : (bodyT t d).length ≤ 1000000) (hB : Fun Tryd.prog 78 [.agg t.cells, .agg d.cells] (.ro ((bodyT t d).map br))) : Fun Tryd.prog 53 [.agg t.cells, .agg d.cells] (.ro ((basT t d).map br)) := by
  have h61 := tag61 t d (kindR hok) hn
  have htb := tagOf_b hn
  have h62 := len62 (bodyT t d).length (by omega)
  unfold basT
  have hll := lenB_le (bodyT t d).length
  generalize bodyT t d = bt at hB h62 hlen hll ⊢
  generalize tagOf t d = tg at h61 htb ⊢
  rw [cells_eq] at hB h61 ⊢
  rw [dcells_eq] at hB ⊢
  refine Fun.of (TriR.of (tri_of Tryd.func53 rfl Tryd.ntmps53 rfl fun j => ?_))
  repeat' (first | (with_reducible first | refine aw_seq ?_ | refine rl_nil ?_ | refine aw_region ?_ | refine then_n ?_ | refine aw_block ?_ | refine then_exit ?_ | refine then_ret ?_ | refine in_n ?_ | refine in_ret ?_ | refine aw_exit ?_ | refine aw_ret ?_ | refine aw_skip ?_ | refine in_exit_eq rfl ?_ | refine awr_succ ?_) | ((with_reducible refine k_assign ?_); refine rl_pure (pv_assign rfl) rfl rfl rfl ?_) | ((with_reducible refine k_load ?_); (first | refine rl_val (vv_load_box (by rfl) by_memb (by rfl) by_bd) rfl rfl rfl ?_ | refine rl_val (vv_load_box_whole (by rfl) by_memb (by rfl) (by first | rfl | exact tcells_len _ | exact dcells_len _)) rfl rfl rfl ?_)) | ((with_reducible refine k_fieldAddr ?_); refine rl_pure (pv_fieldAddr rfl) rfl rfl rfl ?_) | ((with_reducible refine k_box ?_); refine rl_op rfl (op_box rfl (V.okc_or (by rfl)) rfl fun b => ?_)) | ((with_reducible refine k_convert ?_); refine rl_pure (pv_convert_in rfl (by first | rfl | exact IntWalk.i64_in _ (by omega) | exact IntWalk.u8_in _ (by omega) | exact IntWalk.u32_in _ (by omega))) rfl rfl rfl ?_) | ((with_reducible refine k_callv ?_); (first | refine rl_op rfl (op_callF rfl rfl (hB) rfl ?_) | refine rl_op rfl (op_callF rfl rfl (h61) rfl ?_))))
  (first | refine rl_op rfl (op_buildSlice rfl rfl rfl (by rfl) (by rfl) (by rfl) (by rfl) rfl fun sv => ?_) | (refine dl_op (by assumption) by_wants (op_buildSlice rfl rfl rfl (by rfl) (by rfl) (by rfl) (by rfl) rfl fun sv => ?_); intro jd hjd))
  repeat' (first | ((with_reducible refine k_move ?_); refine rl_pure (pv_move rfl) rfl rfl rfl ?_) | ((with_reducible refine k_len ?_); refine rl_pure (pv_len_ro' (by rfl) by_len) rfl rfl rfl ?_) | ((with_reducible refine k_callv ?_); refine rl_op rfl (op_callF rfl rfl (h62) rfl ?_)))
  (first | refine rl_op rfl (op_append rfl .here rfl rfl rfl rfl (by first | (intro r hr; obtain ⟨_, _, rfl⟩ := List.mem_map.1 hr; rfl) | (simp; done) | (simp [V.cells]; done)) by_small rfl fun sv' => ?_) | (refine dl_op (by assumption) by_wants (op_append rfl .here rfl rfl rfl rfl (by first | (intro r hr; obtain ⟨_, _, rfl⟩ := List.mem_map.1 hr; rfl) | (simp; done) | (simp [V.cells]; done)) by_small rfl fun sv' => ?_); intro jd hjd))
  repeat' (first | (with_reducible first | refine aw_seq ?_ | refine rl_nil ?_ | refine aw_region ?_ | refine then_n ?_ | refine aw_block ?_ | refine then_exit ?_ | refine then_ret ?_ | refine in_n ?_ | refine in_ret ?_ | refine aw_exit ?_ | refine aw_ret ?_ | refine aw_skip ?_ | refine in_exit_eq rfl ?_ | refine awr_succ ?_) | ((with_reducible refine k_move ?_); refine rl_pure (pv_move rfl) rfl rfl rfl ?_) | ((with_reducible refine k_assign ?_); refine rl_pure (pv_assign rfl) rfl rfl rfl ?_))
  (first | refine rl_op rfl (op_append rfl .here rfl rfl rfl rfl (by first | (intro r hr; obtain ⟨_, _, rfl⟩ := List.mem_map.1 hr; rfl) | (simp; done) | (simp [V.cells]; done)) by_small rfl fun sv' => ?_) | (refine dl_op (by assumption) by_wants (op_append rfl .here rfl rfl rfl rfl (by first | (intro r hr; obtain ⟨_, _, rfl⟩ := List.mem_map.1 hr; rfl) | (simp; done) | (simp [V.cells]; done)) by_small rfl fun sv' => ?_); intro jd hjd))
  repeat' (first | (with_reducible first | refine aw_seq ?_ | refine rl_nil ?_ | refine aw_region ?_ | refine then_n ?_ | refine aw_block ?_ | refine then_exit ?_ | refine then_ret ?_ | refine in_n ?_ | refine in_ret ?_ | refine aw_exit ?_ | refine aw_ret ?_ | refine aw_skip ?_ | refine in_exit_eq rfl ?_ | refine awr_succ ?_) | ((with_reducible refine k_assign ?_); refine rl_pure (pv_assign rfl) rfl rfl rfl ?_))
  refine ret_r (retok_freeze (d := 4) rfl .here (ret1 rfl by_res (List.nil_sublist _) ⟨_, rfl, ?_⟩))
  refine ⟨?_, rfl⟩
  simp only [tagd, List.map_cons, List.map_append, List.map_nil, List.cons_append, List.nil_append, List.append_assoc]
  rfl
theorem rowB_len {l : List Typ} {ds : List Dat} (k : Nat) (hk : ∀ (i : Nat) x u, l[i]? = some x → ds[i]? = some u → u.set = true → (bodyT x u).length + 10 ≤ 20 * u.wt) : (rowB l ds k).length ≤ 20 * wtD ds := by
  induction l generalizing ds k with
  | nil => rw [rowB]; simp
  | cons t l ih =>
    cases ds with
    | nil => rw [rowB]; simp
    | cons d ds =>
      rw [rowB, List.length_append, wtD]
      have h1 := ih (ds := ds) (k + 1) fun i x u h1 h2 h3 => hk (i + 1) x u (by simpa using h1) (by simpa using h2) h3
      split
      · rename_i hs
        have h2 := hk 0 t d rfl rfl hs
        split
        · have h3 := tagd_len (tagOf t d) (bodyT t d)
          have h4 := tagd_len (128 + k) (tagd (tagOf t d) (bodyT t d))
          omega
        · have h4 := tagd_len (128 + k) (bodyT t d)
          omega
      · simp only [List.length_nil]
        omega
theorem basHd_len {x : Typ} {ds : List Dat} (hk : ∀ u ∈ ds, (bodyT x u).length + 10 ≤ 20 * u.wt) : ((ds.map fun u => basT x u).flatten).length ≤ 20 * wtD ds := by
  induction ds with
  | nil => simp
  | cons d ds ih =>
    rw [List.map_cons, List.flatten_cons, List.length_append, wtD]
    have h1 := ih fun u hu => hk u (List.mem_cons_of_mem _ hu)
    have h2 := hk d (List.mem_cons_self ..)
    have h3 : (basT x d).length ≤ (bodyT x d).length + 5 := tagd_len _ _
    omega
theorem body_len : ∀ (n : Nat) (t : Typ) (d : Dat), t.wt ≤ n → okT t = true → fitT t d = true → (bodyT t d).length + 10 ≤ 20 * d.wt := by
  intro n
  induction n with
  | zero => intro t d h; have := wt_eq t; omega
  | succ n ih =>
    intro t d hw hok hf
    have hwe := wt_eq t
    have hdwe := dwt_eq d
    have hkid : ∀ x ∈ t.l, ∀ u, fitT x u = true → (bodyT x u).length + 10 ≤ 20 * u.wt := fun x hx u hu => by
      obtain ⟨i, hi⟩ := List.mem_iff_getElem?.1 hx
      exact ih x u (by have := wtL_take hi; omega) (okT_kid hok x hx) hu
    clear ih
    rw [fitT_eq, Bool.and_eq_true] at hf
    obtain ⟨hf0, hf⟩ := hf
    rw [bodyT_eq]
    have hnl := numL_len d.n
    rcases okT_cls hok with hk | hk | hk | hk | hk | hk | hk | hk
    · rw [if_pos (by omega)]; simp; omega
    · rw [if_neg (by omega), if_neg (by omega), if_neg (by omega), if_neg (by omega), if_neg (by omega), if_neg (by omega)]; simp; omega
    · rw [if_neg (by omega), if_pos (by omega)]; omega
    · rw [if_neg (by omega), if_neg (by omega), if_pos (by omega)]; omega
    · rw [if_neg (by omega), if_pos (by omega)]; omega
    · rw [if_neg (by omega), if_neg (by omega), if_neg (by omega), if_pos (by omega)] at hf ⊢
      simp only [Bool.and_eq_true, decide_eq_true_eq] at hf
      have := rowB_len (l := t.l) (ds := d.l) 0 fun i x u hx hu hs => hkid x (List.mem_of_getElem? hx) u (fitRow_get hf.2 hx hu hs)
      omega
    · rw [if_neg (by omega), if_neg (by omega), if_neg (by omega), if_neg (by omega), if_pos (by omega)] at hf ⊢
      simp only [Bool.and_eq_true, decide_eq_true_eq] at hf
      obtain ⟨hf, hf2⟩ := hf
      obtain ⟨x, hx⟩ : ∃ x, t.l[d.n.toNat]? = some x := ⟨_, List.getElem?_eq_getElem (by omega)⟩
      obtain ⟨u, hu⟩ : ∃ u, d.l[0]? = some u := ⟨_, List.getElem?_eq_getElem (by omega)⟩
      rw [fitAt_eq hx hu] at hf2
      rw [basAt_eq hx hu]
      have h1 := hkid x (List.mem_of_getElem? hx) u hf2
      have h2 := wtD_take hu
      have h3 : (basT x u).length ≤ (bodyT x u).length + 5 := tagd_len _ _
      omega
    · rw [if_neg (by omega), if_neg (by omega), if_neg (by omega), if_neg (by omega), if_neg (by omega), if_pos (by omega)] at hf ⊢
      simp only [Bool.and_eq_true, decide_eq_true_eq] at hf
      obtain ⟨hf, hf2⟩ := hf
      obtain ⟨x, hx⟩ : ∃ x, t.l[0]? = some x := ⟨_, List.getElem?_eq_getElem (by omega)⟩
      have e0 : t.l = x :: t.l.drop 1 := by simpa using drop_eq hx
      have hfa : (d.l.all fun u => fitT x u) = true := by rw [e0, fitHd] at hf2; exact hf2
      have hpa : basHd t.l d.l = (d.l.map fun u => basT x u).flatten := by rw [e0, basHd]; rfl
      rw [hpa]
      have := basHd_len (ds := d.l) fun u hu => hkid x (List.mem_of_getElem? hx) u (List.all_eq_true.1 hfa u hu)
      omega
end Go.Proofs.YtepmllodaoanmaaDoor

