import Derived.Test.YtepmllodaoanmaaK35
set_option linter.unusedVariables false
set_option linter.unusedSimpArgs false
namespace Go.Proofs.Ytepmllodaoanmaa
open Go Go.AX
set_option maxHeartbeats 8000000
set_option maxRecDepth 20000
attribute [local irreducible] AW RL OP PureV ValV HV DL DX Tri TriR Fun RetOk ResV
theorem asked89 (b : List Int) (at_ n : Nat) (hl : b.length ≤ 1048576) (h : n ≤ 48) (ha : at_ + n ≤ 8 * b.length) : Fun Try.prog 89 [.ro (b.map br), int at_, int n, bool false] (int 0) := by
  refine Fun.of (TriR.of (tri_of Try.func89 rfl Try.ntmps89 rfl fun j => ?_))
  repeat' (first | (with_reducible first | refine aw_seq ?_ | refine rl_nil ?_ | refine aw_region ?_ | refine then_n ?_ | refine aw_block ?_ | refine then_exit ?_ | refine then_ret ?_ | refine in_n ?_ | refine in_ret ?_ | refine aw_exit ?_ | refine aw_ret ?_ | refine aw_skip ?_ | refine in_exit_eq rfl ?_ | refine awr_succ ?_) | ((with_reducible refine k_move ?_); refine rl_pure (pv_move rfl) rfl rfl rfl ?_) | ((with_reducible refine k_assign ?_); refine rl_pure (pv_assign rfl) rfl rfl rfl ?_) | ((with_reducible refine k_lss ?_); refine rl_pure (pv_lss rfl rfl) rfl rfl rfl ?_) | ((with_reducible refine k_gtr ?_); refine rl_pure (pv_gtr rfl rfl) rfl rfl rfl ?_) | ((with_reducible refine k_sub ?_); refine rl_pure (pv_sub_in rfl rfl (by omega)) rfl rfl rfl ?_) | ((with_reducible refine k_mul ?_); refine rl_pure (pv_mul_in rfl rfl (by omega)) rfl rfl rfl ?_) | ((with_reducible refine k_len ?_); refine rl_pure (pv_len_ro' (by rfl) by_len) rfl rfl rfl ?_) | ((with_reducible refine k_pick ?_); refine rl_pure (pv_pick_f rfl by_bd rfl) rfl rfl rfl ?_) | ((with_reducible refine k_guard ?_); (first | refine rl_on_yes rfl rfl rfl by_bd rfl ?_ | refine rl_off_t rfl rfl rfl by_bd rfl ?_ | refine rl_off_u rfl rfl rfl rfl ?_)) | ((with_reducible refine k_cond ?_); refine aw_cond_f rfl ?_) | (((with_reducible refine k_guard ?_); first | refine rl_if_t rfl rfl rfl rfl ?_ ?_ | refine rl_if_f rfl rfl rfl rfl ?_ ?_) <;> ((fail_if_success (refine imp_known (by assumption) ?_)); (intro hb <;> (have hc := hb) <;> (try simp only [decide_eq_true_eq, decide_eq_false_iff_not, Int.not_lt, Int.not_le, ne_eq, Bool.not_eq_true, Bool.not_eq_false, Decidable.not_not] at hc) <;> (try (exfalso; omega)) <;> (try (exfalso; simp only [Bool.not_eq_eq_eq_not, Bool.not_true, Bool.not_false, decide_eq_true_eq, decide_eq_false_iff_not, ne_eq, Decidable.not_not, Int.not_lt, Int.not_le] at hc; omega)) <;> (try (first | contradiction | (cases hc; done))) <;> (try (first | exact absurd (hb.symm.trans (by assumption) : true = false) (by decide) | exact absurd (hb.symm.trans (by assumption) : false = true) (by decide)))))) | (((with_reducible refine k_cond ?_); refine aw_cond rfl ?_ ?_) <;> ((fail_if_success (refine imp_known (by assumption) ?_)); (intro hb <;> (have hc := hb) <;> (try simp only [decide_eq_true_eq, decide_eq_false_iff_not, Int.not_lt, Int.not_le, ne_eq, Bool.not_eq_true, Bool.not_eq_false, Decidable.not_not] at hc) <;> (try (exfalso; omega)) <;> (try (exfalso; simp only [Bool.not_eq_eq_eq_not, Bool.not_true, Bool.not_false, decide_eq_true_eq, decide_eq_false_iff_not, ne_eq, Decidable.not_not, Int.not_lt, Int.not_le] at hc; omega)) <;> (try (first | contradiction | (cases hc; done))) <;> (try (first | exact absurd (hb.symm.trans (by assumption) : true = false) (by decide) | exact absurd (hb.symm.trans (by assumption) : false = true) (by decide)))))))
  all_goals first
  | (exfalso; omega)
  | ((first | refine ret_r (ret1 rfl by_res (List.nil_sublist _) ⟨_, rfl, ?_⟩) | refine ret_n (ret1 rfl by_res (List.nil_sublist _) ⟨_, rfl, ?_⟩)); exact ⟨rfl, rfl⟩)
/-- Bits with n bits of a number in them from a place on. -/
def putG (g : Nat → Int) (at_ n V r : Nat) : Nat → Int := fun i => if at_ + r ≤ i ∧ i < at_ + n then ((V / 2 ^ (at_ + n - 1 - i) % 2 : Nat) : Int) else g i
theorem putG_bit {g : Nat → Int} (h : Bit g) (at_ n V r : Nat) : Bit (putG g at_ n V r) := fun i => by
  unfold putG
  split
  · omega
  · exact h i
theorem putG_step (g : Nat → Int) (at_ n V r : Nat) (h : r < n) : updN (putG g at_ n V (r + 1)) (at_ + r) ((V / 2 ^ (n - (r + 1)) % 2 : Nat) : Int) = putG g at_ n V r := by
  funext i
  unfold updN putG
  by_cases e : i = at_ + r
  · subst e
    rw [if_pos rfl, if_pos ⟨Nat.le_refl _, by omega⟩, show at_ + n - 1 - (at_ + r) = n - (r + 1) by omega]
  · rw [if_neg e]
    by_cases h1 : at_ + r ≤ i ∧ i < at_ + n
    · rw [if_pos ⟨by omega, h1.2⟩, if_pos h1]
    · rw [if_neg (fun h2 => h1 ⟨by omega, h2.2⟩), if_neg h1]
theorem putG_done (g : Nat → Int) (at_ n V : Nat) : putG g at_ n V n = g := by
  funext i
  unfold putG
  rw [if_neg (by omega)]
theorem Put87 (m : Nat) (g : Nat → Int) (at_ n V : Nat) (hg : Bit g) (hm : m ≤ 1048576) (h : n ≤ 48) (ha : at_ + n ≤ 8 * m) (hV : V < 2 ^ n) :
    TriR Try.prog 87 [.ro ((padN m g).map br), int at_, int n, int V, bool false] [] fun v H' => ∃ sv, v = .tup [.own sv, int 0] ∧ H' = [.vec sv 5 1 ((padN m (putG g at_ n V 0)).map br)] := by
  have h89 := asked89 (padN m g) at_ n (by rw [padN_len]; exact hm) h (by rw [padN_len]; exact ha)
  have hpl : (padN m g).length = m := padN_len m g
  have hp48 : 2 ^ n ≤ 2 ^ 48 := Nat.pow_le_pow_right (by decide) h
  have hsh : ishl .i64 1 n = ((2 ^ n : Nat) : Int) := by
    unfold ishl
    rw [Int.toNat_natCast, Nat.min_eq_left (by simp [IntKind.bits]; omega), Int.one_mul]
    rw [IntWalk.i64_in _ (by
      have : (2 : Int) ^ n = ((2 ^ n : Nat) : Int) := by simp
      omega)]
    simp
  refine TriR.of (tri_of Try.func87 rfl Try.ntmps87 rfl fun j => ?_)
  repeat' (first | (with_reducible first | refine aw_seq ?_ | refine rl_nil ?_ | refine aw_region ?_ | refine then_n ?_ | refine aw_block ?_ | refine then_exit ?_ | refine then_ret ?_ | refine in_n ?_ | refine in_ret ?_ | refine aw_exit ?_ | refine aw_ret ?_ | refine aw_skip ?_ | refine in_exit_eq rfl ?_ | refine awr_succ ?_) | ((with_reducible refine k_move ?_); refine rl_pure (pv_move rfl) rfl rfl rfl ?_) | ((with_reducible refine k_assign ?_); refine rl_pure (pv_assign rfl) rfl rfl rfl ?_) | ((with_reducible refine k_neq ?_); refine rl_pure (pv_neq rfl rfl) rfl rfl rfl ?_) | ((with_reducible refine k_lss ?_); refine rl_pure (pv_lss rfl rfl) rfl rfl rfl ?_) | ((with_reducible refine k_geq ?_); refine rl_pure (pv_geq rfl rfl) rfl rfl rfl ?_) | ((with_reducible refine k_shl ?_); refine rl_pure (pv_shl rfl rfl (by omega)) rfl rfl rfl ?_) | ((with_reducible refine k_pick ?_); refine rl_pure (pv_pick_f rfl by_bd rfl) rfl rfl rfl ?_) | ((with_reducible refine k_guard ?_); refine rl_on_yes rfl rfl rfl by_bd rfl ?_) | ((with_reducible refine k_cond ?_); refine aw_cond_f rfl ?_) | ((with_reducible refine k_callv ?_); refine rl_op rfl (op_callF rfl rfl (h89) rfl ?_)) | (((with_reducible refine k_cond ?_); refine aw_cond rfl ?_ ?_) <;> ((fail_if_success (refine imp_known (by assumption) ?_)); (intro hb <;> (have hc := hb) <;> (try simp only [decide_eq_true_eq, decide_eq_false_iff_not, Int.not_lt, Int.not_le, ne_eq, Bool.not_eq_true, Bool.not_eq_false, Decidable.not_not] at hc) <;> (try (exfalso; omega)) <;> (try (exfalso; simp only [Bool.not_eq_eq_eq_not, Bool.not_true, Bool.not_false, decide_eq_true_eq, decide_eq_false_iff_not, ne_eq, Decidable.not_not, Int.not_lt, Int.not_le] at hc; omega)) <;> (try (first | contradiction | (cases hc; done))) <;> (try (first | exact absurd (hb.symm.trans (by assumption) : true = false) (by decide) | exact absurd (hb.symm.trans (by assumption) : false = true) (by decide)))))))
  · refine rl_vec_nil 5 1 ?_; refine rl_op rfl (op_append_nil rfl .here rfl rfl rfl rfl (by first | (intro r hr; obtain ⟨_, _, rfl⟩ := List.mem_map.1 hr; rfl) | (simp; done) | (simp [V.cells]; done)) by_small rfl fun sv' => ?_)
    repeat' (first | (with_reducible first | refine aw_seq ?_ | refine rl_nil ?_ | refine aw_region ?_ | refine then_n ?_ | refine aw_block ?_ | refine then_exit ?_ | refine then_ret ?_ | refine in_n ?_ | refine in_ret ?_ | refine aw_exit ?_ | refine aw_ret ?_ | refine aw_skip ?_ | refine in_exit_eq rfl ?_ | refine awr_succ ?_) | ((with_reducible refine k_move ?_); refine rl_pure (pv_move rfl) rfl rfl rfl ?_) | ((with_reducible refine k_assign ?_); refine rl_pure (pv_assign rfl) rfl rfl rfl ?_) | ((with_reducible refine k_add ?_); refine rl_pure (pv_add_in rfl rfl (by omega)) rfl rfl rfl ?_) | ((with_reducible refine k_sub ?_); refine rl_pure (pv_sub_in rfl rfl (by omega)) rfl rfl rfl ?_))
    refine aw_iter (α := Nat) (fun r => [(1, int at_), (3, int ((V / 2 ^ (n - r) : Nat) : Int)), (13, .own sv'), (14, int (((at_ + r : Nat) : Int) - 1))])
      (fun r => [.vec sv' 5 1 ((padN m (putG g at_ n V r)).map br)]) (fun r => r ≤ n) (fun r => r)
      n (Nat.le_refl _) (by rw [Nat.sub_self, Nat.pow_zero, Nat.div_one, Int.natCast_add]; (repeat (first | exact sub_nil | refine sub_cons (by first | rfl | (simp; done)) ?_))) (by rw [putG_done]; exact (.cons .here .nil)) fun r hI => ?_
    rcases r with _ | r
    · repeat' (first | (with_reducible first | refine aw_seq ?_ | refine rl_nil ?_ | refine aw_region ?_ | refine then_n ?_ | refine aw_block ?_ | refine then_exit ?_ | refine then_ret ?_ | refine in_n ?_ | refine in_ret ?_ | refine aw_exit ?_ | refine aw_ret ?_ | refine aw_skip ?_ | refine in_exit_eq rfl ?_ | refine awr_succ ?_) | ((with_reducible refine k_move ?_); refine rl_pure (pv_move rfl) rfl rfl rfl ?_) | ((with_reducible refine k_assign ?_); refine rl_pure (pv_assign rfl) rfl rfl rfl ?_) | ((with_reducible refine k_geq ?_); refine rl_pure (pv_geq rfl rfl) rfl rfl rfl ?_) | (((with_reducible refine k_cond ?_); refine aw_cond rfl ?_ ?_) <;> ((fail_if_success (refine imp_known (by assumption) ?_)); (intro hb <;> (have hc := hb) <;> (try simp only [decide_eq_true_eq, decide_eq_false_iff_not, Int.not_lt, Int.not_le, ne_eq, Bool.not_eq_true, Bool.not_eq_false, Decidable.not_not] at hc) <;> (try (exfalso; omega)) <;> (try (exfalso; simp only [Bool.not_eq_eq_eq_not, Bool.not_true, Bool.not_false, decide_eq_true_eq, decide_eq_false_iff_not, ne_eq, Decidable.not_not, Int.not_lt, Int.not_le] at hc; omega)) <;> (try (first | contradiction | (cases hc; done))) <;> (try (first | exact absurd (hb.symm.trans (by assumption) : true = false) (by decide) | exact absurd (hb.symm.trans (by assumption) : false = true) (by decide)))))))
      all_goals first
      | (exfalso; omega)
      | skip
      (first | refine ret_r (retok_pick (.cons .here .nil) (ret2 rfl by_res by_res (List.Sublist.refl _) ⟨_, rfl, ?_⟩)) | refine ret_n (retok_pick (.cons .here .nil) (ret2 rfl by_res by_res (List.Sublist.refl _) ⟨_, rfl, ?_⟩)))
      exact ⟨sv', rfl, rfl⟩
    · rw [show ((at_ + (r + 1) : Nat) : Int) - 1 = ((at_ + r : Nat) : Int) by omega]
      have hgb := putG_bit hg at_ n V (r + 1)
      have hst := putG_step g at_ n V r hI
      generalize putG g at_ n V (r + 1) = G at hgb hst ⊢
      have hVb : V / 2 ^ (n - (r + 1)) ≤ V := Nat.div_le_self _ _
      have hVs : V / 2 ^ (n - (r + 1)) / 2 = V / 2 ^ (n - r) := by
        rw [Nat.div_div_eq_div_mul, ← Nat.pow_succ, show (n - (r + 1)).succ = n - r by omega]
      generalize V / 2 ^ (n - (r + 1)) = W at hst hVb hVs ⊢
      have hand : iand .i64 W 1 = ((W % 2 : Nat) : Int) := by
        have := iand_nat W 1 (by omega) (by decide)
        rw [Nat.and_one_is_mod] at this
        exact this
      have hshr : ishr .i64 W 1 = ((W / 2 : Nat) : Int) := by
        have := ishr_i64 W 1 (by decide)
        rw [show ((1 : Nat) : Int) = 1 from rfl] at this
        rw [this]
        omega
      have hk : (at_ + r) / 8 < m := by omega
      have h0 : (at_ + r) / 8 < m ∧ iandNot .u8 (byt G ((at_ + r) / 8)) (ishl .u8 1 (7 - ((at_ + r : Nat) : Int) % 8)) = byt (updN G (at_ + r) 0) ((at_ + r) / 8) ∧ ∀ i, i ≠ (at_ + r) / 8 → byt (updN G (at_ + r) 0) i = byt G i := ⟨hk, byt_clear hgb _, fun i hi => byt_upd_ne (Ne.symm hi)⟩
      have h1 : (at_ + r) / 8 < m ∧ ior .u8 (byt (updN G (at_ + r) 0) ((at_ + r) / 8)) (ishl .u8 1 (7 - ((at_ + r : Nat) : Int) % 8)) = byt (updN (updN G (at_ + r) 0) (at_ + r) 1) ((at_ + r) / 8) ∧ ∀ i, i ≠ (at_ + r) / 8 → byt (updN (updN G (at_ + r) 0) (at_ + r) 1) i = byt (updN G (at_ + r) 0) i := ⟨hk, byt_put (updN_bit hgb (.inl rfl)) _ (.inr rfl) (updN_self _ _ _), fun i hi => byt_upd_ne (Ne.symm hi)⟩
      obtain ⟨k, hkk⟩ : ∃ k, at_ + r = k := ⟨_, rfl⟩
      rw [hkk] at hk h0 h1 hst ⊢
      have hp1 := padN_len m G
      have hp2 := padN_len m (updN G k 0)
      have hp3 := padN_len m (updN (updN G k 0) k 1)
      repeat' (first | (with_reducible first | refine aw_seq ?_ | refine rl_nil ?_ | refine aw_region ?_ | refine then_n ?_ | refine aw_block ?_ | refine then_exit ?_ | refine then_ret ?_ | refine in_n ?_ | refine in_ret ?_ | refine aw_exit ?_ | refine aw_ret ?_ | refine aw_skip ?_ | refine in_exit_eq rfl ?_ | refine awr_succ ?_) | ((with_reducible refine k_move ?_); refine rl_pure (pv_move rfl) rfl rfl rfl ?_) | ((with_reducible refine k_assign ?_); refine rl_pure (pv_assign rfl) rfl rfl rfl ?_) | ((with_reducible refine k_load ?_); refine rl_val (vv_load_vp (by rfl) by_memb (by first | rfl | assumption | exact (pad_row _ (by omega))) (by rfl) by_bd) rfl rfl rfl ?_) | ((with_reducible refine k_eql ?_); refine rl_pure (pv_eql rfl rfl) rfl rfl rfl ?_) | ((with_reducible refine k_geq ?_); refine rl_pure (pv_geq rfl rfl) rfl rfl rfl ?_) | ((with_reducible refine k_sub ?_); refine rl_pure (pv_sub_in rfl rfl (by omega)) rfl rfl rfl ?_) | ((with_reducible refine k_quo ?_); refine rl_pure (pv_quo_in rfl rfl (by omega)) rfl rfl rfl ?_) | ((with_reducible refine k_rem ?_); refine rl_pure (pv_rem_in rfl rfl (by omega)) rfl rfl rfl ?_) | ((with_reducible refine k_indexAddr ?_); refine rl_pure (pv_indexAddr_own (by rfl) by_memb rfl (by first | omega | (simp only [List.length_cons, List.length_nil, List.length_append, List.length_map, List.length_replicate, List.length_set]; omega))) rfl rfl rfl ?_) | ((with_reducible refine k_and ?_); refine rl_pure (pv_and rfl rfl) rfl rfl rfl ?_) | ((with_reducible refine k_or ?_); refine rl_pure (pv_or rfl rfl) rfl rfl rfl ?_) | ((with_reducible refine k_andNot ?_); refine rl_pure (pv_andNot rfl rfl) rfl rfl rfl ?_) | ((with_reducible refine k_shl ?_); refine rl_pure (pv_shl rfl rfl (by omega)) rfl rfl rfl ?_) | ((with_reducible refine k_shr ?_); refine rl_pure (pv_shr rfl rfl (by omega)) rfl rfl rfl ?_) | ((with_reducible refine k_store ?_); refine rl_op rfl (st_pad (by rfl) (by rfl) by_upd by_bound ?_)) | (((with_reducible refine k_cond ?_); refine aw_cond rfl ?_ ?_) <;> ((fail_if_success (refine imp_known (by assumption) ?_)); (intro hb <;> (have hc := hb) <;> (try simp only [decide_eq_true_eq, decide_eq_false_iff_not, Int.not_lt, Int.not_le, ne_eq, Bool.not_eq_true, Bool.not_eq_false, Decidable.not_not] at hc) <;> (try (exfalso; omega)) <;> (try (exfalso; simp only [Bool.not_eq_eq_eq_not, Bool.not_true, Bool.not_false, decide_eq_true_eq, decide_eq_false_iff_not, ne_eq, Decidable.not_not, Int.not_lt, Int.not_le] at hc; omega)) <;> (try (first | contradiction | (cases hc; done))) <;> (try (first | exact absurd (hb.symm.trans (by assumption) : true = false) (by decide) | exact absurd (hb.symm.trans (by assumption) : false = true) (by decide)))))))
      · have hW : W % 2 = 1 := by rw [hand] at hc; omega
        have hst1 : updN (updN G k 0) k 1 = putG g at_ n V r := by rw [updN_upd, ← hst, hW]; rfl
        exact next_of (R := []) r (by omega) (by omega) (by rw [hkk, ← hVs, ← hshr]; (repeat (first | exact sub_nil | refine sub_cons (by first | rfl | (simp; done)) ?_))) (by rw [← hst1]; exact (.cons .here .nil))
      · have hW : W % 2 = 0 := by rw [hand] at hc; omega
        have hst1 : updN G k 0 = putG g at_ n V r := by rw [← hst, hW]; rfl
        exact next_of (R := []) r (by omega) (by omega) (by rw [hkk, ← hVs, ← hshr]; (repeat (first | exact sub_nil | refine sub_cons (by first | rfl | (simp; done)) ?_))) (by rw [← hst1]; exact (.cons .here .nil))
end Go.Proofs.Ytepmllodaoanmaa
