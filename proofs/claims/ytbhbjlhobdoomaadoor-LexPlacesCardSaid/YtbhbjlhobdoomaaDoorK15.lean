import Derived.Test.YtbhbjlhobdoomaaDoorK14
set_option linter.unusedVariables false
set_option linter.unusedSimpArgs false
namespace Go.Proofs.YtbhbjlhobdoomaaDoor
open Go Go.AX
set_option maxHeartbeats 4000000
set_option maxRecDepth 20000
theorem aw_nil_own {P : Program} {N : Nat} {j : J P N} {Q : Exit → Sl → List Ch → Prop} {s : Sl} {H : List Ch} {c : Code} (d E sz : Nat) (hv : s.get d = some (.raw (.slice none 0 0))) (h : AW j c Q ((d, .own (.slice none 0 0)) :: s) (.vec (.slice none 0 0) E sz [] :: H)) : AW j c Q s H :=
  aw_weak (fun a w st => st_vec_nil (st_slot st hv fun x hx => le_nil_own w _ x hx) E sz) h
attribute [local irreducible] AW RL OP PureV ValV HV DL Tri TriR Fun RetOk ResV
theorem ba_range (s : ByteArray) (k : Nat) : 0 ≤ ba s k ∧ ba s k ≤ 255 := by
  unfold ba
  split
  · exact bt_range s k
  · omega
theorem hexA (s : ByteArray) (k : Nat) : Fun Tryd.prog 85 [byte (ba s k)] (int (hexo (ba s k))) := hexOf85 _ (ba_range s k).1 (ba_range s k).2
theorem hexB (s : ByteArray) (k : Int) : Fun Tryd.prog 85 [byte (bt s k)] (int (hexo (bt s k))) := hexOf85 _ (bt_range s k).1 (bt_range s k).2
theorem hexo_ge {b : Int} : 0 ≤ hexo b ↔ dgo b < 16 := by
  have := dgo_range b
  unfold hexo
  split <;> omega
theorem hexo_in {b : Int} (h : dgo b < 16) : hexo b = dgo b := by unfold hexo; rw [if_pos h]
theorem satv_le {base : Int} {s : ByteArray} {e : Nat} : ∀ (m k : Nat) (n : Int), e - k ≤ m → n ≤ 281474976710656 → satv base s e k n ≤ 281474976710656
  | m, k, n, hm, hn => by
    by_cases h : k < e
    · rw [satv_go h]
      cases m with
      | zero => omega
      | succ m => exact satv_le m (k + 1) _ (by omega) (by omega)
    · rw [satv_end h]; exact hn
def NumR (s : ByteArray) (k : Nat) (v : V) (H' : List Ch) : Prop := H' = [] ∧ ∃ n, v = .tup [int n, int (numE s k), bool (numO s k)] ∧ (numO s k = true → n = numN s k)
theorem number70x (s : ByteArray) (hs : s.size ≤ 100000) (k : Nat) (hk : k < s.size) (hx : ba s k = 48 ∧ ba s (k + 1) = 120) : TriR Tryd.prog 70 [str s, int k] [] (NumR s k) := by
  have hb0 := ba_in hk
  have hl := ba_lt (s := s) (k := k + 1) (by omega)
  have g1 : Fun Tryd.prog 47 [str s, int ((k : Int) + 1)] (byte (ba s (k + 1))) := byteAt47 s (k + 1)
  have hx1 := hx.1
  have hx2 := hx.2
  refine TriR.of (tri_of Tryd.func70 rfl Tryd.ntmps70 rfl fun j => ?_)
  repeat' (first | (with_reducible first | refine aw_seq ?_ | refine rl_nil ?_ | refine aw_region ?_ | refine then_n ?_ | refine aw_block ?_ | refine then_exit ?_ | refine then_ret ?_ | refine in_n ?_ | refine in_ret ?_ | refine aw_exit ?_ | refine aw_ret ?_ | refine aw_skip ?_ | refine in_exit_eq rfl ?_ | refine awr_succ ?_) | ((with_reducible refine k_move ?_); refine rl_pure (pv_move rfl) rfl rfl rfl ?_) | ((with_reducible refine k_assign ?_); refine rl_pure (pv_assign rfl) rfl rfl rfl ?_) | ((with_reducible refine k_eql ?_); refine rl_pure (pv_eql rfl rfl) rfl rfl rfl ?_) | ((with_reducible refine k_add ?_); refine rl_pure (pv_add_in rfl rfl (by omega)) rfl rfl rfl ?_) | ((with_reducible refine k_index ?_); refine rl_pure (pv_index_str rfl rfl by_bound) rfl rfl rfl ?_) | ((with_reducible refine k_pick ?_); refine rl_pure (pv_pick_t rfl by_bd rfl) rfl rfl rfl ?_) | ((with_reducible refine k_guard ?_); refine rl_on_yes rfl rfl rfl by_bd rfl ?_) | ((with_reducible refine k_callv ?_); refine rl_op rfl (op_callF rfl rfl (g1) rfl ?_)) | (((with_reducible refine k_guard ?_); first | refine rl_if_t rfl rfl rfl rfl ?_ ?_ | refine rl_if_f rfl rfl rfl rfl ?_ ?_) <;> ((fail_if_success (refine imp_known (by assumption) ?_)); (intro hb <;> (have hc := hb) <;> (try simp only [decide_eq_true_eq, decide_eq_false_iff_not, Int.not_lt, Int.not_le, ne_eq, Bool.not_eq_true, Bool.not_eq_false, Decidable.not_not] at hc) <;> (try (exfalso; omega)) <;> (try (exfalso; simp only [Bool.not_eq_eq_eq_not, Bool.not_true, Bool.not_false, decide_eq_true_eq, decide_eq_false_iff_not, ne_eq, Decidable.not_not, Int.not_lt, Int.not_le] at hc; omega)) <;> (try (first | contradiction | (cases hc; done))) <;> (try (first | exact absurd (hb.symm.trans (by assumption) : true = false) (by decide) | exact absurd (hb.symm.trans (by assumption) : false = true) (by decide)))))) | (((with_reducible refine k_cond ?_); refine aw_cond rfl ?_ ?_) <;> ((fail_if_success (refine imp_known (by assumption) ?_)); (intro hb <;> (have hc := hb) <;> (try simp only [decide_eq_true_eq, decide_eq_false_iff_not, Int.not_lt, Int.not_le, ne_eq, Bool.not_eq_true, Bool.not_eq_false, Decidable.not_not] at hc) <;> (try (exfalso; omega)) <;> (try (exfalso; simp only [Bool.not_eq_eq_eq_not, Bool.not_true, Bool.not_false, decide_eq_true_eq, decide_eq_false_iff_not, ne_eq, Decidable.not_not, Int.not_lt, Int.not_le] at hc; omega)) <;> (try (first | contradiction | (cases hc; done))) <;> (try (first | exact absurd (hb.symm.trans (by assumption) : true = false) (by decide) | exact absurd (hb.symm.trans (by assumption) : false = true) (by decide)))))))
  have hge := run_ge (c := fun b => decide (dgo b < 16)) (s := s) _ (k + 2) (Nat.le_refl _)
  refine aw_iter (α := Nat × Int) (fun q => [(0, str s), (1, int k), (7, int q.1), (8, int q.2)]) (fun _ => [])
    (fun q => (k + 2 ≤ q.1 ∧ q.1 ≤ s.size) ∧ runX s (k + 2) = runX s q.1 ∧ val 16 s (k + 2) (runX s (k + 2)) = satv 16 s (runX s (k + 2)) q.1 q.2 ∧ 0 ≤ q.2 ∧ q.2 ≤ 281474976710656) (fun q => s.size - q.1)
    (k + 2, 0) ⟨⟨by simp, by dsimp only; omega⟩, rfl, rfl, by dsimp only; omega, by dsimp only; omega⟩ (by (repeat (first | exact sub_nil | refine sub_cons (by first | rfl | (simp; done)) ?_))) .nil fun q hI => ?_
  obtain ⟨i, n⟩ := q
  dsimp only at hI ⊢
  obtain ⟨⟨hi1, hi2⟩, hX, hV, hn0, hn1⟩ := hI
  have g2 := byteAt47 s i
  have g3 := hexA s i
  have g4 := hexB s i
  have hd := dgo_range (bt s i)
  by_cases hd2 : dgo (ba s i) < 16
  · have hlt := dgo_in hd2
    have hge2 := hexo_ge.2 hd2
    rw [ba_in hlt] at hd2
    have hXi : runX s i = runX s (i + 1) := run_go hlt (decide_eq_true hd2)
    have hge3 := run_ge (c := fun b => decide (dgo b < 16)) (s := s) _ (i + 1) (Nat.le_refl _)
    have hie : i < runX s (k + 2) := by rw [hX, hXi]; exact hge3.1
    rw [hexo_in hd2] at g4
    repeat' (first | (with_reducible first | refine aw_seq ?_ | refine rl_nil ?_ | refine aw_region ?_ | refine then_n ?_ | refine aw_block ?_ | refine then_exit ?_ | refine then_ret ?_ | refine in_n ?_ | refine in_ret ?_ | refine aw_exit ?_ | refine aw_ret ?_ | refine aw_skip ?_ | refine in_exit_eq rfl ?_ | refine awr_succ ?_) | ((with_reducible refine k_move ?_); refine rl_pure (pv_move rfl) rfl rfl rfl ?_) | ((with_reducible refine k_assign ?_); refine rl_pure (pv_assign rfl) rfl rfl rfl ?_) | ((with_reducible refine k_geq ?_); refine rl_pure (pv_geq rfl rfl) rfl rfl rfl ?_) | ((with_reducible refine k_add ?_); refine rl_pure (pv_add_in rfl rfl (by omega)) rfl rfl rfl ?_) | ((with_reducible refine k_mul ?_); refine rl_pure (pv_mul_in rfl rfl (by omega)) rfl rfl rfl ?_) | ((with_reducible refine k_index ?_); refine rl_pure (pv_index_str rfl rfl by_bound) rfl rfl rfl ?_) | ((with_reducible refine k_min ?_); refine rl_pure (pv_min2 rfl rfl) rfl rfl rfl ?_) | ((with_reducible refine k_callv ?_); (first | refine rl_op rfl (op_callF rfl rfl (g2) rfl ?_) | refine rl_op rfl (op_callF rfl rfl (g3) rfl ?_) | refine rl_op rfl (op_callF rfl rfl (g4) rfl ?_))) | (((with_reducible refine k_cond ?_); refine aw_cond rfl ?_ ?_) <;> ((fail_if_success (refine imp_known (by assumption) ?_)); (intro hb <;> (have hc := hb) <;> (try simp only [decide_eq_true_eq, decide_eq_false_iff_not, Int.not_lt, Int.not_le, ne_eq, Bool.not_eq_true, Bool.not_eq_false, Decidable.not_not] at hc) <;> (try (exfalso; omega)) <;> (try (exfalso; simp only [Bool.not_eq_eq_eq_not, Bool.not_true, Bool.not_false, decide_eq_true_eq, decide_eq_false_iff_not, ne_eq, Decidable.not_not, Int.not_lt, Int.not_le] at hc; omega)) <;> (try (first | contradiction | (cases hc; done))) <;> (try (first | exact absurd (hb.symm.trans (by assumption) : true = false) (by decide) | exact absurd (hb.symm.trans (by assumption) : false = true) (by decide)))))))
    exact next_of (R := []) (i + 1, min (16 * n + dgo (bt s i)) 281474976710656) ⟨⟨by dsimp only; omega, hlt⟩, hX.trans hXi, hV.trans (satv_go hie), by dsimp only; omega, by dsimp only; omega⟩ (by dsimp only; omega) (by (repeat (first | exact sub_nil | refine sub_cons (by first | rfl | (simp; done)) ?_))) .nil
  · have hge2 : ¬ 0 ≤ hexo (ba s i) := fun q => hd2 (hexo_ge.1 q)
    have hXi : runX s i = i := run_no fun q => hd2 (by rw [ba_in q.1]; exact of_decide_eq_true q.2)
    rw [hX, hXi, satv_end (Nat.lt_irrefl i)] at hV
    have hE : numE s k = i := by unfold numE; rw [if_pos hx, hX, hXi]
    have hN : numN s k = n := by unfold numN; rw [if_pos hx, hX, hXi, hV]
    have hO : numO s k = decide (k + 2 < i ∧ n ≤ 281474976710655) := by unfold numO; rw [if_pos hx, hX, hXi, hV]
    unfold NumR
    rw [hE, hN, hO]
    repeat' (first | (with_reducible first | refine aw_seq ?_ | refine rl_nil ?_ | refine aw_region ?_ | refine then_n ?_ | refine aw_block ?_ | refine then_exit ?_ | refine then_ret ?_ | refine in_n ?_ | refine in_ret ?_ | refine aw_exit ?_ | refine aw_ret ?_ | refine aw_skip ?_ | refine in_exit_eq rfl ?_ | refine awr_succ ?_) | ((with_reducible refine k_move ?_); refine rl_pure (pv_move rfl) rfl rfl rfl ?_) | ((with_reducible refine k_assign ?_); refine rl_pure (pv_assign rfl) rfl rfl rfl ?_) | ((with_reducible refine k_leq ?_); refine rl_pure (pv_leq rfl rfl) rfl rfl rfl ?_) | ((with_reducible refine k_gtr ?_); refine rl_pure (pv_gtr rfl rfl) rfl rfl rfl ?_) | ((with_reducible refine k_geq ?_); refine rl_pure (pv_geq rfl rfl) rfl rfl rfl ?_) | ((with_reducible refine k_add ?_); refine rl_pure (pv_add_in rfl rfl (by omega)) rfl rfl rfl ?_) | ((with_reducible refine k_pick ?_); (first | refine rl_pure (pv_pick_t rfl by_bd rfl) rfl rfl rfl ?_ | refine rl_pure (pv_pick_f rfl by_bd rfl) rfl rfl rfl ?_)) | ((with_reducible refine k_guard ?_); (first | refine rl_on_yes rfl rfl rfl by_bd rfl ?_ | refine rl_off_t rfl rfl rfl by_bd rfl ?_)) | ((with_reducible refine k_callv ?_); (first | refine rl_op rfl (op_callF rfl rfl (g2) rfl ?_) | refine rl_op rfl (op_callF rfl rfl (g3) rfl ?_))) | (((with_reducible refine k_guard ?_); first | refine rl_if_t rfl rfl rfl rfl ?_ ?_ | refine rl_if_f rfl rfl rfl rfl ?_ ?_) <;> ((fail_if_success (refine imp_known (by assumption) ?_)); (intro hb <;> (have hc := hb) <;> (try simp only [decide_eq_true_eq, decide_eq_false_iff_not, Int.not_lt, Int.not_le, ne_eq, Bool.not_eq_true, Bool.not_eq_false, Decidable.not_not] at hc) <;> (try (exfalso; omega)) <;> (try (exfalso; simp only [Bool.not_eq_eq_eq_not, Bool.not_true, Bool.not_false, decide_eq_true_eq, decide_eq_false_iff_not, ne_eq, Decidable.not_not, Int.not_lt, Int.not_le] at hc; omega)) <;> (try (first | contradiction | (cases hc; done))) <;> (try (first | exact absurd (hb.symm.trans (by assumption) : true = false) (by decide) | exact absurd (hb.symm.trans (by assumption) : false = true) (by decide)))))) | (((with_reducible refine k_cond ?_); refine aw_cond rfl ?_ ?_) <;> ((fail_if_success (refine imp_known (by assumption) ?_)); (intro hb <;> (have hc := hb) <;> (try simp only [decide_eq_true_eq, decide_eq_false_iff_not, Int.not_lt, Int.not_le, ne_eq, Bool.not_eq_true, Bool.not_eq_false, Decidable.not_not] at hc) <;> (try (exfalso; omega)) <;> (try (exfalso; simp only [Bool.not_eq_eq_eq_not, Bool.not_true, Bool.not_false, decide_eq_true_eq, decide_eq_false_iff_not, ne_eq, Decidable.not_not, Int.not_lt, Int.not_le] at hc; omega)) <;> (try (first | contradiction | (cases hc; done))) <;> (try (first | exact absurd (hb.symm.trans (by assumption) : true = false) (by decide) | exact absurd (hb.symm.trans (by assumption) : false = true) (by decide)))))))
    all_goals
      (first | refine ret_r (ret3 rfl by_res by_res by_res (List.nil_sublist _) ⟨_, rfl, ?_⟩) | refine ret_n (ret3 rfl by_res by_res by_res (List.nil_sublist _) ⟨_, rfl, ?_⟩))
      refine ⟨rfl, n, ?_, fun _ => rfl⟩
      refine congrArg (fun x => V.tup [int n, int i, bool x]) ?_
      first
      | (show decide (n ≤ 281474976710655) = _; rw [Bool.eq_iff_iff, decide_eq_true_eq, decide_eq_true_eq]; omega)
      | (show false = _; rw [decide_eq_false]; omega)
end Go.Proofs.YtbhbjlhobdoomaaDoor
