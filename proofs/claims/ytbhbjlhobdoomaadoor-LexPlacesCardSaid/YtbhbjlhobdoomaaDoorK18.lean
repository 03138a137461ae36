import Derived.Test.YtbhbjlhobdoomaaDoorK17
import Derived.Test.YtbhbjlhobdoomaaDoorK16
set_option linter.unusedVariables false
set_option linter.unusedSimpArgs false
namespace Go.Proofs.YtbhbjlhobdoomaaDoor
open Go Go.AX
set_option maxHeartbeats 4000000
set_option maxRecDepth 20000
attribute [local irreducible] AW RL OP PureV ValV HV DL Tri TriR Fun RetOk ResV
/-- The signs, the longer ones first. -/
def sigs : List ByteArray := [⟨#[60, 60]⟩, ⟨#[62, 62]⟩, ⟨#[61, 61]⟩, ⟨#[33, 61]⟩, ⟨#[60, 61]⟩, ⟨#[62, 61]⟩, ⟨#[38, 38]⟩, ⟨#[124, 124]⟩, ⟨#[46, 46]⟩, ⟨#[123]⟩, ⟨#[125]⟩, ⟨#[40]⟩, ⟨#[41]⟩, ⟨#[91]⟩, ⟨#[93]⟩, ⟨#[44]⟩, ⟨#[59]⟩, ⟨#[58]⟩, ⟨#[63]⟩, ⟨#[43]⟩, ⟨#[45]⟩, ⟨#[42]⟩, ⟨#[47]⟩, ⟨#[37]⟩, ⟨#[38]⟩, ⟨#[124]⟩, ⟨#[94]⟩, ⟨#[126]⟩, ⟨#[60]⟩, ⟨#[62]⟩, ⟨#[33]⟩, ⟨#[61]⟩, ⟨#[46]⟩, ⟨#[35]⟩, ⟨#[64]⟩]
theorem sigs_len : sigs.length = 35 := rfl
theorem sigs_small : ∀ g ∈ sigs, g.size ≤ 2 ∧ 0 < g.size := by decide +kernel
theorem signs86 : Fun Tryd.prog 86 [] (.ro (rowS sigs)) := by
  refine Fun.of (TriR.of (tri_of Tryd.func86 rfl Tryd.ntmps86 rfl fun j => ?_))
  repeat' (first | (with_reducible first | refine aw_seq ?_ | refine rl_nil ?_ | refine aw_region ?_ | refine then_n ?_ | refine aw_block ?_ | refine then_exit ?_ | refine then_ret ?_ | refine in_n ?_ | refine in_ret ?_ | refine aw_exit ?_ | refine aw_ret ?_ | refine aw_skip ?_ | refine in_exit_eq rfl ?_ | refine awr_succ ?_) | ((with_reducible refine k_assign ?_); refine rl_pure (pv_assign rfl) rfl rfl rfl ?_) | ((with_reducible refine k_buildSlice ?_); refine rl_op rfl (op_buildSlice_ro rfl rfl rfl (by rfl) (by rfl) (by rfl) (by rfl) rfl by_rows ?_)))
  (first | refine ret_r (ret1 rfl by_res (List.nil_sublist _) ⟨_, rfl, ?_⟩) | refine ret_n (ret1 rfl by_res (List.nil_sublist _) ⟨_, rfl, ?_⟩))
  exact ⟨rfl, rfl⟩
theorem sign72 (s : ByteArray) (hs : s.size ≤ 100000) (k : Nat) (hk : k ≤ s.size) : Fun Tryd.prog 72 [str s, int k] (str (sgT sigs s k)) := by
  have hL := sigs_small
  have g0 := signs86
  have hll := sigs_len
  generalize sigs = L at hL g0 hll
  refine Fun.of (TriR.of (tri_of Tryd.func72 rfl Tryd.ntmps72 rfl fun j => ?_))
  repeat' (first | (with_reducible first | refine aw_seq ?_ | refine rl_nil ?_ | refine aw_region ?_ | refine then_n ?_ | refine aw_block ?_ | refine then_exit ?_ | refine then_ret ?_ | refine in_n ?_ | refine in_ret ?_ | refine aw_exit ?_ | refine aw_ret ?_ | refine aw_skip ?_ | refine in_exit_eq rfl ?_ | refine awr_succ ?_) | ((with_reducible refine k_assign ?_); refine rl_pure (pv_assign rfl) rfl rfl rfl ?_) | ((with_reducible refine k_callv ?_); refine rl_op rfl (op_callF rfl rfl (g0) rfl ?_)))
  refine aw_iter (α := Nat) (fun i => [(0, str s), (1, int k), (5, .ro (rowS L)), (6, int i)]) (fun _ => []) (fun i => i ≤ L.length ∧ L.find? (at? s k) = (L.drop i).find? (at? s k)) (fun i => L.length - i)
    0 ⟨Nat.zero_le _, by rw [List.drop_zero]⟩ (by (repeat (first | exact sub_nil | refine sub_cons (by first | rfl | (simp; done)) ?_))) .nil fun i hI => ?_
  obtain ⟨hi, hF⟩ := hI
  by_cases hlt : i < L.length
  · obtain ⟨g, hg⟩ : ∃ g, L[i]? = some g := ⟨_, List.getElem?_eq_getElem hlt⟩
    have hrow : (rowS L)[(i : Int).toNat]? = some [str g] := by rw [Int.toNat_natCast, List.getElem?_map, hg]; rfl
    have hgs := hL g (List.mem_of_getElem? hg)
    by_cases hz : k + g.size ≤ s.size
    · have hat : at? s k g = decide (s.extract k (k + g.size) = g) := by unfold at?; rw [decide_eq_true hz, Bool.true_and]
      repeat' (first | (with_reducible first | refine aw_seq ?_ | refine rl_nil ?_ | refine aw_region ?_ | refine then_n ?_ | refine aw_block ?_ | refine then_exit ?_ | refine then_ret ?_ | refine in_n ?_ | refine in_ret ?_ | refine aw_exit ?_ | refine aw_ret ?_ | refine aw_skip ?_ | refine in_exit_eq rfl ?_ | refine awr_succ ?_) | ((with_reducible refine k_move ?_); refine rl_pure (pv_move rfl) rfl rfl rfl ?_) | ((with_reducible refine k_assign ?_); refine rl_pure (pv_assign rfl) rfl rfl rfl ?_) | ((with_reducible refine k_load ?_); refine rl_val (vv_load_ro (by rfl) (by rfl) by_bd) rfl rfl rfl ?_) | ((with_reducible refine k_lss ?_); refine rl_pure (pv_lss rfl rfl) rfl rfl rfl ?_) | ((with_reducible refine k_add ?_); refine rl_pure (pv_add_in rfl rfl (by omega)) rfl rfl rfl ?_) | ((with_reducible refine k_len ?_); (first | refine rl_pure (pv_len_ro' (by rfl) by_len) rfl rfl rfl ?_ | refine rl_pure (pv_len_str rfl) rfl rfl rfl ?_)) | ((with_reducible refine k_indexAddr ?_); refine rl_pure (pv_indexAddr_ro (by rfl) rfl (by omega) (by first | rfl | assumption) (by first | rfl)) rfl rfl rfl ?_) | (with_reducible refine dl_nil by_app ?_) | ((with_reducible refine kd_move ?_); refine dl_pure (by assumption) (pv_move rfl) by_wants rfl rfl ?_) | ((with_reducible refine kd_eql ?_); refine dl_pure (by assumption) (pv_str_eql rfl rfl) by_wants rfl rfl ?_) | ((with_reducible refine kd_leq ?_); refine dl_pure (by assumption) (pv_leq rfl rfl) by_wants rfl rfl ?_) | ((with_reducible refine kd_len ?_); refine dl_pure (by assumption) (pv_len_str rfl) by_wants rfl rfl ?_) | ((with_reducible refine kd_indexAddr ?_); refine dl_pure (by assumption) (pv_indexAddr_ro (by rfl) rfl (by omega) (by first | rfl | assumption) (by first | rfl)) by_wants rfl rfl ?_) | ((with_reducible refine kd_slice ?_); refine dl_pure (by assumption) (pv_slice_str (by rfl) rfl rfl by_bound) by_wants rfl rfl ?_) | ((with_reducible refine kd_pick ?_); refine dl_pure (by assumption) (pv_pick_t rfl by_bd rfl) by_wants rfl rfl ?_) | ((with_reducible refine kd_load ?_); refine dl_take (by assumption) (hv_load_ro (by assumption) (by rfl) (by rfl) by_bd) by_wants rfl rfl ?_) | (refine aw_draw (id := 6) [(false, 0), (false, 1), (false, 2), (false, 3), (false, 4), (false, 5), (false, 6), (false, 7), (false, 8), (false, 9), (false, 10), (false, 11), (false, 12), (false, 13), (false, 14)] [] (by kernel_rfl) (by decide +kernel) (by decide) by_lit .nil by_nos fun jd hjd => ?_) | (((with_reducible refine k_cond ?_); refine aw_cond rfl ?_ ?_) <;> ((fail_if_success (refine imp_known (by assumption) ?_)); (intro hb <;> (have hc := hb) <;> (try simp only [decide_eq_true_eq, decide_eq_false_iff_not, Int.not_lt, Int.not_le, ne_eq, Bool.not_eq_true, Bool.not_eq_false, Decidable.not_not] at hc) <;> (try (exfalso; omega)) <;> (try (exfalso; simp only [Bool.not_eq_eq_eq_not, Bool.not_true, Bool.not_false, decide_eq_true_eq, decide_eq_false_iff_not, ne_eq, Decidable.not_not, Int.not_lt, Int.not_le] at hc; omega)) <;> (try (first | contradiction | (cases hc; done))) <;> (try (first | exact absurd (hb.symm.trans (by assumption) : true = false) (by decide) | exact absurd (hb.symm.trans (by assumption) : false = true) (by decide)))))) | (((with_reducible refine kd_guard ?_); refine dl_if rfl rfl rfl ?_ ?_) <;> ((fail_if_success (refine imp_known (by assumption) ?_)); (intro hb <;> (have hc := hb) <;> (try simp only [decide_eq_true_eq, decide_eq_false_iff_not, Int.not_lt, Int.not_le, ne_eq, Bool.not_eq_true, Bool.not_eq_false, Decidable.not_not] at hc) <;> (try (exfalso; omega)) <;> (try (exfalso; simp only [Bool.not_eq_eq_eq_not, Bool.not_true, Bool.not_false, decide_eq_true_eq, decide_eq_false_iff_not, ne_eq, Decidable.not_not, Int.not_lt, Int.not_le] at hc; omega)) <;> (try (first | contradiction | (cases hc; done))) <;> (try (first | exact absurd (hb.symm.trans (by assumption) : true = false) (by decide) | exact absurd (hb.symm.trans (by assumption) : false = true) (by decide)))))))
      · (first | refine ret_r (ret1 rfl by_res (List.nil_sublist _) ⟨_, rfl, ?_⟩) | refine ret_n (ret1 rfl by_res (List.nil_sublist _) ⟨_, rfl, ?_⟩))
        have hq := find_here hF hg (by rw [hat]; exact hb)
        refine ⟨?_, rfl⟩
        unfold sgT sgn; rw [hq]; rfl
      · exact next_of (R := []) (i + 1) ⟨hlt, find_drop hF hg (by rw [hat]; exact hb)⟩ (by omega) (by (repeat (first | exact sub_nil | refine sub_cons (by first | rfl | (simp; done)) ?_))) .nil
    · have hat : at? s k g = false := by unfold at?; rw [decide_eq_false hz, Bool.false_and]
      repeat' (first | (with_reducible first | refine aw_seq ?_ | refine rl_nil ?_ | refine aw_region ?_ | refine then_n ?_ | refine aw_block ?_ | refine then_exit ?_ | refine then_ret ?_ | refine in_n ?_ | refine in_ret ?_ | refine aw_exit ?_ | refine aw_ret ?_ | refine aw_skip ?_ | refine in_exit_eq rfl ?_ | refine awr_succ ?_) | ((with_reducible refine k_move ?_); refine rl_pure (pv_move rfl) rfl rfl rfl ?_) | ((with_reducible refine k_assign ?_); refine rl_pure (pv_assign rfl) rfl rfl rfl ?_) | ((with_reducible refine k_load ?_); refine rl_val (vv_load_ro (by rfl) (by rfl) by_bd) rfl rfl rfl ?_) | ((with_reducible refine k_lss ?_); refine rl_pure (pv_lss rfl rfl) rfl rfl rfl ?_) | ((with_reducible refine k_add ?_); refine rl_pure (pv_add_in rfl rfl (by omega)) rfl rfl rfl ?_) | ((with_reducible refine k_len ?_); (first | refine rl_pure (pv_len_ro' (by rfl) by_len) rfl rfl rfl ?_ | refine rl_pure (pv_len_str rfl) rfl rfl rfl ?_)) | ((with_reducible refine k_indexAddr ?_); refine rl_pure (pv_indexAddr_ro (by rfl) rfl (by omega) (by first | rfl | assumption) (by first | rfl)) rfl rfl rfl ?_) | ((with_reducible refine k_cond ?_); refine aw_cond_f rfl ?_) | (with_reducible refine dl_nil by_app ?_) | ((with_reducible refine kd_guard ?_); refine dl_off rfl rfl rfl rfl by_bd rfl rfl ?_) | ((with_reducible refine kd_move ?_); refine dl_pure (by assumption) (pv_move rfl) by_wants rfl rfl ?_) | ((with_reducible refine kd_leq ?_); refine dl_pure (by assumption) (pv_leq rfl rfl) by_wants rfl rfl ?_) | ((with_reducible refine kd_len ?_); refine dl_pure (by assumption) (pv_len_str rfl) by_wants rfl rfl ?_) | ((with_reducible refine kd_pick ?_); refine dl_pure (by assumption) (pv_pick_f rfl by_bd rfl) by_wants rfl rfl ?_) | (refine aw_draw (id := 6) [(false, 0), (false, 1), (false, 2), (false, 3), (false, 4), (false, 5), (false, 6), (false, 7), (false, 8), (false, 9), (false, 10), (false, 11), (false, 12), (false, 13), (false, 14)] [] (by kernel_rfl) (by decide +kernel) (by decide) by_lit .nil by_nos fun jd hjd => ?_) | (((with_reducible refine k_cond ?_); refine aw_cond rfl ?_ ?_) <;> ((fail_if_success (refine imp_known (by assumption) ?_)); (intro hb <;> (have hc := hb) <;> (try simp only [decide_eq_true_eq, decide_eq_false_iff_not, Int.not_lt, Int.not_le, ne_eq, Bool.not_eq_true, Bool.not_eq_false, Decidable.not_not] at hc) <;> (try (exfalso; omega)) <;> (try (exfalso; simp only [Bool.not_eq_eq_eq_not, Bool.not_true, Bool.not_false, decide_eq_true_eq, decide_eq_false_iff_not, ne_eq, Decidable.not_not, Int.not_lt, Int.not_le] at hc; omega)) <;> (try (first | contradiction | (cases hc; done))) <;> (try (first | exact absurd (hb.symm.trans (by assumption) : true = false) (by decide) | exact absurd (hb.symm.trans (by assumption) : false = true) (by decide)))))) | (((with_reducible refine kd_guard ?_); refine dl_if rfl rfl rfl ?_ ?_) <;> ((fail_if_success (refine imp_known (by assumption) ?_)); (intro hb <;> (have hc := hb) <;> (try simp only [decide_eq_true_eq, decide_eq_false_iff_not, Int.not_lt, Int.not_le, ne_eq, Bool.not_eq_true, Bool.not_eq_false, Decidable.not_not] at hc) <;> (try (exfalso; omega)) <;> (try (exfalso; simp only [Bool.not_eq_eq_eq_not, Bool.not_true, Bool.not_false, decide_eq_true_eq, decide_eq_false_iff_not, ne_eq, Decidable.not_not, Int.not_lt, Int.not_le] at hc; omega)) <;> (try (first | contradiction | (cases hc; done))) <;> (try (first | exact absurd (hb.symm.trans (by assumption) : true = false) (by decide) | exact absurd (hb.symm.trans (by assumption) : false = true) (by decide)))))))
      exact next_of (R := []) (i + 1) ⟨hlt, find_drop hF hg hat⟩ (by omega) (by (repeat (first | exact sub_nil | refine sub_cons (by first | rfl | (simp; done)) ?_))) .nil
  · have hq : L.find? (at? s k) = none := by rw [hF, List.drop_eq_nil_of_le (by omega)]; rfl
    repeat' (first | (with_reducible first | refine aw_seq ?_ | refine rl_nil ?_ | refine aw_region ?_ | refine then_n ?_ | refine aw_block ?_ | refine then_exit ?_ | refine then_ret ?_ | refine in_n ?_ | refine in_ret ?_ | refine aw_exit ?_ | refine aw_ret ?_ | refine aw_skip ?_ | refine in_exit_eq rfl ?_ | refine awr_succ ?_) | ((with_reducible refine k_move ?_); refine rl_pure (pv_move rfl) rfl rfl rfl ?_) | ((with_reducible refine k_assign ?_); refine rl_pure (pv_assign rfl) rfl rfl rfl ?_) | ((with_reducible refine k_lss ?_); refine rl_pure (pv_lss rfl rfl) rfl rfl rfl ?_) | ((with_reducible refine k_len ?_); refine rl_pure (pv_len_ro' (by rfl) by_len) rfl rfl rfl ?_) | (((with_reducible refine k_cond ?_); refine aw_cond rfl ?_ ?_) <;> ((fail_if_success (refine imp_known (by assumption) ?_)); (intro hb <;> (have hc := hb) <;> (try simp only [decide_eq_true_eq, decide_eq_false_iff_not, Int.not_lt, Int.not_le, ne_eq, Bool.not_eq_true, Bool.not_eq_false, Decidable.not_not] at hc) <;> (try (exfalso; omega)) <;> (try (exfalso; simp only [Bool.not_eq_eq_eq_not, Bool.not_true, Bool.not_false, decide_eq_true_eq, decide_eq_false_iff_not, ne_eq, Decidable.not_not, Int.not_lt, Int.not_le] at hc; omega)) <;> (try (first | contradiction | (cases hc; done))) <;> (try (first | exact absurd (hb.symm.trans (by assumption) : true = false) (by decide) | exact absurd (hb.symm.trans (by assumption) : false = true) (by decide)))))))
    (first | refine ret_r (ret1 rfl by_res (List.nil_sublist _) ⟨_, rfl, ?_⟩) | refine ret_n (ret1 rfl by_res (List.nil_sublist _) ⟨_, rfl, ?_⟩))
    refine ⟨?_, rfl⟩
    unfold sgT sgn; rw [hq]; rfl
theorem sgn_some {s : ByteArray} {k : Nat} : (sgn sigs s k).isSome = decide (sgT sigs s k ≠ ⟨#[]⟩) := by
  unfold sgT
  cases h : sgn sigs s k with
  | none => rfl
  | some g =>
    have := (sigs_small g (List.mem_of_find?_eq_some h)).2
    symm
    exact decide_eq_true fun e => by
      have e2 : g = ⟨#[]⟩ := e
      rw [e2] at this
      exact absurd this (by decide)
def TokF (s : ByteArray) (k : Nat) (v : V) (H' : List Ch) : Prop :=
  H' = [] ∧ ∃ kd n t e, v = .tup [tokC kd n k t, int e, bool (tk sigs s k).ok] ∧ ((tk sigs s k).ok = true → kd = (tk sigs s k).kd ∧ n = (tk sigs s k).n ∧ t = (tk sigs s k).t ∧ e = (tk sigs s k).e)
theorem wordEnd_bounds (s : ByteArray) : ∀ (n k : Nat), s.size - k ≤ n → k ≤ wordEnd s k ∧ (k ≤ s.size → wordEnd s k ≤ s.size)
  | n, k, hn => by
    by_cases h : isPt (ba s k)
    · have hl := ba_lt (s := s) (k := k) (by unfold isPt isLt isDg at h; omega)
      rw [wordEnd_pt h]
      cases n with
      | zero => omega
      | succ n =>
        have := wordEnd_bounds s n (k + 1) (by omega)
        omega
    · by_cases h2 : ba s k = 46 ∧ isPt (ba s (k + 1))
      · have hl := ba_lt (s := s) (k := k + 1) (by obtain ⟨_, q⟩ := h2; unfold isPt isLt isDg at q; omega)
        rw [wordEnd_dot h h2]
        cases n with
        | zero => omega
        | succ n =>
          have := wordEnd_bounds s n (k + 2) (by omega)
          omega
      · rw [wordEnd_end h h2]; omega
theorem token48 (s : ByteArray) (hs : s.size ≤ 100000) (k : Nat) (hk : k < s.size) : TriR Tryd.prog 48 [str s, int k] [] (TokF s k) := by
  have g1 := letter34 (bt s k)
  have g2 := digit69 (bt s k)
  refine TriR.of (tri_of Tryd.func48 rfl Tryd.ntmps48 rfl fun j => ?_)
  by_cases h1 : isLt (bt s k)
  · have ht : tk sigs s k = ⟨0, 0, s.extract k (wordEnd s k), wordEnd s k, decide ((wordEnd s k : Int) - k ≤ 16)⟩ := by unfold tk; rw [if_pos h1]
    unfold TokF
    rw [ht]
    rw [decide_eq_true h1] at g1
    have hw : wordEnd s k = wordEnd s (k + 1) := wordEnd_pt (by rw [ba_in hk]; exact .inl h1)
    have hwb := wordEnd_bounds s _ k (Nat.le_refl _)
    have hwb2 := hwb.2 (Nat.le_of_lt hk)
    have g3 := word35 s hs k hk
    rw [← hw] at g3
    repeat' (first | (with_reducible first | refine aw_seq ?_ | refine rl_nil ?_ | refine aw_region ?_ | refine then_n ?_ | refine aw_block ?_ | refine then_exit ?_ | refine then_ret ?_ | refine in_n ?_ | refine in_ret ?_ | refine aw_exit ?_ | refine aw_ret ?_ | refine aw_skip ?_ | refine in_exit_eq rfl ?_ | refine awr_succ ?_) | ((with_reducible refine k_move ?_); refine rl_pure (pv_move rfl) rfl rfl rfl ?_) | ((with_reducible refine k_assign ?_); refine rl_pure (pv_assign rfl) rfl rfl rfl ?_) | ((with_reducible refine k_store ?_); refine rl_op rfl (op_store_box_whole (by rfl) (by rfl) (V.okc_or (by rfl)) by_upd (by first | rfl) (by first | rfl) ?_)) | ((with_reducible refine k_alloc ?_); refine rl_op rfl (op_alloc (by decide) rfl fun b => ?_)) | ((with_reducible refine k_leq ?_); refine rl_pure (pv_leq rfl rfl) rfl rfl rfl ?_) | ((with_reducible refine k_sub ?_); refine rl_pure (pv_sub_in rfl rfl (by omega)) rfl rfl rfl ?_) | ((with_reducible refine k_index ?_); refine rl_pure (pv_index_str rfl rfl by_bound) rfl rfl rfl ?_) | ((with_reducible refine k_slice ?_); refine rl_pure (pv_slice_str (by rfl) rfl rfl by_bound) rfl rfl rfl ?_) | ((with_reducible refine k_build ?_); refine rl_pure (pv_build rfl by_fill) rfl rfl rfl ?_) | ((with_reducible refine k_cond ?_); refine aw_cond_t rfl ?_) | ((with_reducible refine k_callv ?_); (first | refine rl_op rfl (op_callF rfl rfl (g1) rfl ?_) | refine rl_op rfl (op_callF rfl rfl (g3) rfl ?_))))
    (first | refine ret_r (ret3 rfl by_res by_res by_res (List.nil_sublist _) ⟨_, rfl, ?_⟩) | refine ret_n (ret3 rfl by_res by_res by_res (List.nil_sublist _) ⟨_, rfl, ?_⟩))
    exact ⟨rfl, 0, 0, _, _, rfl, fun _ => ⟨rfl, rfl, rfl, rfl⟩⟩
  · rw [decide_eq_false h1] at g1
    by_cases h2 : isDg (bt s k)
    · have ht : tk sigs s k = ⟨1, numN s k, ⟨#[]⟩, numE s k, numO s k⟩ := by unfold tk; rw [if_neg h1, if_pos h2]
      unfold TokF
      rw [ht]
      rw [decide_eq_true h2] at g2
      repeat' (first | (with_reducible first | refine aw_seq ?_ | refine rl_nil ?_ | refine aw_region ?_ | refine then_n ?_ | refine aw_block ?_ | refine then_exit ?_ | refine then_ret ?_ | refine in_n ?_ | refine in_ret ?_ | refine aw_exit ?_ | refine aw_ret ?_ | refine aw_skip ?_ | refine in_exit_eq rfl ?_ | refine awr_succ ?_) | ((with_reducible refine k_move ?_); refine rl_pure (pv_move rfl) rfl rfl rfl ?_) | ((with_reducible refine k_assign ?_); refine rl_pure (pv_assign rfl) rfl rfl rfl ?_) | ((with_reducible refine k_alloc ?_); refine rl_op rfl (op_alloc (by decide) rfl fun b => ?_)) | ((with_reducible refine k_index ?_); refine rl_pure (pv_index_str rfl rfl by_bound) rfl rfl rfl ?_) | ((with_reducible refine k_cond ?_); (first | refine aw_cond_t rfl ?_ | refine aw_cond_f rfl ?_)) | ((with_reducible refine k_callv ?_); (first | refine rl_op rfl (op_callF rfl rfl (g1) rfl ?_) | refine rl_op rfl (op_callF rfl rfl (g2) rfl ?_))))
      (first | refine rl_op rfl (op_callR rfl rfl .nil (number70 s hs k hk (by rw [ba_in hk]; exact h2)) rfl ?_) | refine dl_op (by assumption) by_wants (op_callR rfl rfl .nil (number70 s hs k hk (by rw [ba_in hk]; exact h2)) rfl ?_))
      rintro _ _ ⟨rfl, n, rfl, hn⟩
      repeat' (first | (with_reducible first | refine aw_seq ?_ | refine rl_nil ?_ | refine aw_region ?_ | refine then_n ?_ | refine aw_block ?_ | refine then_exit ?_ | refine then_ret ?_ | refine in_n ?_ | refine in_ret ?_ | refine aw_exit ?_ | refine aw_ret ?_ | refine aw_skip ?_ | refine in_exit_eq rfl ?_ | refine awr_succ ?_) | ((with_reducible refine k_move ?_); refine rl_pure (pv_move rfl) rfl rfl rfl ?_) | ((with_reducible refine k_assign ?_); refine rl_pure (pv_assign rfl) rfl rfl rfl ?_) | ((with_reducible refine k_store ?_); refine rl_op rfl (op_store_box_whole (by rfl) (by rfl) (V.okc_or (by rfl)) by_upd (by first | rfl) (by first | rfl) ?_)) | ((with_reducible refine k_extract ?_); refine rl_pure (pv_extract rfl rfl) rfl rfl rfl ?_) | ((with_reducible refine k_build ?_); refine rl_pure (pv_build rfl by_fill) rfl rfl rfl ?_))
      (first | refine ret_r (ret3 rfl by_res by_res by_res (List.nil_sublist _) ⟨_, rfl, ?_⟩) | refine ret_n (ret3 rfl by_res by_res by_res (List.nil_sublist _) ⟨_, rfl, ?_⟩))
      exact ⟨rfl, 1, n, _, _, rfl, fun e => ⟨rfl, hn e, rfl, rfl⟩⟩
    · rw [decide_eq_false h2] at g2
      by_cases h3 : bt s k = 34
      · have ht : tk sigs s k = ⟨2, 0, strOfNums (txR s k).1, (txR s k).2, txO s k⟩ := by unfold tk; rw [if_neg h1, if_neg h2, if_pos h3]
        unfold TokF
        rw [ht]
        repeat' (first | (with_reducible first | refine aw_seq ?_ | refine rl_nil ?_ | refine aw_region ?_ | refine then_n ?_ | refine aw_block ?_ | refine then_exit ?_ | refine then_ret ?_ | refine in_n ?_ | refine in_ret ?_ | refine aw_exit ?_ | refine aw_ret ?_ | refine aw_skip ?_ | refine in_exit_eq rfl ?_ | refine awr_succ ?_) | ((with_reducible refine k_move ?_); refine rl_pure (pv_move rfl) rfl rfl rfl ?_) | ((with_reducible refine k_assign ?_); refine rl_pure (pv_assign rfl) rfl rfl rfl ?_) | ((with_reducible refine k_alloc ?_); refine rl_op rfl (op_alloc (by decide) rfl fun b => ?_)) | ((with_reducible refine k_eql ?_); refine rl_pure (pv_eql rfl rfl) rfl rfl rfl ?_) | ((with_reducible refine k_index ?_); refine rl_pure (pv_index_str rfl rfl by_bound) rfl rfl rfl ?_) | ((with_reducible refine k_cond ?_); refine aw_cond_f rfl ?_) | ((with_reducible refine k_callv ?_); (first | refine rl_op rfl (op_callF rfl rfl (g1) rfl ?_) | refine rl_op rfl (op_callF rfl rfl (g2) rfl ?_))) | (((with_reducible refine k_cond ?_); refine aw_cond rfl ?_ ?_) <;> ((fail_if_success (refine imp_known (by assumption) ?_)); (intro hb <;> (have hc := hb) <;> (try simp only [decide_eq_true_eq, decide_eq_false_iff_not, Int.not_lt, Int.not_le, ne_eq, Bool.not_eq_true, Bool.not_eq_false, Decidable.not_not] at hc) <;> (try (exfalso; omega)) <;> (try (exfalso; simp only [Bool.not_eq_eq_eq_not, Bool.not_true, Bool.not_false, decide_eq_true_eq, decide_eq_false_iff_not, ne_eq, Decidable.not_not, Int.not_lt, Int.not_le] at hc; omega)) <;> (try (first | contradiction | (cases hc; done))) <;> (try (first | exact absurd (hb.symm.trans (by assumption) : true = false) (by decide) | exact absurd (hb.symm.trans (by assumption) : false = true) (by decide)))))))
        (first | refine rl_op rfl (op_callR rfl rfl .nil (text71 s hs k hk) rfl ?_) | refine dl_op (by assumption) by_wants (op_callR rfl rfl .nil (text71 s hs k hk) rfl ?_))
        rintro _ _ ⟨rfl, t, e, rfl, he⟩
        repeat' (first | (with_reducible first | refine aw_seq ?_ | refine rl_nil ?_ | refine aw_region ?_ | refine then_n ?_ | refine aw_block ?_ | refine then_exit ?_ | refine then_ret ?_ | refine in_n ?_ | refine in_ret ?_ | refine aw_exit ?_ | refine aw_ret ?_ | refine aw_skip ?_ | refine in_exit_eq rfl ?_ | refine awr_succ ?_) | ((with_reducible refine k_move ?_); refine rl_pure (pv_move rfl) rfl rfl rfl ?_) | ((with_reducible refine k_assign ?_); refine rl_pure (pv_assign rfl) rfl rfl rfl ?_) | ((with_reducible refine k_store ?_); refine rl_op rfl (op_store_box_whole (by rfl) (by rfl) (V.okc_or (by rfl)) by_upd (by first | rfl) (by first | rfl) ?_)) | ((with_reducible refine k_extract ?_); refine rl_pure (pv_extract rfl rfl) rfl rfl rfl ?_) | ((with_reducible refine k_build ?_); refine rl_pure (pv_build rfl by_fill) rfl rfl rfl ?_))
        (first | refine ret_r (ret3 rfl by_res by_res by_res (List.nil_sublist _) ⟨_, rfl, ?_⟩) | refine ret_n (ret3 rfl by_res by_res by_res (List.nil_sublist _) ⟨_, rfl, ?_⟩))
        exact ⟨rfl, 2, 0, t, e, rfl, fun h => ⟨rfl, rfl, (he h).1, (he h).2⟩⟩
      · have ht : tk sigs s k = ⟨3, 0, sgT sigs s k, k + (sgT sigs s k).size, (sgn sigs s k).isSome⟩ := by unfold tk; rw [if_neg h1, if_neg h2, if_neg h3]
        unfold TokF
        rw [ht]
        have g3 := sign72 s hs k (Nat.le_of_lt hk)
        have hsz : (sgT sigs s k).size ≤ 2 := by
          unfold sgT
          cases h : sgn sigs s k with
          | none => decide
          | some g => exact (sigs_small g (List.mem_of_find?_eq_some h)).1
        repeat' (first | (with_reducible first | refine aw_seq ?_ | refine rl_nil ?_ | refine aw_region ?_ | refine then_n ?_ | refine aw_block ?_ | refine then_exit ?_ | refine then_ret ?_ | refine in_n ?_ | refine in_ret ?_ | refine aw_exit ?_ | refine aw_ret ?_ | refine aw_skip ?_ | refine in_exit_eq rfl ?_ | refine awr_succ ?_) | ((with_reducible refine k_move ?_); refine rl_pure (pv_move rfl) rfl rfl rfl ?_) | ((with_reducible refine k_assign ?_); refine rl_pure (pv_assign rfl) rfl rfl rfl ?_) | ((with_reducible refine k_store ?_); refine rl_op rfl (op_store_box_whole (by rfl) (by rfl) (V.okc_or (by rfl)) by_upd (by first | rfl) (by first | rfl) ?_)) | ((with_reducible refine k_alloc ?_); refine rl_op rfl (op_alloc (by decide) rfl fun b => ?_)) | ((with_reducible refine k_eql ?_); refine rl_pure (pv_eql rfl rfl) rfl rfl rfl ?_) | ((with_reducible refine k_neq ?_); refine rl_pure (pv_str_neq rfl rfl) rfl rfl rfl ?_) | ((with_reducible refine k_add ?_); refine rl_pure (pv_add_in rfl rfl (by omega)) rfl rfl rfl ?_) | ((with_reducible refine k_index ?_); refine rl_pure (pv_index_str rfl rfl by_bound) rfl rfl rfl ?_) | ((with_reducible refine k_len ?_); refine rl_pure (pv_len_str rfl) rfl rfl rfl ?_) | ((with_reducible refine k_build ?_); refine rl_pure (pv_build rfl by_fill) rfl rfl rfl ?_) | ((with_reducible refine k_cond ?_); refine aw_cond_f rfl ?_) | ((with_reducible refine k_callv ?_); (first | refine rl_op rfl (op_callF rfl rfl (g1) rfl ?_) | refine rl_op rfl (op_callF rfl rfl (g2) rfl ?_) | refine rl_op rfl (op_callF rfl rfl (g3) rfl ?_))) | (((with_reducible refine k_cond ?_); refine aw_cond rfl ?_ ?_) <;> ((fail_if_success (refine imp_known (by assumption) ?_)); (intro hb <;> (have hc := hb) <;> (try simp only [decide_eq_true_eq, decide_eq_false_iff_not, Int.not_lt, Int.not_le, ne_eq, Bool.not_eq_true, Bool.not_eq_false, Decidable.not_not] at hc) <;> (try (exfalso; omega)) <;> (try (exfalso; simp only [Bool.not_eq_eq_eq_not, Bool.not_true, Bool.not_false, decide_eq_true_eq, decide_eq_false_iff_not, ne_eq, Decidable.not_not, Int.not_lt, Int.not_le] at hc; omega)) <;> (try (first | contradiction | (cases hc; done))) <;> (try (first | exact absurd (hb.symm.trans (by assumption) : true = false) (by decide) | exact absurd (hb.symm.trans (by assumption) : false = true) (by decide)))))))
        (first | refine ret_r (ret3 rfl by_res by_res by_res (List.nil_sublist _) ⟨_, rfl, ?_⟩) | refine ret_n (ret3 rfl by_res by_res by_res (List.nil_sublist _) ⟨_, rfl, ?_⟩))
        refine ⟨rfl, 3, 0, _, (k : Int) + (sgT sigs s k).size, ?_, fun _ => ⟨rfl, rfl, rfl, rfl⟩⟩
        dsimp only
        rw [sgn_some]
end Go.Proofs.YtbhbjlhobdoomaaDoor
