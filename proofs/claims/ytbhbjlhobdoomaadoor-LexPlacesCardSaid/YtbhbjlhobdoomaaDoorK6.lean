import Derived.Test.YtbhbjlhobdoomaaDoorK5
set_option linter.unusedVariables false
set_option linter.unusedSimpArgs false
namespace Go.Proofs.YtbhbjlhobdoomaaDoor
open Go Go.AX
set_option maxHeartbeats 4000000
set_option maxRecDepth 20000
attribute [local irreducible] AW RL OP PureV ValV HV DL Tri TriR Fun RetOk ResV
theorem blanks44 (p : Nat) (s : ByteArray) (hs : s.size ≤ 100000) (R : List V) (hR : Cls R) (k : Nat) (hk : k ≤ s.size) :
    TriR Tryd.prog 44 [ptr p] [sc p s k R] fun v H' => v = bool (skip s false k).2 ∧ H' = [sc p s (skip s false k).1 R] := by
  refine TriR.of (tri_of Tryd.func44 rfl Tryd.ntmps44 rfl fun j => ?_)
  repeat' (first | (with_reducible first | refine aw_seq ?_ | refine rl_nil ?_ | refine aw_region ?_ | refine then_n ?_ | refine aw_block ?_ | refine then_exit ?_ | refine then_ret ?_ | refine in_n ?_ | refine in_ret ?_ | refine aw_exit ?_ | refine aw_ret ?_ | refine aw_skip ?_ | refine in_exit_eq rfl ?_ | refine awr_succ ?_) | ((with_reducible refine k_assign ?_); refine rl_pure (pv_assign rfl) rfl rfl rfl ?_))
  refine aw_iter (α := Nat) (fun i => [(0, ptr p)]) (fun i => [sc p s i R]) (fun i => i ≤ s.size ∧ skip s false k = skip s false i) (fun i => s.size - i)
    k ⟨hk, rfl⟩ (by (repeat (first | exact sub_nil | refine sub_cons (by first | rfl | (simp; done)) ?_))) (.cons .here .nil) fun i hI => ?_
  obtain ⟨hi, hE⟩ := hI
  have g1 := behind62a p s hs i R hR 1 i hi
  have hge := run_ge (c := fun b => decide (cls b = 1)) (s := s) _ i (Nat.le_refl _)
  have hst := run_stop (c := fun b => decide (cls b = 1)) (s := s) _ i (Nat.le_refl _)
  have hrn := skip_run (s := s) _ i (Nat.le_refl _)
  change skip s false i = skip s false (run (fun b => decide (cls b = 1)) s i) at hrn
  change FunB _ _ _ _ (int (run (fun b => decide (cls b = 1)) s i)) at g1
  generalize run (fun b => decide (cls b = 1)) s i = m at g1 hge hst hrn
  have hm2 := hge.2 hi
  have g2 := hasPrefix63 (s.extract m s.size) ⟨#[47, 47]⟩
  rw [pre_at hm2, at_slashes] at g2
  by_cases hsl : ba s m = 47 ∧ ba s (m + 1) = 47
  · have l1 := ba_lt (s := s) (k := m) (by omega)
    have l2 := ba_lt (s := s) (k := m + 1) (by omega)
    rw [decide_eq_true hsl] at g2
    repeat' (first | (with_reducible first | refine aw_seq ?_ | refine rl_nil ?_ | refine aw_region ?_ | refine then_n ?_ | refine aw_block ?_ | refine then_exit ?_ | refine then_ret ?_ | refine in_n ?_ | refine in_ret ?_ | refine aw_exit ?_ | refine aw_ret ?_ | refine aw_skip ?_ | refine in_exit_eq rfl ?_ | refine awr_succ ?_) | ((with_reducible refine k_move ?_); refine rl_pure (pv_move rfl) rfl rfl rfl ?_) | ((with_reducible refine k_load ?_); refine rl_val (vv_load_box (by rfl) by_memb (by rfl) by_bd) rfl rfl rfl ?_) | ((with_reducible refine k_fieldAddr ?_); refine rl_pure (pv_fieldAddr rfl) rfl rfl rfl ?_) | ((with_reducible refine k_store ?_); refine rl_op rfl (op_store_box (by rfl) (by rfl) (V.okc_or (by rfl)) by_upd (by rfl) (by first | exact Nat.le_of_ble_eq_true rfl | assumption) ?_)) | ((with_reducible refine k_nilCheck ?_); refine rl_pure (pv_nilCheck rfl) rfl rfl rfl ?_) | ((with_reducible refine k_buildSlice ?_); refine rl_op rfl (op_buildSlice_ro rfl rfl rfl (by rfl) (by rfl) (by rfl) (by rfl) rfl by_rows ?_)) | ((with_reducible refine k_cond ?_); refine aw_cond_f rfl ?_) | (with_reducible refine dl_nil by_app ?_) | ((with_reducible refine kd_move ?_); refine dl_pure (by assumption) (pv_move rfl) by_wants rfl rfl ?_) | ((with_reducible refine kd_fieldAddr ?_); refine dl_pure (by assumption) (pv_fieldAddr rfl) by_wants rfl rfl ?_) | ((with_reducible refine kd_not ?_); refine dl_pure (by assumption) (pv_not rfl) by_wants rfl rfl ?_) | ((with_reducible refine kd_nilCheck ?_); refine dl_pure (by assumption) (pv_nilCheck rfl) by_wants rfl rfl ?_) | ((with_reducible refine kd_slice ?_); refine dl_pure (by assumption) (pv_slice_str (by rfl) rfl rfl by_bound) by_wants rfl rfl ?_) | ((with_reducible refine kd_load ?_); refine dl_take (by assumption) (hv_load_box (by assumption) (by rfl) by_mem0 (by rfl) by_bd) by_wants rfl rfl ?_) | (refine aw_draw (id := 2) [(false, 0), (false, 1), (false, 2), (false, 3), (false, 4), (false, 5), (false, 6), (false, 7), (false, 8), (true, 9), (false, 10)] [] (by kernel_rfl) (by decide +kernel) (by decide) by_lit .nil by_nos fun jd hjd => ?_) | ((with_reducible refine k_callv ?_); refine rl_op rfl (op_callB rfl rfl g1 (bor_cons by_memb bor_nil) rfl ?_)) | ((with_reducible refine kd_callv ?_); (refine dl_op (by assumption) by_wants (op_callF rfl rfl (g2) rfl ?_); intro jd hjd)))
    refine aw_iter (α := Nat) (fun i => [(0, ptr p)]) (fun i => [sc p s i R]) (fun q => m ≤ q ∧ q ≤ s.size ∧ skip s false k = skip s true q) (fun i => s.size - i)
      m ⟨Nat.le_refl _, hm2, by rw [hE, hrn, skip_slash hsl]⟩ (by (repeat (first | exact sub_nil | refine sub_cons (by first | rfl | (simp; done)) ?_))) (.cons .here .nil) fun q hI => ?_
    obtain ⟨hq1, hq2, hq⟩ := hI
    have g3 := is64a p s q R hR 0 q
    repeat' (first | (with_reducible first | refine aw_seq ?_ | refine rl_nil ?_ | refine aw_region ?_ | refine then_n ?_ | refine aw_block ?_ | refine then_exit ?_ | refine then_ret ?_ | refine in_n ?_ | refine in_ret ?_ | refine aw_exit ?_ | refine aw_ret ?_ | refine aw_skip ?_ | refine in_exit_eq rfl ?_ | refine awr_succ ?_) | ((with_reducible refine k_move ?_); refine rl_pure (pv_move rfl) rfl rfl rfl ?_) | ((with_reducible refine k_assign ?_); refine rl_pure (pv_assign rfl) rfl rfl rfl ?_) | ((with_reducible refine k_load ?_); refine rl_val (vv_load_box (by rfl) by_memb (by rfl) by_bd) rfl rfl rfl ?_) | ((with_reducible refine k_fieldAddr ?_); refine rl_pure (pv_fieldAddr rfl) rfl rfl rfl ?_) | ((with_reducible refine k_store ?_); refine rl_op rfl (op_store_box (by rfl) (by rfl) (V.okc_or (by rfl)) by_upd (by rfl) (by first | exact Nat.le_of_ble_eq_true rfl | assumption) ?_)) | ((with_reducible refine k_add ?_); refine rl_pure (pv_add_in rfl rfl (by omega)) rfl rfl rfl ?_) | ((with_reducible refine k_nilCheck ?_); refine rl_pure (pv_nilCheck rfl) rfl rfl rfl ?_) | ((with_reducible refine k_buildSlice ?_); refine rl_op rfl (op_buildSlice_ro rfl rfl rfl (by rfl) (by rfl) (by rfl) (by rfl) rfl by_rows ?_)) | ((with_reducible refine k_cond ?_); refine aw_cond_f rfl ?_) | (with_reducible refine dl_nil by_app ?_) | ((with_reducible refine kd_guard ?_); refine dl_off rfl rfl rfl rfl by_bd rfl rfl ?_) | ((with_reducible refine kd_move ?_); refine dl_pure (by assumption) (pv_move rfl) by_wants rfl rfl ?_) | ((with_reducible refine kd_fieldAddr ?_); refine dl_pure (by assumption) (pv_fieldAddr rfl) by_wants rfl rfl ?_) | ((with_reducible refine kd_neq ?_); refine dl_pure (by assumption) (pv_neq rfl rfl) by_wants rfl rfl ?_) | ((with_reducible refine kd_lss ?_); refine dl_pure (by assumption) (pv_lss rfl rfl) by_wants rfl rfl ?_) | ((with_reducible refine kd_index ?_); refine dl_pure (by assumption) (pv_index_str rfl rfl by_bound) by_wants rfl rfl ?_) | ((with_reducible refine kd_len ?_); refine dl_pure (by assumption) (pv_len_str rfl) by_wants rfl rfl ?_) | ((with_reducible refine kd_nilCheck ?_); refine dl_pure (by assumption) (pv_nilCheck rfl) by_wants rfl rfl ?_) | ((with_reducible refine kd_pick ?_); (first | refine dl_pure (by assumption) (pv_pick_t rfl by_bd rfl) by_wants rfl rfl ?_ | refine dl_pure (by assumption) (pv_pick_f rfl by_bd rfl) by_wants rfl rfl ?_)) | ((with_reducible refine kd_load ?_); refine dl_take (by assumption) (hv_load_box (by assumption) (by rfl) by_mem0 (by rfl) by_bd) by_wants rfl rfl ?_) | (refine aw_draw (id := 4) [(false, 0), (false, 1), (false, 2), (false, 3), (false, 4), (false, 5), (false, 6), (false, 7), (false, 8), (false, 9), (false, 10), (false, 11), (false, 12), (false, 13), (false, 14), (false, 15), (false, 16), (false, 17), (false, 18), (false, 19), (false, 20), (false, 21)] [] (by kernel_rfl) (by decide +kernel) (by decide) by_lit .nil by_nos fun jd hjd => ?_) | ((with_reducible refine k_callv ?_); refine rl_op rfl (op_callB rfl rfl g3 (bor_cons by_memb bor_nil) rfl ?_)) | (((with_reducible refine k_cond ?_); refine aw_cond rfl ?_ ?_) <;> ((fail_if_success (refine imp_known (by assumption) ?_)); (intro hb <;> (have hc := hb) <;> (try simp only [decide_eq_true_eq, decide_eq_false_iff_not, Int.not_lt, Int.not_le, ne_eq, Bool.not_eq_true, Bool.not_eq_false, Decidable.not_not] at hc) <;> (try (exfalso; omega)) <;> (try (exfalso; simp only [Bool.not_eq_eq_eq_not, Bool.not_true, Bool.not_false, decide_eq_true_eq, decide_eq_false_iff_not, ne_eq, Decidable.not_not, Int.not_lt, Int.not_le] at hc; omega)) <;> (try (first | contradiction | (cases hc; done))) <;> (try (first | exact absurd (hb.symm.trans (by assumption) : true = false) (by decide) | exact absurd (hb.symm.trans (by assumption) : false = true) (by decide)))))) | (((with_reducible refine kd_guard ?_); refine dl_if rfl rfl rfl ?_ ?_) <;> ((fail_if_success (refine imp_known (by assumption) ?_)); (intro hb <;> (have hc := hb) <;> (try simp only [decide_eq_true_eq, decide_eq_false_iff_not, Int.not_lt, Int.not_le, ne_eq, Bool.not_eq_true, Bool.not_eq_false, Decidable.not_not] at hc) <;> (try (exfalso; omega)) <;> (try (exfalso; simp only [Bool.not_eq_eq_eq_not, Bool.not_true, Bool.not_false, decide_eq_true_eq, decide_eq_false_iff_not, ne_eq, Decidable.not_not, Int.not_lt, Int.not_le] at hc; omega)) <;> (try (first | contradiction | (cases hc; done))) <;> (try (first | exact absurd (hb.symm.trans (by assumption) : true = false) (by decide) | exact absurd (hb.symm.trans (by assumption) : false = true) (by decide)))))))
    · (first | refine ret_r (retok_pick (.cons .here .nil) (ret1 rfl by_res (List.Sublist.refl _) ⟨_, rfl, ?_⟩)) | refine ret_n (retok_pick (.cons .here .nil) (ret1 rfl by_res (List.Sublist.refl _) ⟨_, rfl, ?_⟩)))
      rw [hq, skip_bad (by omega) (by omega)]
      exact ⟨rfl, rfl⟩
    · refine next_of (R := []) (q + 1) ⟨by omega, by omega, ?_⟩ (by omega) (by (repeat (first | exact sub_nil | refine sub_cons (by first | rfl | (simp; done)) ?_))) (.cons .here .nil)
      rw [hq, skip_in (by omega) (by omega), decide_eq_true (by omega)]
    · have hne : q ≠ m := fun e => by
        subst e
        rw [ba_in l1] at hsl
        omega
      refine next_of (R := []) q ⟨hq2, ?_⟩ (by omega) (by (repeat (first | exact sub_nil | refine sub_cons (by first | rfl | (simp; done)) ?_))) (.cons .here .nil)
      rw [hq, skip_in (by omega) (by rw [hc]; decide), decide_eq_false (p := bt s q ≠ 10) (by omega), skip_blank (s := s) (k := q) (by omega) (by rw [hc]; decide)]
    · refine next_of (R := []) q ⟨hq2, ?_⟩ (by omega) (by (repeat (first | exact sub_nil | refine sub_cons (by first | rfl | (simp; done)) ?_))) (.cons .here .nil)
      rw [hq, skip_end (by omega), skip_end (by omega)]
  · rw [decide_eq_false hsl] at g2
    repeat' (first | (with_reducible first | refine aw_seq ?_ | refine rl_nil ?_ | refine aw_region ?_ | refine then_n ?_ | refine aw_block ?_ | refine then_exit ?_ | refine then_ret ?_ | refine in_n ?_ | refine in_ret ?_ | refine aw_exit ?_ | refine aw_ret ?_ | refine aw_skip ?_ | refine in_exit_eq rfl ?_ | refine awr_succ ?_) | ((with_reducible refine k_move ?_); refine rl_pure (pv_move rfl) rfl rfl rfl ?_) | ((with_reducible refine k_assign ?_); refine rl_pure (pv_assign rfl) rfl rfl rfl ?_) | ((with_reducible refine k_load ?_); refine rl_val (vv_load_box (by rfl) by_memb (by rfl) by_bd) rfl rfl rfl ?_) | ((with_reducible refine k_fieldAddr ?_); refine rl_pure (pv_fieldAddr rfl) rfl rfl rfl ?_) | ((with_reducible refine k_store ?_); refine rl_op rfl (op_store_box (by rfl) (by rfl) (V.okc_or (by rfl)) by_upd (by rfl) (by first | exact Nat.le_of_ble_eq_true rfl | assumption) ?_)) | ((with_reducible refine k_nilCheck ?_); refine rl_pure (pv_nilCheck rfl) rfl rfl rfl ?_) | ((with_reducible refine k_buildSlice ?_); refine rl_op rfl (op_buildSlice_ro rfl rfl rfl (by rfl) (by rfl) (by rfl) (by rfl) rfl by_rows ?_)) | ((with_reducible refine k_cond ?_); refine aw_cond_t rfl ?_) | (with_reducible refine dl_nil by_app ?_) | ((with_reducible refine kd_move ?_); refine dl_pure (by assumption) (pv_move rfl) by_wants rfl rfl ?_) | ((with_reducible refine kd_fieldAddr ?_); refine dl_pure (by assumption) (pv_fieldAddr rfl) by_wants rfl rfl ?_) | ((with_reducible refine kd_not ?_); refine dl_pure (by assumption) (pv_not rfl) by_wants rfl rfl ?_) | ((with_reducible refine kd_nilCheck ?_); refine dl_pure (by assumption) (pv_nilCheck rfl) by_wants rfl rfl ?_) | ((with_reducible refine kd_slice ?_); refine dl_pure (by assumption) (pv_slice_str (by rfl) rfl rfl by_bound) by_wants rfl rfl ?_) | ((with_reducible refine kd_load ?_); refine dl_take (by assumption) (hv_load_box (by assumption) (by rfl) by_mem0 (by rfl) by_bd) by_wants rfl rfl ?_) | (refine aw_draw (id := 2) [(false, 0), (false, 1), (false, 2), (false, 3), (false, 4), (false, 5), (false, 6), (false, 7), (false, 8), (true, 9), (false, 10)] [] (by kernel_rfl) (by decide +kernel) (by decide) by_lit .nil by_nos fun jd hjd => ?_) | ((with_reducible refine k_callv ?_); refine rl_op rfl (op_callB rfl rfl g1 (bor_cons by_memb bor_nil) rfl ?_)) | ((with_reducible refine kd_callv ?_); (refine dl_op (by assumption) by_wants (op_callF rfl rfl (g2) rfl ?_); intro jd hjd)))
    (first | refine ret_r (retok_pick (.cons .here .nil) (ret1 rfl by_res (List.Sublist.refl _) ⟨_, rfl, ?_⟩)) | refine ret_n (retok_pick (.cons .here .nil) (ret1 rfl by_res (List.Sublist.refl _) ⟨_, rfl, ?_⟩)))
    have : skip s false m = (m, true) := by
      by_cases h : m < s.size
      · exact skip_done h (fun q => hst ⟨h, decide_eq_true q⟩) hsl
      · exact skip_end h
    rw [hE, hrn, this]
    exact ⟨rfl, rfl⟩
theorem classes41 : ∃ l : List V, Fun Tryd.prog 41 [] (.agg l) ∧ l.length = 256 ∧ ∀ b : Int, 0 ≤ b → b ≤ 255 → l[b.toNat]? = some (int (cls b)) := by
  let cl : Nat → List V := fun n => (List.range 256).map fun i => if i < n then int (cls i) else int 0
  have hlen : ∀ n, (cl n).length = 256 := fun n => by simp [cl]
  have hget : ∀ n i, i < 256 → (cl n)[i]? = some (if i < n then int (cls i) else int 0) := fun n i hi => by simp [cl, List.getElem?_range hi]
  refine ⟨cl 256, ?_, hlen _, fun b h0 h1 => ?_⟩
  · have h0 : (List.replicate 256 (int 0)) = cl 0 := by
      apply List.ext_getElem?
      intro i
      rcases Nat.lt_or_ge i 256 with hi | hi
      · rw [hget 0 i hi, List.getElem?_replicate, if_pos hi, if_neg (by omega)]
      · rw [List.getElem?_eq_none (by simpa using hi), List.getElem?_eq_none (by rw [hlen]; exact hi)]
    have hset : ∀ n, n < 256 → (cl n).set n (int (cls n)) = cl (n + 1) := fun n hn => by
      apply List.ext_getElem?
      intro i
      rcases Nat.lt_or_ge i 256 with hi | hi
      · by_cases e : i = n
        · subst e
          rw [List.getElem?_set_self (by rw [hlen]; exact hi), hget _ _ hi, if_pos (by omega)]
        · rw [List.getElem?_set_ne (Ne.symm e), hget _ _ hi, hget _ _ hi]
          congr 1
          by_cases g : i < n
          · rw [if_pos g, if_pos (by omega)]
          · rw [if_neg g, if_neg (by omega)]
      · rw [List.getElem?_eq_none (by rw [List.length_set, hlen]; exact hi), List.getElem?_eq_none (by rw [hlen]; exact hi)]
    refine Fun.of (TriR.of (tri_of Tryd.func41 rfl Tryd.ntmps41 rfl fun j => ?_))
    have hz : List.map V.raw (Value.agg Tryd.zeroCells56).cells.toList = cl 0 := by
      rw [← h0, ← List.map_replicate (f := V.raw)]
      exact congrArg _ (by kernel_rfl)
    repeat' (first | (with_reducible first | refine aw_seq ?_ | refine rl_nil ?_ | refine aw_region ?_ | refine then_n ?_ | refine aw_block ?_ | refine then_exit ?_ | refine then_ret ?_ | refine in_n ?_ | refine in_ret ?_ | refine aw_exit ?_ | refine aw_ret ?_ | refine aw_skip ?_ | refine in_exit_eq rfl ?_ | refine awr_succ ?_) | ((with_reducible refine k_move ?_); refine rl_pure (pv_move rfl) rfl rfl rfl ?_) | ((with_reducible refine k_alloc ?_); refine rl_op rfl (op_alloc (by decide) rfl fun b => ?_)))
    rename_i b0
    revert b; intro b1
    rw [hz]
    refine aw_iter (α := Nat) (fun n => [(0, ptr b0), (1, ptr b1), (4, int n)]) (fun n => [.box b1 56 (cl n), .box b0 56 (cl 0)]) (fun n => n ≤ 256) (fun n => 256 - n)
      0 (by omega) (by (repeat (first | exact sub_nil | refine sub_cons (by first | rfl | (simp; done)) ?_))) (.cons .here (.cons .here .nil)) fun n hn => ?_
    have hw : 0 ≤ n → n < 256 → (n : Int) % 256 = n := fun _ _ => by omega
    have hbd : n < 256 → 0 + (n : Int).toNat * 1 + 1 ≤ (cl n).length := fun h => by rw [hlen]; omega
    by_cases hn2 : n < 256
    · have hbd := hbd hn2
      have hw := hw (by omega) hn2
      have hst : ∀ c : Int, cls n = c → setAll (cl n) (0 + (n : Int).toNat * 1) (V.cells (int c)) = cl (n + 1) := fun c hc => by
        rw [← hset n hn2, hc, show 0 + (n : Int).toNat * 1 = n by omega]
        rfl
      have hno : cls n = 0 → cl n = cl (n + 1) := fun hc => by
        apply List.ext_getElem?
        intro i
        rcases Nat.lt_or_ge i 256 with hi | hi
        · rw [hget _ _ hi, hget _ _ hi]
          congr 1
          by_cases e : i = n
          · subst e
            rw [if_neg (by omega), if_pos (by omega), hc]
          · by_cases g : i < n
            · rw [if_pos g, if_pos (by omega)]
            · rw [if_neg g, if_neg (by omega)]
        · rw [List.getElem?_eq_none (by rw [hlen]; exact hi), List.getElem?_eq_none (by rw [hlen]; exact hi)]
      repeat' (first | (with_reducible first | refine aw_seq ?_ | refine rl_nil ?_ | refine aw_region ?_ | refine then_n ?_ | refine aw_block ?_ | refine then_exit ?_ | refine then_ret ?_ | refine in_n ?_ | refine in_ret ?_ | refine aw_exit ?_ | refine aw_ret ?_ | refine aw_skip ?_ | refine in_exit_eq rfl ?_ | refine awr_succ ?_) | ((with_reducible refine k_move ?_); refine rl_pure (pv_move rfl) rfl rfl rfl ?_) | ((with_reducible refine k_assign ?_); refine rl_pure (pv_assign rfl) rfl rfl rfl ?_) | ((with_reducible refine k_store ?_); refine rl_op rfl (op_store_box (by rfl) (by rfl) (V.okc_or (by rfl)) by_upd (by rfl) (by first | exact Nat.le_of_ble_eq_true rfl | assumption) ?_)) | ((with_reducible refine k_eql ?_); refine rl_pure (pv_eql rfl rfl) rfl rfl rfl ?_) | ((with_reducible refine k_lss ?_); refine rl_pure (pv_lss rfl rfl) rfl rfl rfl ?_) | ((with_reducible refine k_leq ?_); refine rl_pure (pv_leq rfl rfl) rfl rfl rfl ?_) | ((with_reducible refine k_gtr ?_); refine rl_pure (pv_gtr rfl rfl) rfl rfl rfl ?_) | ((with_reducible refine k_geq ?_); refine rl_pure (pv_geq rfl rfl) rfl rfl rfl ?_) | ((with_reducible refine k_add ?_); refine rl_pure (pv_add_in rfl rfl (by omega)) rfl rfl rfl ?_) | ((with_reducible refine k_indexAddr ?_); refine rl_pure (pv_indexAddr_arr (by rfl) rfl by_bound) rfl rfl rfl ?_) | ((with_reducible refine k_pick ?_); (first | refine rl_pure (pv_pick_t rfl by_bd rfl) rfl rfl rfl ?_ | refine rl_pure (pv_pick_f rfl by_bd rfl) rfl rfl rfl ?_)) | ((with_reducible refine k_convert ?_); refine rl_pure (pv_convert_in rfl (by first | rfl | exact IntWalk.i64_in _ (by omega) | exact IntWalk.u8_in _ (by omega) | exact IntWalk.u32_in _ (by omega))) rfl rfl rfl ?_) | ((with_reducible refine k_guard ?_); (first | refine rl_on_yes rfl rfl rfl by_bd rfl ?_ | refine rl_off_t rfl rfl rfl by_bd rfl ?_ | refine rl_off_f rfl rfl rfl by_bd rfl ?_ | refine rl_off_u rfl rfl rfl rfl ?_)) | ((with_reducible refine k_cond ?_); (first | refine aw_cond_t rfl ?_ | refine aw_cond_f rfl ?_)) | (((with_reducible refine k_guard ?_); first | refine rl_if_t rfl rfl rfl rfl ?_ ?_ | refine rl_if_f rfl rfl rfl rfl ?_ ?_) <;> ((fail_if_success (refine imp_known (by assumption) ?_)); (intro hb <;> (have hc := hb) <;> (try simp only [decide_eq_true_eq, decide_eq_false_iff_not, Int.not_lt, Int.not_le, ne_eq, Bool.not_eq_true, Bool.not_eq_false, Decidable.not_not] at hc) <;> (try (exfalso; omega)) <;> (try (exfalso; simp only [Bool.not_eq_eq_eq_not, Bool.not_true, Bool.not_false, decide_eq_true_eq, decide_eq_false_iff_not, ne_eq, Decidable.not_not, Int.not_lt, Int.not_le] at hc; omega)) <;> (try (first | contradiction | (cases hc; done))) <;> (try (first | exact absurd (hb.symm.trans (by assumption) : true = false) (by decide) | exact absurd (hb.symm.trans (by assumption) : false = true) (by decide)))))) | (((with_reducible refine k_cond ?_); refine aw_cond rfl ?_ ?_) <;> ((fail_if_success (refine imp_known (by assumption) ?_)); (intro hb <;> (have hc := hb) <;> (try simp only [decide_eq_true_eq, decide_eq_false_iff_not, Int.not_lt, Int.not_le, ne_eq, Bool.not_eq_true, Bool.not_eq_false, Decidable.not_not] at hc) <;> (try (exfalso; omega)) <;> (try (exfalso; simp only [Bool.not_eq_eq_eq_not, Bool.not_true, Bool.not_false, decide_eq_true_eq, decide_eq_false_iff_not, ne_eq, Decidable.not_not, Int.not_lt, Int.not_le] at hc; omega)) <;> (try (first | contradiction | (cases hc; done))) <;> (try (first | exact absurd (hb.symm.trans (by assumption) : true = false) (by decide) | exact absurd (hb.symm.trans (by assumption) : false = true) (by decide)))))))
      all_goals
        clear hset hget hlen h0 hz hbd hw
        simp only [decide_eq_true_eq, decide_eq_false_iff_not] at *
        first
        | (rw [hst 1 (by unfold cls; (repeat' split) <;> omega)]; exact next_of (R := []) (n + 1) (by omega) (by omega) (by (repeat (first | exact sub_nil | refine sub_cons (by first | rfl | (simp; done)) ?_))) (.cons .here (.cons .here .nil)))
        | (rw [hst 2 (by unfold cls; (repeat' split) <;> omega)]; exact next_of (R := []) (n + 1) (by omega) (by omega) (by (repeat (first | exact sub_nil | refine sub_cons (by first | rfl | (simp; done)) ?_))) (.cons .here (.cons .here .nil)))
        | (rw [hst 3 (by unfold cls; (repeat' split) <;> omega)]; exact next_of (R := []) (n + 1) (by omega) (by omega) (by (repeat (first | exact sub_nil | refine sub_cons (by first | rfl | (simp; done)) ?_))) (.cons .here (.cons .here .nil)))
        | (rw [hst 4 (by unfold cls; (repeat' split) <;> omega)]; exact next_of (R := []) (n + 1) (by omega) (by omega) (by (repeat (first | exact sub_nil | refine sub_cons (by first | rfl | (simp; done)) ?_))) (.cons .here (.cons .here .nil)))
        | (rw [hno (by unfold cls; (repeat' split) <;> omega)]; exact next_of (R := []) (n + 1) (by omega) (by omega) (by (repeat (first | exact sub_nil | refine sub_cons (by first | rfl | (simp; done)) ?_))) (.cons .here (.cons .here .nil)))
    · obtain rfl : n = 256 := by omega
      repeat' (first | (with_reducible first | refine aw_seq ?_ | refine rl_nil ?_ | refine aw_region ?_ | refine then_n ?_ | refine aw_block ?_ | refine then_exit ?_ | refine then_ret ?_ | refine in_n ?_ | refine in_ret ?_ | refine aw_exit ?_ | refine aw_ret ?_ | refine aw_skip ?_ | refine in_exit_eq rfl ?_ | refine awr_succ ?_) | ((with_reducible refine k_load ?_); refine rl_val (vv_load_box_whole (by rfl) by_memb (by rfl) (by first | rfl)) rfl rfl rfl ?_) | ((with_reducible refine k_store ?_); refine rl_op rfl (op_store_box_whole (by rfl) (by rfl) (V.okc_or (by rfl)) by_upd (by first | rfl) (by first | rfl) ?_)) | ((with_reducible refine k_lss ?_); refine rl_pure (pv_lss rfl rfl) rfl rfl rfl ?_) | ((with_reducible refine k_cond ?_); refine aw_cond_f rfl ?_))
      refine ret_r (ret1 rfl (res_cell_agg (cs := cl 256) rfl by_mem0 (by rfl) ?_ (hlen _)) (List.nil_sublist _) ⟨_, rfl, rfl, rfl⟩)
      show ((cl 256).drop 0).take 256 = cl 256
      rw [List.drop_zero, List.take_of_length_le (by rw [hlen]; exact Nat.le_refl _)]
  · rw [hget _ _ (by omega), if_pos (by omega), show ((b.toNat : Nat) : Int) = b by omega]
end Go.Proofs.YtbhbjlhobdoomaaDoor
