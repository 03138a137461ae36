import Derived.Test.YtbhbjlhobdoomaaDoorK6
set_option linter.unusedVariables false
set_option linter.unusedSimpArgs false
namespace Go.Proofs.YtbhbjlhobdoomaaDoor
open Go Go.AX
set_option maxHeartbeats 4000000
set_option maxRecDepth 20000
attribute [local irreducible] AW RL OP PureV ValV HV DL Tri TriR Fun RetOk ResV
theorem pt_fun : (fun b : Int => decide (cls b = 2 ∨ cls b = 3)) = fun b => decide (isPt b) := by
  funext b
  rw [Bool.eq_iff_iff, decide_eq_true_eq, decide_eq_true_eq, cls2, cls3]
theorem runB_pt (s : ByteArray) (k : Nat) : runB 2 3 s k = run (fun b => decide (isPt b)) s k := by
  show run _ s k = _
  rw [pt_fun]
theorem wordEnd_runB (s : ByteArray) (k : Nat) : wordEnd s k = wordEnd s (runB 2 3 s k) := by rw [runB_pt]; exact wordEnd_run s _ k (Nat.le_refl _)
theorem isPt_cls (b : Int) : (cls b = 2 ∨ cls b = 3) ↔ isPt b := by rw [cls2, cls3]
/-- A token but for its place. -/
abbrev tokC (kind n : Int) (at' : Int) (t : ByteArray) : V := .agg [int kind, int n, int at', str t]
theorem word65 (p : Nat) (s : ByteArray) (hs : s.size ≤ 100000) (R : List V) (hR : Cls R) (k : Nat) (hk : k ≤ s.size) :
    TriR Tryd.prog 65 [ptr p] [sc p s k R] fun v H' => v = .tup [tokC 0 0 0 (s.extract k (wordEnd s k)), bool (decide ((wordEnd s k : Int) - k ≤ 16))] ∧ H' = [sc p s (wordEnd s k) R] := by
  refine TriR.of (tri_of Tryd.func65 rfl Tryd.ntmps65 rfl fun j => ?_)
  have g1 := behind62b p s hs k R hR 2 3 k hk
  have hge := run_ge (c := fun b => decide (cls b = 2 ∨ cls b = 3)) (s := s) _ k (Nat.le_refl _)
  have hst := run_stop (c := fun b => decide (cls b = 2 ∨ cls b = 3)) (s := s) _ k (Nat.le_refl _)
  have hrn := wordEnd_runB s k
  change wordEnd s k = wordEnd s (run (fun b => decide (cls b = 2 ∨ cls b = 3)) s k) at hrn
  change FunB _ _ _ _ (int (run (fun b => decide (cls b = 2 ∨ cls b = 3)) s k)) at g1
  generalize run (fun b => decide (cls b = 2 ∨ cls b = 3)) s k = m at g1 hge hst hrn
  repeat' (first | (with_reducible first | refine aw_seq ?_ | refine rl_nil ?_ | refine aw_region ?_ | refine then_n ?_ | refine aw_block ?_ | refine then_exit ?_ | refine then_ret ?_ | refine in_n ?_ | refine in_ret ?_ | refine aw_exit ?_ | refine aw_ret ?_ | refine aw_skip ?_ | refine in_exit_eq rfl ?_ | refine awr_succ ?_) | ((with_reducible refine k_move ?_); refine rl_pure (pv_move rfl) rfl rfl rfl ?_) | ((with_reducible refine k_assign ?_); refine rl_pure (pv_assign rfl) rfl rfl rfl ?_) | ((with_reducible refine k_load ?_); refine rl_val (vv_load_box (by rfl) by_memb (by rfl) by_bd) rfl rfl rfl ?_) | ((with_reducible refine k_fieldAddr ?_); refine rl_pure (pv_fieldAddr rfl) rfl rfl rfl ?_) | ((with_reducible refine k_alloc ?_); refine rl_op rfl (op_alloc (by decide) rfl fun b => ?_)) | ((with_reducible refine k_nilCheck ?_); refine rl_pure (pv_nilCheck rfl) rfl rfl rfl ?_) | ((with_reducible refine k_buildSlice ?_); refine rl_op rfl (op_buildSlice_ro rfl rfl rfl (by rfl) (by rfl) (by rfl) (by rfl) rfl by_rows ?_)) | ((with_reducible refine k_callv ?_); refine rl_op rfl (op_callB rfl rfl g1 (bor_cons by_memb bor_nil) rfl ?_)))
  revert b; intro tb
  refine aw_iter (α := Nat) (fun i => [(0, ptr p), (2, ptr tb), (4, int i)]) (fun i => [.box tb 33 [int 0, int 0, int 0, str ⟨#[]⟩], sc p s k R])
    (fun i => (k ≤ i ∧ i ≤ s.size) ∧ wordEnd s k = wordEnd s i ∧ ¬ (i < s.size ∧ decide (cls (bt s i) = 2 ∨ cls (bt s i) = 3) = true)) (fun i => s.size - i)
    m ⟨⟨hge.1, hge.2 hk⟩, hrn, hst⟩ (by (repeat (first | exact sub_nil | refine sub_cons (by first | rfl | (simp; done)) ?_))) (.cons .here (.cons .here .nil)) fun i hI => ?_
  clear hge hst hrn g1 m
  obtain ⟨⟨hki, hi⟩, hE, hst⟩ := hI
  have g2 : FunB Tryd.prog 64 [ptr p, int ((i : Int) + 1), .ro [[int 2], [int 3]]] [sc p s k R] (bool (decide (i + 1 < s.size ∧ (cls (bt s (i + 1 : Nat)) = 2 ∨ cls (bt s (i + 1 : Nat)) = 3)))) := is64b p s k R hR 2 3 (i + 1)
  by_cases hd : ba s i = 46 ∧ isPt (ba s (i + 1))
  · have l1 := ba_lt (s := s) (k := i) (by omega)
    have l2 := ba_lt (s := s) (k := i + 1) (by obtain ⟨_, q⟩ := hd; unfold isPt isLt isDg at q; omega)
    have hd1 : bt s i = 46 := by rw [← ba_in l1]; exact hd.1
    have hd2 := hd.2
    rw [ba_in l2, ← isPt_cls] at hd2
    rw [decide_eq_true ⟨l2, hd2⟩] at g2
    have g3 : FunB Tryd.prog 62 [ptr p, int ((i : Int) + 1), .ro [[int 2], [int 3]]] [sc p s k R] (int (runB 2 3 s (i + 1))) := behind62b p s hs k R hR 2 3 (i + 1) (by omega)
    have hge : i + 1 ≤ runB 2 3 s (i + 1) ∧ (i + 1 ≤ s.size → runB 2 3 s (i + 1) ≤ s.size) := run_ge (c := fun b => decide (cls b = 2 ∨ cls b = 3)) (s := s) _ (i + 1) (Nat.le_refl _)
    have hst2 := run_stop (c := fun b => decide (cls b = 2 ∨ cls b = 3)) (s := s) _ (i + 1) (Nat.le_refl _)
    have hrn := wordEnd_runB s (i + 1)
    have hdot : wordEnd s i = wordEnd s (i + 1) := by
      rw [wordEnd_dot (by rw [hd.1]; unfold isPt isLt isDg; omega) hd, wordEnd_pt (s := s) (k := i + 1) hd.2]
    repeat' (first | (with_reducible first | refine aw_seq ?_ | refine rl_nil ?_ | refine aw_region ?_ | refine then_n ?_ | refine aw_block ?_ | refine then_exit ?_ | refine then_ret ?_ | refine in_n ?_ | refine in_ret ?_ | refine aw_exit ?_ | refine aw_ret ?_ | refine aw_skip ?_ | refine in_exit_eq rfl ?_ | refine awr_succ ?_) | ((with_reducible refine k_move ?_); refine rl_pure (pv_move rfl) rfl rfl rfl ?_) | ((with_reducible refine k_assign ?_); refine rl_pure (pv_assign rfl) rfl rfl rfl ?_) | ((with_reducible refine k_load ?_); refine rl_val (vv_load_box (by rfl) by_memb (by rfl) by_bd) rfl rfl rfl ?_) | ((with_reducible refine k_fieldAddr ?_); refine rl_pure (pv_fieldAddr rfl) rfl rfl rfl ?_) | ((with_reducible refine k_eql ?_); refine rl_pure (pv_eql rfl rfl) rfl rfl rfl ?_) | ((with_reducible refine k_lss ?_); refine rl_pure (pv_lss rfl rfl) rfl rfl rfl ?_) | ((with_reducible refine k_add ?_); refine rl_pure (pv_add_in rfl rfl (by omega)) rfl rfl rfl ?_) | ((with_reducible refine k_index ?_); refine rl_pure (pv_index_str rfl rfl by_bound) rfl rfl rfl ?_) | ((with_reducible refine k_len ?_); refine rl_pure (pv_len_str rfl) rfl rfl rfl ?_) | ((with_reducible refine k_nilCheck ?_); refine rl_pure (pv_nilCheck rfl) rfl rfl rfl ?_) | ((with_reducible refine k_buildSlice ?_); refine rl_op rfl (op_buildSlice_ro rfl rfl rfl (by rfl) (by rfl) (by rfl) (by rfl) rfl by_rows ?_)) | ((with_reducible refine k_pick ?_); refine rl_pure (pv_pick_t rfl by_bd rfl) rfl rfl rfl ?_) | ((with_reducible refine k_guard ?_); refine rl_on_yes rfl rfl rfl by_bd rfl ?_) | ((with_reducible refine k_cond ?_); refine aw_cond_t rfl ?_) | ((with_reducible refine k_callv ?_); (first | refine rl_op rfl (op_callB rfl rfl g2 (bor_cons by_memb bor_nil) rfl ?_) | refine rl_op rfl (op_callB rfl rfl g3 (bor_cons by_memb bor_nil) rfl ?_))) | (((with_reducible refine k_guard ?_); first | refine rl_if_t rfl rfl rfl rfl ?_ ?_ | refine rl_if_f rfl rfl rfl rfl ?_ ?_) <;> ((fail_if_success (refine imp_known (by assumption) ?_)); (intro hb <;> (have hc := hb) <;> (try simp only [decide_eq_true_eq, decide_eq_false_iff_not, Int.not_lt, Int.not_le, ne_eq, Bool.not_eq_true, Bool.not_eq_false, Decidable.not_not] at hc) <;> (try (exfalso; omega)) <;> (try (exfalso; simp only [Bool.not_eq_eq_eq_not, Bool.not_true, Bool.not_false, decide_eq_true_eq, decide_eq_false_iff_not, ne_eq, Decidable.not_not, Int.not_lt, Int.not_le] at hc; omega)) <;> (try (first | contradiction | (cases hc; done))) <;> (try (first | exact absurd (hb.symm.trans (by assumption) : true = false) (by decide) | exact absurd (hb.symm.trans (by assumption) : false = true) (by decide)))))))
    exact next_of (R := []) (runB 2 3 s (i + 1)) ⟨⟨by omega, hge.2 (by omega)⟩, by rw [hE, hdot, ← hrn], hst2⟩ (by omega) (by (repeat (first | exact sub_nil | refine sub_cons (by first | rfl | (simp; done)) ?_))) (.cons .here (.cons .here .nil))
  · have hend : wordEnd s k = i := by
      rw [hE, wordEnd_end (fun q => ?_) hd]
      have l1 := ba_lt (s := s) (k := i) (by unfold isPt isLt isDg at q; omega)
      exact hst ⟨l1, decide_eq_true ((isPt_cls _).2 (by rw [← ba_in l1]; exact q))⟩
    rw [hend]
    have hfin : i < s.size → bt s i = 46 → i + 1 < s.size → ¬ (cls (bt s (i + 1 : Nat)) = 2 ∨ cls (bt s (i + 1 : Nat)) = 3) := fun h1 h2 h3 h4 => hd ⟨by rw [ba_in h1]; exact h2, by rw [ba_in h3]; exact (isPt_cls _).1 h4⟩
    have hsz : ((s.extract k i).size : Int) = (i : Int) - k := by rw [ByteArray.size_extract]; omega
    have hdec : decide (((s.extract k i).size : Int) ≤ 16) = decide ((i : Int) - k ≤ 16) := by simp only [hsz]
    repeat' (first | (with_reducible first | refine aw_seq ?_ | refine rl_nil ?_ | refine aw_region ?_ | refine then_n ?_ | refine aw_block ?_ | refine then_exit ?_ | refine then_ret ?_ | refine in_n ?_ | refine in_ret ?_ | refine aw_exit ?_ | refine aw_ret ?_ | refine aw_skip ?_ | refine in_exit_eq rfl ?_ | refine awr_succ ?_) | ((with_reducible refine k_move ?_); refine rl_pure (pv_move rfl) rfl rfl rfl ?_) | ((with_reducible refine k_load ?_); refine rl_val (vv_load_box (by rfl) by_memb (by rfl) by_bd) rfl rfl rfl ?_) | ((with_reducible refine k_fieldAddr ?_); refine rl_pure (pv_fieldAddr rfl) rfl rfl rfl ?_) | ((with_reducible refine k_store ?_); refine rl_op rfl (op_store_box (by rfl) (by rfl) (V.okc_or (by rfl)) by_upd (by rfl) (by first | exact Nat.le_of_ble_eq_true rfl | assumption) ?_)) | ((with_reducible refine k_eql ?_); refine rl_pure (pv_eql rfl rfl) rfl rfl rfl ?_) | ((with_reducible refine k_lss ?_); refine rl_pure (pv_lss rfl rfl) rfl rfl rfl ?_) | ((with_reducible refine k_add ?_); refine rl_pure (pv_add_in rfl rfl (by omega)) rfl rfl rfl ?_) | ((with_reducible refine k_index ?_); refine rl_pure (pv_index_str rfl rfl by_bound) rfl rfl rfl ?_) | ((with_reducible refine k_len ?_); refine rl_pure (pv_len_str rfl) rfl rfl rfl ?_) | ((with_reducible refine k_nilCheck ?_); refine rl_pure (pv_nilCheck rfl) rfl rfl rfl ?_) | ((with_reducible refine k_buildSlice ?_); refine rl_op rfl (op_buildSlice_ro rfl rfl rfl (by rfl) (by rfl) (by rfl) (by rfl) rfl by_rows ?_)) | ((with_reducible refine k_pick ?_); (first | refine rl_pure (pv_pick_t rfl by_bd rfl) rfl rfl rfl ?_ | refine rl_pure (pv_pick_f rfl by_bd rfl) rfl rfl rfl ?_)) | ((with_reducible refine k_guard ?_); (first | refine rl_on_yes rfl rfl rfl by_bd rfl ?_ | refine rl_off_t rfl rfl rfl by_bd rfl ?_)) | ((with_reducible refine k_cond ?_); refine aw_cond_f rfl ?_) | (with_reducible refine dl_nil by_app ?_) | ((with_reducible refine kd_move ?_); refine dl_pure (by assumption) (pv_move rfl) by_wants rfl rfl ?_) | ((with_reducible refine kd_assign ?_); refine dl_pure (by assumption) (pv_assign rfl) by_wants rfl rfl ?_) | ((with_reducible refine kd_fieldAddr ?_); refine dl_pure (by assumption) (pv_fieldAddr rfl) by_wants rfl rfl ?_) | ((with_reducible refine kd_store ?_); (refine dl_op (by assumption) by_wants (op_store_box_whole (by rfl) (by rfl) (V.okc_or (by rfl)) by_upd (by first | rfl) (by first | rfl) ?_); intro jd hjd)) | ((with_reducible refine kd_alloc ?_); (refine dl_op (by assumption) by_wants (op_alloc (by decide) rfl fun b => ?_); intro jd hjd)) | ((with_reducible refine kd_leq ?_); refine dl_pure (by assumption) (pv_leq rfl rfl) by_wants rfl rfl ?_) | ((with_reducible refine kd_len ?_); refine dl_pure (by assumption) (pv_len_str rfl) by_wants rfl rfl ?_) | ((with_reducible refine kd_nilCheck ?_); refine dl_pure (by assumption) (pv_nilCheck rfl) by_wants rfl rfl ?_) | ((with_reducible refine kd_slice ?_); refine dl_pure (by assumption) (pv_slice_str (by rfl) rfl rfl by_bound) by_wants rfl rfl ?_) | ((with_reducible refine kd_build ?_); refine dl_pure (by assumption) (pv_build rfl by_fill) by_wants rfl rfl ?_) | ((with_reducible refine kd_load ?_); (first | refine dl_take (by assumption) (hv_load_box (by assumption) (by rfl) by_mem0 (by rfl) by_bd) by_wants rfl rfl ?_ | refine dl_take (by assumption) (hv_load_box_whole (by assumption) (by rfl) by_mem0 (by rfl) (by first | rfl)) by_wants rfl rfl ?_)) | (refine aw_draw (id := 4) [(false, 0), (false, 1), (false, 2), (false, 3), (false, 4), (false, 5), (false, 6), (false, 7), (false, 8), (false, 9), (false, 10), (true, 11), (true, 12)] [] (by kernel_rfl) (by decide +kernel) (by decide) by_lit .nil by_nos fun jd hjd => ?_) | (refine aw_draw (id := 6) [(false, 0), (false, 1), (false, 2), (false, 3), (false, 4), (true, 5), (false, 6)] _ (by kernel_rfl) (by decide +kernel) (by decide) by_lit (.cons (.there .here) .nil) by_nos fun jd hjd => ?_) | ((with_reducible refine k_callv ?_); refine rl_op rfl (op_callB rfl rfl g2 (bor_cons by_memb bor_nil) rfl ?_)) | (((with_reducible refine k_guard ?_); first | refine rl_if_t rfl rfl rfl rfl ?_ ?_ | refine rl_if_f rfl rfl rfl rfl ?_ ?_) <;> ((fail_if_success (refine imp_known (by assumption) ?_)); (intro hb <;> (have hc := hb) <;> (try simp only [decide_eq_true_eq, decide_eq_false_iff_not, Int.not_lt, Int.not_le, ne_eq, Bool.not_eq_true, Bool.not_eq_false, Decidable.not_not] at hc) <;> (try (exfalso; omega)) <;> (try (exfalso; simp only [Bool.not_eq_eq_eq_not, Bool.not_true, Bool.not_false, decide_eq_true_eq, decide_eq_false_iff_not, ne_eq, Decidable.not_not, Int.not_lt, Int.not_le] at hc; omega)) <;> (try (first | contradiction | (cases hc; done))) <;> (try (first | exact absurd (hb.symm.trans (by assumption) : true = false) (by decide) | exact absurd (hb.symm.trans (by assumption) : false = true) (by decide)))))) | (((with_reducible refine k_cond ?_); refine aw_cond rfl ?_ ?_) <;> ((fail_if_success (refine imp_known (by assumption) ?_)); (intro hb <;> (have hc := hb) <;> (try simp only [decide_eq_true_eq, decide_eq_false_iff_not, Int.not_lt, Int.not_le, ne_eq, Bool.not_eq_true, Bool.not_eq_false, Decidable.not_not] at hc) <;> (try (exfalso; omega)) <;> (try (exfalso; simp only [Bool.not_eq_eq_eq_not, Bool.not_true, Bool.not_false, decide_eq_true_eq, decide_eq_false_iff_not, ne_eq, Decidable.not_not, Int.not_lt, Int.not_le] at hc; omega)) <;> (try (first | contradiction | (cases hc; done))) <;> (try (first | exact absurd (hb.symm.trans (by assumption) : true = false) (by decide) | exact absurd (hb.symm.trans (by assumption) : false = true) (by decide)))))))
    all_goals
      first
      | exact absurd hc.2 (hfin (by omega) (by omega) hc.1)
      | ((first | refine ret_r (ret2 rfl by_res by_res (List.Sublist.cons _ (List.Sublist.cons _ (List.Sublist.cons_cons _ List.Sublist.slnil))) ⟨_, rfl, ?_⟩) | refine ret_n (ret2 rfl by_res by_res (List.Sublist.cons _ (List.Sublist.cons _ (List.Sublist.cons_cons _ List.Sublist.slnil))) ⟨_, rfl, ?_⟩)); exact ⟨congrArg (fun x => V.tup [tokC 0 0 0 (s.extract k i), bool x]) hdec, rfl⟩)
theorem satv_ge (base : Int) (s : ByteArray) (e : Nat) (hb : 0 ≤ base) : ∀ (m k : Nat) (n : Int), e - k ≤ m → 0 ≤ n → 0 ≤ satv base s e k n
  | m, k, n, hm, hn => by
    unfold satv
    split
    · rename_i h
      have hd := dgo_range (bt s k)
      have : 0 ≤ base * n := Int.mul_nonneg hb hn
      cases m with
      | zero => omega
      | succ m => exact satv_ge base s e hb m (k + 1) _ (by omega) (by omega)
    · exact hn
theorem satv_go {base : Int} {s : ByteArray} {e k : Nat} {n : Int} (h : k < e) : satv base s e k n = satv base s e (k + 1) (min (base * n + dgo (bt s k)) 281474976710656) := by
  conv => lhs; unfold satv
  rw [if_pos h]
theorem satv_end {base : Int} {s : ByteArray} {e k : Nat} {n : Int} (h : ¬ k < e) : satv base s e k n = n := by unfold satv; rw [if_neg h]
/-- What is too much stays too much. -/
theorem satv_big {base : Int} (hb : 2 ≤ base) {s : ByteArray} {e : Nat} : ∀ (m k : Nat), e - k ≤ m → satv base s e k 281474976710656 = 281474976710656
  | m, k, hm => by
    by_cases h : k < e
    · have hd := dgo_range (bt s k)
      have h2 : min (base * 281474976710656 + dgo (bt s k)) 281474976710656 = 281474976710656 := by
        have : 2 * 281474976710656 ≤ base * 281474976710656 := Int.mul_le_mul_of_nonneg_right hb (by omega)
        omega
      rw [satv_go h, h2]
      cases m with
      | zero => omega
      | succ m => exact satv_big hb m (k + 1) (by omega)
    · exact satv_end h
/-- The value of digits, and whether it is a number. -/
def val (base : Int) (s : ByteArray) (f e : Nat) : Int := satv base s e f 0
def valN (base : Int) (s : ByteArray) (f e : Nat) : Int := if val base s f e ≤ 281474976710655 then val base s f e else 0
theorem valued83 (s : ByteArray) (hs : s.size ≤ 100000) (f e : Nat) (hf : f ≤ e) (he : e ≤ s.size) (base : Int) (hba : 2 ≤ base) (hb2 : base ≤ 16) :
    Fun Tryd.prog 83 [str (s.extract f e), int base] (.tup [int (valN base s f e), bool (decide (f < e ∧ val base s f e ≤ 281474976710655))]) := by
  refine Fun.of (TriR.of (tri_of Tryd.func83 rfl Tryd.ntmps83 rfl fun j => ?_))
  have hsz : (s.extract f e).size = e - f := by rw [ByteArray.size_extract]; omega
  have hnl : (nums (s.extract f e)).length = e - f := by rw [nums_len, hsz]
  have hemp : (s.extract f e ≠ ⟨#[]⟩) ↔ f < e := by
    constructor
    · intro h
      rcases Nat.lt_or_ge f e with g | g
      · exact g
      · exact absurd (byteArray_ext_bt (q := ⟨#[]⟩) (by rw [hsz]; show e - f = 0; omega) fun i hi => by rw [hsz] at hi; omega) h
    · intro h q
      have := congrArg ByteArray.size q
      rw [hsz] at this
      have e0 : (ByteArray.mk #[]).size = 0 := rfl
      omega
  repeat' (first | (with_reducible first | refine aw_seq ?_ | refine rl_nil ?_ | refine aw_region ?_ | refine then_n ?_ | refine aw_block ?_ | refine then_exit ?_ | refine then_ret ?_ | refine in_n ?_ | refine in_ret ?_ | refine aw_exit ?_ | refine aw_ret ?_ | refine aw_skip ?_ | refine in_exit_eq rfl ?_ | refine awr_succ ?_) | ((with_reducible refine k_move ?_); refine rl_pure (pv_move rfl) rfl rfl rfl ?_) | ((with_reducible refine k_assign ?_); refine rl_pure (pv_assign rfl) rfl rfl rfl ?_) | ((with_reducible refine k_len ?_); refine rl_pure (pv_len_ro' (by rfl) by_len) rfl rfl rfl ?_) | ((with_reducible refine k_convert ?_); refine rl_op rfl (op_convert_str (by rfl) (by first | assumption | (simp only [maxLen]; omega)) rfl ?_)))
  refine aw_iter (α := Nat × Int) (fun q => [(0, str (s.extract f e)), (1, int base), (6, int q.2), (10, .ro ((nums (s.extract f e)).map br)), (11, int ((nums (s.extract f e)).length : Nat)), (12, int q.1)]) (fun _ => [])
    (fun q => q.1 ≤ e - f ∧ (0 ≤ q.2 ∧ q.2 ≤ 281474976710655) ∧ val base s f e = satv base s e (f + q.1) q.2) (fun q => e - f - q.1)
    (0, 0) ⟨by omega, by omega, rfl⟩ (by (repeat (first | exact sub_nil | refine sub_cons (by first | rfl | (simp; done)) ?_))) .nil fun q hI => ?_
  obtain ⟨i, n⟩ := q
  dsimp only at hI ⊢
  obtain ⟨hi, hn, hV⟩ := hI
  by_cases hlt : i < e - f
  · have hrow : ((nums (s.extract f e)).map br)[(i : Int).toNat]? = some [byte (bt s (f + i : Nat))] := by
      rw [Int.toNat_natCast, List.getElem?_map]
      have h2 : i < (s.extract f e).size := by omega
      have : (nums (s.extract f e))[i]? = some (bt (s.extract f e) i) := by
        unfold nums
        have hi2 : i < (s.extract f e).data.toList.length := by rw [Array.length_toList]; exact h2
        rw [List.getElem?_map, List.getElem?_eq_getElem hi2]
        unfold bt
        rw [Int.toNat_natCast, List.getD_eq_getElem?_getD, List.getElem?_eq_getElem hi2]
        rfl
      rw [this, bt_extract (by omega)]
      rfl
    have hr := bt_range s (f + i : Nat)
    have g1 := digitOf82 (bt s (f + i : Nat)) hr.1 hr.2
    have hd := dgo_range (bt s (f + i : Nat))
    have hm1 : 0 ≤ n * base := Int.mul_nonneg hn.1 (by omega)
    have hm2 : n * base ≤ 281474976710655 * 16 := Int.mul_le_mul hn.2 hb2 (by omega) (by omega)
    have hgo := satv_go (base := base) (s := s) (n := n) (show f + i < e by omega)
    rw [Int.mul_comm] at hgo
    repeat' (first | (with_reducible first | refine aw_seq ?_ | refine rl_nil ?_ | refine aw_region ?_ | refine then_n ?_ | refine aw_block ?_ | refine then_exit ?_ | refine then_ret ?_ | refine in_n ?_ | refine in_ret ?_ | refine aw_exit ?_ | refine aw_ret ?_ | refine aw_skip ?_ | refine in_exit_eq rfl ?_ | refine awr_succ ?_) | ((with_reducible refine k_move ?_); refine rl_pure (pv_move rfl) rfl rfl rfl ?_) | ((with_reducible refine k_assign ?_); refine rl_pure (pv_assign rfl) rfl rfl rfl ?_) | ((with_reducible refine k_load ?_); refine rl_val (vv_load_ro (by rfl) (by rfl) by_bd) rfl rfl rfl ?_) | ((with_reducible refine k_lss ?_); refine rl_pure (pv_lss rfl rfl) rfl rfl rfl ?_) | ((with_reducible refine k_gtr ?_); refine rl_pure (pv_gtr rfl rfl) rfl rfl rfl ?_) | ((with_reducible refine k_add ?_); refine rl_pure (pv_add_in rfl rfl (by omega)) rfl rfl rfl ?_) | ((with_reducible refine k_mul ?_); refine rl_pure (pv_mul_in rfl rfl (by omega)) rfl rfl rfl ?_) | ((with_reducible refine k_indexAddr ?_); refine rl_pure (pv_indexAddr_ro (by rfl) rfl (by omega) (by first | rfl | assumption) (by first | rfl)) rfl rfl rfl ?_) | ((with_reducible refine k_callv ?_); refine rl_op rfl (op_callF rfl rfl (g1) rfl ?_)) | (((with_reducible refine k_cond ?_); refine aw_cond rfl ?_ ?_) <;> ((fail_if_success (refine imp_known (by assumption) ?_)); (intro hb <;> (have hc := hb) <;> (try simp only [decide_eq_true_eq, decide_eq_false_iff_not, Int.not_lt, Int.not_le, ne_eq, Bool.not_eq_true, Bool.not_eq_false, Decidable.not_not] at hc) <;> (try (exfalso; omega)) <;> (try (exfalso; simp only [Bool.not_eq_eq_eq_not, Bool.not_true, Bool.not_false, decide_eq_true_eq, decide_eq_false_iff_not, ne_eq, Decidable.not_not, Int.not_lt, Int.not_le] at hc; omega)) <;> (try (first | contradiction | (cases hc; done))) <;> (try (first | exact absurd (hb.symm.trans (by assumption) : true = false) (by decide) | exact absurd (hb.symm.trans (by assumption) : false = true) (by decide)))))))
    · (first | refine ret_r (ret2 rfl by_res by_res (List.nil_sublist _) ⟨_, rfl, ?_⟩) | refine ret_n (ret2 rfl by_res by_res (List.nil_sublist _) ⟨_, rfl, ?_⟩))
      have hbig : val base s f e = 281474976710656 := by rw [hV, hgo, show min (n * base + dgo (bt s (f + i : Nat))) 281474976710656 = 281474976710656 by omega, satv_big hba _ _ (Nat.le_refl _)]
      unfold valN
      rw [hbig, if_neg (by decide), decide_eq_false (p := f < e ∧ (281474976710656 : Int) ≤ 281474976710655) (by omega)]
      exact ⟨rfl, rfl⟩
    · exact next_of (R := []) (i + 1, n * base + dgo (bt s (f + i : Nat))) ⟨by dsimp only; omega, by dsimp only; omega, by
        dsimp only
        rw [hV, hgo, show min (n * base + dgo (bt s (f + i : Nat))) 281474976710656 = n * base + dgo (bt s (f + i : Nat)) by omega]
        rfl⟩ (by dsimp only; omega) (by (repeat (first | exact sub_nil | refine sub_cons (by first | rfl | (simp; done)) ?_))) .nil
  · obtain rfl : i = e - f := by omega
    repeat' (first | (with_reducible first | refine aw_seq ?_ | refine rl_nil ?_ | refine aw_region ?_ | refine then_n ?_ | refine aw_block ?_ | refine then_exit ?_ | refine then_ret ?_ | refine in_n ?_ | refine in_ret ?_ | refine aw_exit ?_ | refine aw_ret ?_ | refine aw_skip ?_ | refine in_exit_eq rfl ?_ | refine awr_succ ?_) | ((with_reducible refine k_move ?_); refine rl_pure (pv_move rfl) rfl rfl rfl ?_) | ((with_reducible refine k_assign ?_); refine rl_pure (pv_assign rfl) rfl rfl rfl ?_) | ((with_reducible refine k_neq ?_); refine rl_pure (pv_str_neq rfl rfl) rfl rfl rfl ?_) | ((with_reducible refine k_lss ?_); refine rl_pure (pv_lss rfl rfl) rfl rfl rfl ?_) | (((with_reducible refine k_cond ?_); refine aw_cond rfl ?_ ?_) <;> ((fail_if_success (refine imp_known (by assumption) ?_)); (intro hb <;> (have hc := hb) <;> (try simp only [decide_eq_true_eq, decide_eq_false_iff_not, Int.not_lt, Int.not_le, ne_eq, Bool.not_eq_true, Bool.not_eq_false, Decidable.not_not] at hc) <;> (try (exfalso; omega)) <;> (try (exfalso; simp only [Bool.not_eq_eq_eq_not, Bool.not_true, Bool.not_false, decide_eq_true_eq, decide_eq_false_iff_not, ne_eq, Decidable.not_not, Int.not_lt, Int.not_le] at hc; omega)) <;> (try (first | contradiction | (cases hc; done))) <;> (try (first | exact absurd (hb.symm.trans (by assumption) : true = false) (by decide) | exact absurd (hb.symm.trans (by assumption) : false = true) (by decide)))))))
    (first | refine ret_r (ret2 rfl by_res by_res (List.nil_sublist _) ⟨_, rfl, ?_⟩) | refine ret_n (ret2 rfl by_res by_res (List.nil_sublist _) ⟨_, rfl, ?_⟩))
    have hv : val base s f e = n := by rw [hV, satv_end (by omega)]
    unfold valN
    rw [hv, if_pos hn.2]
    refine ⟨congrArg (fun b => V.tup [int n, bool b]) ?_, rfl⟩
    rw [Bool.eq_iff_iff, decide_eq_true_eq, decide_eq_true_eq, hemp]
    omega
end Go.Proofs.YtbhbjlhobdoomaaDoor
