import Derived.Test.YtbhbjlhobdoomaaDoorK7
set_option linter.unusedVariables false
set_option linter.unusedSimpArgs false
namespace Go.Proofs.YtbhbjlhobdoomaaDoor
open Go Go.AX
set_option maxHeartbeats 4000000
set_option maxRecDepth 20000
attribute [local irreducible] AW RL OP PureV ValV HV DL Tri TriR Fun RetOk ResV
theorem dg_fun : (fun b : Int => decide (cls b = 3)) = fun b => decide (isDg b) := by
  funext b
  rw [Bool.eq_iff_iff, decide_eq_true_eq, decide_eq_true_eq, cls3]
abbrev runD (s : ByteArray) (k : Nat) : Nat := run (fun b => decide (isDg b)) s k
theorem runA_dg (s : ByteArray) (k : Nat) : runA 3 s k = runD s k := by
  show run _ s k = run _ s k
  rw [dg_fun]
abbrev runX (s : ByteArray) (k : Nat) : Nat := run (fun b => decide (dgo b < 16)) s k
theorem runD_ge (s : ByteArray) (k : Nat) : k ≤ runD s k ∧ (k ≤ s.size → runD s k ≤ s.size) := run_ge (c := fun b => decide (isDg b)) _ k (Nat.le_refl _)
/-- The parts of a number. -/
def parts (s : ByteArray) (k : Nat) : List (Nat × Nat) :=
  if h : ba s (runD s k) = 46 ∧ isDg (ba s (runD s k + 1)) then (k, runD s k) :: parts s (runD s k + 1) else [(k, runD s k)]
termination_by s.size - k
decreasing_by
  have h1 := (runD_ge s k).1
  have h2 := ba_lt (s := s) (k := runD s k) (by omega)
  omega
theorem parts_more {s : ByteArray} {k : Nat} (h : ba s (runD s k) = 46 ∧ isDg (ba s (runD s k + 1))) : parts s k = (k, runD s k) :: parts s (runD s k + 1) := by
  conv => lhs; unfold parts
  rw [dif_pos h]
theorem parts_last {s : ByteArray} {k : Nat} (h : ¬ (ba s (runD s k) = 46 ∧ isDg (ba s (runD s k + 1)))) : parts s k = [(k, runD s k)] := by
  unfold parts
  rw [dif_neg h]
def pEnd : List (Nat × Nat) → Nat
  | [] => 0
  | [p] => p.2
  | _ :: p :: l => pEnd (p :: l)
def pv (s : ByteArray) (q : Nat × Nat) : Int := val 10 s q.1 q.2
def okP (s : ByteArray) : List (Nat × Nat) → Bool
  | [q] => decide (pv s q ≤ 281474976710655)
  | l => decide (l.length = 4) && l.all fun q => decide (pv s q ≤ 255)
def numP (s : ByteArray) : List (Nat × Nat) → Int
  | [q] => pv s q
  | l => l.foldl (fun n q => 256 * n + pv s q) 0
/-- The number at a place, its end, and whether it is one. -/
def numN (s : ByteArray) (k : Nat) : Int := if ba s k = 48 ∧ ba s (k + 1) = 120 then val 16 s (k + 2) (runX s (k + 2)) else numP s (parts s k)
def numE (s : ByteArray) (k : Nat) : Nat := if ba s k = 48 ∧ ba s (k + 1) = 120 then runX s (k + 2) else pEnd (parts s k)
def numO (s : ByteArray) (k : Nat) : Bool := if ba s k = 48 ∧ ba s (k + 1) = 120 then decide (k + 2 < runX s (k + 2) ∧ val 16 s (k + 2) (runX s (k + 2)) ≤ 281474976710655) else okP s (parts s k)
theorem parts_bound {s : ByteArray} : ∀ (n k : Nat), s.size - k ≤ n → k ≤ s.size → ∀ q ∈ parts s k, k ≤ q.1 ∧ q.1 ≤ q.2 ∧ q.2 ≤ s.size
  | n, k, hn, hk, q, hq => by
    have h1 := runD_ge s k
    by_cases h : ba s (runD s k) = 46 ∧ isDg (ba s (runD s k + 1))
    · rw [parts_more h] at hq
      have h2 := ba_lt (s := s) (k := runD s k) (by omega)
      rcases List.mem_cons.1 hq with rfl | hq
      · exact ⟨Nat.le_refl _, h1.1, h1.2 hk⟩
      · cases n with
        | zero => omega
        | succ n =>
          have := parts_bound n (runD s k + 1) (by omega) (by omega) q hq
          omega
    · rw [parts_last h] at hq
      obtain rfl := List.mem_singleton.1 hq
      exact ⟨Nat.le_refl _, h1.1, h1.2 hk⟩
theorem parts_ne (s : ByteArray) (k : Nat) : parts s k ≠ [] := by
  unfold parts
  split <;> simp
theorem number66x (p : Nat) (s : ByteArray) (hs : s.size ≤ 100000) (R : List V) (hR : Cls R) (k : Nat) (hk : k < s.size) (hx : ba s k = 48 ∧ ba s (k + 1) = 120) :
    TriR Tryd.prog 66 [ptr p] [sc p s k R] fun v H' => (∃ n, v = .tup [tokC 1 n 0 ⟨#[]⟩, bool (numO s k)] ∧ (numO s k = true → n = numN s k)) ∧ H' = [sc p s (numE s k) R] := by
  refine TriR.of (tri_of Tryd.func66 rfl Tryd.ntmps66 rfl fun j => ?_)
  have g1 := hasPrefix63 (s.extract k s.size) ⟨#[48, 120]⟩
  rw [pre_at (Nat.le_of_lt hk), at_hex, decide_eq_true hx] at g1
  have hl := ba_lt (s := s) (k := k + 1) (by omega)
  repeat' (first | (with_reducible first | refine aw_seq ?_ | refine rl_nil ?_ | refine aw_region ?_ | refine then_n ?_ | refine aw_block ?_ | refine then_exit ?_ | refine then_ret ?_ | refine in_n ?_ | refine in_ret ?_ | refine aw_exit ?_ | refine aw_ret ?_ | refine aw_skip ?_ | refine in_exit_eq rfl ?_ | refine awr_succ ?_) | ((with_reducible refine k_move ?_); refine rl_pure (pv_move rfl) rfl rfl rfl ?_) | ((with_reducible refine k_assign ?_); refine rl_pure (pv_assign rfl) rfl rfl rfl ?_) | ((with_reducible refine k_load ?_); refine rl_val (vv_load_box (by rfl) by_memb (by rfl) by_bd) rfl rfl rfl ?_) | ((with_reducible refine k_fieldAddr ?_); refine rl_pure (pv_fieldAddr rfl) rfl rfl rfl ?_) | ((with_reducible refine k_store ?_); refine rl_op rfl (op_store_box (by rfl) (by rfl) (V.okc_or (by rfl)) by_upd (by rfl) (by first | exact Nat.le_of_ble_eq_true rfl | assumption) ?_)) | ((with_reducible refine k_alloc ?_); refine rl_op rfl (op_alloc (by decide) rfl fun b => ?_)) | ((with_reducible refine k_add ?_); refine rl_pure (pv_add_in rfl rfl (by omega)) rfl rfl rfl ?_) | ((with_reducible refine k_nilCheck ?_); refine rl_pure (pv_nilCheck rfl) rfl rfl rfl ?_) | ((with_reducible refine k_cond ?_); refine aw_cond_t rfl ?_) | (with_reducible refine dl_nil by_app ?_) | ((with_reducible refine kd_move ?_); refine dl_pure (by assumption) (pv_move rfl) by_wants rfl rfl ?_) | ((with_reducible refine kd_fieldAddr ?_); refine dl_pure (by assumption) (pv_fieldAddr rfl) by_wants rfl rfl ?_) | ((with_reducible refine kd_nilCheck ?_); refine dl_pure (by assumption) (pv_nilCheck rfl) by_wants rfl rfl ?_) | ((with_reducible refine kd_slice ?_); refine dl_pure (by assumption) (pv_slice_str (by rfl) rfl rfl by_bound) by_wants rfl rfl ?_) | ((with_reducible refine kd_load ?_); refine dl_take (by assumption) (hv_load_box (by assumption) (by rfl) by_mem0 (by rfl) by_bd) by_wants rfl rfl ?_) | (refine aw_draw (id := 1) [(false, 0), (false, 1), (false, 2), (false, 3), (false, 4), (false, 5), (false, 6), (false, 7), (false, 8), (true, 9)] [] (by kernel_rfl) (by decide +kernel) (by decide) by_lit .nil by_nos fun jd hjd => ?_) | ((with_reducible refine kd_callv ?_); (refine dl_op (by assumption) by_wants (op_callF rfl rfl (g1) rfl ?_); intro jd hjd)))
  refine aw_iter (α := Nat) (fun i => [(0, ptr p), (2, ptr b), (4, int ((k : Int) + 2))]) (fun i => [.box b 33 [int 0, int 0, int 0, str ⟨#[]⟩], sc p s i R])
    (fun i => (k + 2 ≤ i ∧ i ≤ s.size) ∧ runX s (k + 2) = runX s i) (fun i => s.size - i)
    (k + 2) ⟨⟨by omega, by omega⟩, rfl⟩ (by (repeat (first | exact sub_nil | refine sub_cons (by first | rfl | (simp; done)) ?_))) (.cons .here (.cons .here .nil)) fun i hI => ?_
  obtain ⟨⟨hki, hi⟩, hE⟩ := hI
  have hr := bt_range s i
  have g2 := digitOf82 (bt s i) hr.1 hr.2
  have g3 : Fun Tryd.prog 83 [str (s.extract (k + 2) i), int 16] _ := valued83 s hs (k + 2) i hki hi 16 (by decide) (by decide)
  repeat' (first | (with_reducible first | refine aw_seq ?_ | refine rl_nil ?_ | refine aw_region ?_ | refine then_n ?_ | refine aw_block ?_ | refine then_exit ?_ | refine then_ret ?_ | refine in_n ?_ | refine in_ret ?_ | refine aw_exit ?_ | refine aw_ret ?_ | refine aw_skip ?_ | refine in_exit_eq rfl ?_ | refine awr_succ ?_) | ((with_reducible refine k_move ?_); refine rl_pure (pv_move rfl) rfl rfl rfl ?_) | ((with_reducible refine k_assign ?_); refine rl_pure (pv_assign rfl) rfl rfl rfl ?_) | ((with_reducible refine k_load ?_); refine rl_val (vv_load_box (by rfl) by_memb (by rfl) by_bd) rfl rfl rfl ?_) | ((with_reducible refine k_fieldAddr ?_); refine rl_pure (pv_fieldAddr rfl) rfl rfl rfl ?_) | ((with_reducible refine k_store ?_); (first | refine rl_op rfl (op_store_box_whole (by rfl) (by rfl) (V.okc_or (by rfl)) by_upd (by first | rfl) (by first | rfl) ?_) | refine rl_op rfl (op_store_box (by rfl) (by rfl) (V.okc_or (by rfl)) by_upd (by rfl) (by first | exact Nat.le_of_ble_eq_true rfl | assumption) ?_))) | ((with_reducible refine k_add ?_); refine rl_pure (pv_add_in rfl rfl (by omega)) rfl rfl rfl ?_) | ((with_reducible refine k_nilCheck ?_); refine rl_pure (pv_nilCheck rfl) rfl rfl rfl ?_) | ((with_reducible refine k_build ?_); refine rl_pure (pv_build rfl by_fill) rfl rfl rfl ?_) | ((with_reducible refine k_cond ?_); refine aw_cond_f rfl ?_) | (with_reducible refine dl_nil by_app ?_) | ((with_reducible refine kd_guard ?_); (first | refine dl_off rfl rfl rfl rfl by_bd rfl rfl ?_ | refine dl_off_eff rfl rfl rfl rfl by_bd rfl rfl ?_)) | ((with_reducible refine kd_move ?_); refine dl_pure (by assumption) (pv_move rfl) by_wants rfl rfl ?_) | ((with_reducible refine kd_assign ?_); refine dl_pure (by assumption) (pv_assign rfl) by_wants rfl rfl ?_) | ((with_reducible refine kd_fieldAddr ?_); refine dl_pure (by assumption) (pv_fieldAddr rfl) by_wants rfl rfl ?_) | ((with_reducible refine kd_lss ?_); refine dl_pure (by assumption) (pv_lss rfl rfl) by_wants rfl rfl ?_) | ((with_reducible refine kd_index ?_); refine dl_pure (by assumption) (pv_index_str rfl rfl by_bound) by_wants rfl rfl ?_) | ((with_reducible refine kd_extract ?_); refine dl_pure (by assumption) (pv_extract rfl rfl) by_wants rfl rfl ?_) | ((with_reducible refine kd_len ?_); refine dl_pure (by assumption) (pv_len_str rfl) by_wants rfl rfl ?_) | ((with_reducible refine kd_nilCheck ?_); refine dl_pure (by assumption) (pv_nilCheck rfl) by_wants rfl rfl ?_) | ((with_reducible refine kd_slice ?_); refine dl_pure (by assumption) (pv_slice_str (by rfl) rfl rfl by_bound) by_wants rfl rfl ?_) | ((with_reducible refine kd_pick ?_); (first | refine dl_pure (by assumption) (pv_pick_t rfl by_bd rfl) by_wants rfl rfl ?_ | refine dl_pure (by assumption) (pv_pick_f rfl by_bd rfl) by_wants rfl rfl ?_)) | ((with_reducible refine kd_load ?_); refine dl_take (by assumption) (hv_load_box (by assumption) (by rfl) by_mem0 (by rfl) by_bd) by_wants rfl rfl ?_) | (refine aw_draw (id := 4) [(false, 0), (false, 1), (false, 2), (false, 3), (false, 4), (false, 5), (false, 6), (false, 7), (false, 8), (false, 9), (false, 10), (false, 11), (false, 12), (false, 13), (false, 14), (false, 15), (false, 16), (false, 17), (false, 18), (false, 19), (true, 20), (false, 21), (false, 22)] [] (by kernel_rfl) (by decide +kernel) (by decide) by_lit .nil by_nos fun jd hjd => ?_) | (refine aw_draw (id := 6) [(false, 0), (false, 1), (false, 2), (false, 3), (false, 4), (false, 5), (false, 6), (false, 7), (false, 8), (false, 9), (true, 10), (false, 11), (false, 12), (false, 13), (false, 14), (false, 15)] [] (by kernel_rfl) (by decide +kernel) (by decide) by_lit .nil by_nos fun jd hjd => ?_) | ((with_reducible refine kd_callv ?_); (first | (refine dl_op (by assumption) by_wants (op_callF rfl rfl (g2) rfl ?_); intro jd hjd) | (refine dl_op (by assumption) by_wants (op_callF rfl rfl (g3) rfl ?_); intro jd hjd))) | (((with_reducible refine k_cond ?_); refine aw_cond rfl ?_ ?_) <;> ((fail_if_success (refine imp_known (by assumption) ?_)); (intro hb <;> (have hc := hb) <;> (try simp only [decide_eq_true_eq, decide_eq_false_iff_not, Int.not_lt, Int.not_le, ne_eq, Bool.not_eq_true, Bool.not_eq_false, Decidable.not_not] at hc) <;> (try (exfalso; omega)) <;> (try (exfalso; simp only [Bool.not_eq_eq_eq_not, Bool.not_true, Bool.not_false, decide_eq_true_eq, decide_eq_false_iff_not, ne_eq, Decidable.not_not, Int.not_lt, Int.not_le] at hc; omega)) <;> (try (first | contradiction | (cases hc; done))) <;> (try (first | exact absurd (hb.symm.trans (by assumption) : true = false) (by decide) | exact absurd (hb.symm.trans (by assumption) : false = true) (by decide)))))) | (((with_reducible refine kd_guard ?_); refine dl_if rfl rfl rfl ?_ ?_) <;> ((fail_if_success (refine imp_known (by assumption) ?_)); (intro hb <;> (have hc := hb) <;> (try simp only [decide_eq_true_eq, decide_eq_false_iff_not, Int.not_lt, Int.not_le, ne_eq, Bool.not_eq_true, Bool.not_eq_false, Decidable.not_not] at hc) <;> (try (exfalso; omega)) <;> (try (exfalso; simp only [Bool.not_eq_eq_eq_not, Bool.not_true, Bool.not_false, decide_eq_true_eq, decide_eq_false_iff_not, ne_eq, Decidable.not_not, Int.not_lt, Int.not_le] at hc; omega)) <;> (try (first | contradiction | (cases hc; done))) <;> (try (first | exact absurd (hb.symm.trans (by assumption) : true = false) (by decide) | exact absurd (hb.symm.trans (by assumption) : false = true) (by decide)))))))
  · exact next_of (R := []) (i + 1) ⟨⟨by omega, by omega⟩, hE.trans (run_go (by omega) (decide_eq_true hc))⟩ (by omega) (by (repeat (first | exact sub_nil | refine sub_cons (by first | rfl | (simp; done)) ?_))) (.cons .here (.cons .here .nil))
  all_goals
    have hX : runX s (k + 2) = i := hE.trans (run_no (fun q => by have := of_decide_eq_true q.2; omega))
    (first | refine ret_r (ret2 rfl by_res by_res (List.Sublist.cons _ (List.Sublist.cons_cons _ List.Sublist.slnil)) ⟨_, rfl, ?_⟩) | refine ret_n (ret2 rfl by_res by_res (List.Sublist.cons _ (List.Sublist.cons_cons _ List.Sublist.slnil)) ⟨_, rfl, ?_⟩))
    unfold numO numE numN
    rw [if_pos hx, if_pos hx, if_pos hx, hX]
    exact ⟨⟨_, rfl, fun h => by unfold valN; rw [if_pos (of_decide_eq_true h).2]⟩, rfl⟩
end Go.Proofs.YtbhbjlhobdoomaaDoor
