import Derived.Test.YtafpjnkfbfkjcaaGreatDoorKTy
set_option linter.unusedVariables false
set_option linter.unusedSimpArgs false
namespace Go.Proofs.YtafpjnkfbfkjcaaGreatDoor
open Go Go.AX
attribute [local irreducible] AW RL OP PureV ValV HV DL Tri TriR Fun RetOk ResV
abbrev str (s : ByteArray) : V := .raw (.string s)
abbrev int (n : Int) : V := .raw (.int .i64 n)
abbrev bool (b : Bool) : V := .raw (.bool b)
def bs (l : List UInt8) : ByteArray := ⟨l.toArray⟩
/-- why a dissection failed -/
def whyOf (n : Int) : ByteArray :=
  if n = 1 then bs [115, 104, 111, 114, 116] else if n = 2 then bs [122, 101, 114, 111] else if n = 3 then bs [114, 97, 110, 103, 101]
  else if n = 4 then bs [115, 116, 117, 99, 107] else if n = 5 then bs [100, 101, 101, 112] else if n = 6 then bs [102, 117, 108, 108] else bs [111, 100, 100]
theorem whyOf_odd (n : Int) (h : n < 1 ∨ 6 < n) : whyOf n = bs [111, 100, 100] := by unfold whyOf; repeat (rw [if_neg (by omega)])
theorem reason_fun (n : Int) : Fun Tryz.prog 154 [int n] (str (whyOf n)) := by
  refine Fun.of (TriR.of (tri_of Tryz.func154 rfl Tryz.ntmps154 rfl fun j => ?_))
  repeat' (first | (with_reducible first | refine aw_seq ?_ | refine rl_nil ?_ | refine aw_region ?_ | refine then_n ?_ | refine aw_block ?_ | refine then_exit ?_ | refine then_ret ?_ | refine in_n ?_ | refine in_ret ?_ | refine aw_exit ?_ | refine aw_ret ?_ | refine aw_skip ?_ | refine in_exit_eq rfl ?_ | refine awr_succ ?_) | ((with_reducible refine k_move ?_); refine rl_pure (pv_move rfl) rfl rfl rfl ?_) | ((with_reducible refine k_assign ?_); refine rl_pure (pv_assign rfl) rfl rfl rfl ?_) | ((with_reducible refine k_lss ?_); refine rl_pure (pv_lss rfl rfl) rfl rfl rfl ?_) | ((with_reducible refine k_gtr ?_); refine rl_pure (pv_gtr rfl rfl) rfl rfl rfl ?_) | ((with_reducible refine k_sub ?_); refine rl_pure (pv_sub_in rfl rfl (by omega)) rfl rfl rfl ?_) | ((with_reducible refine k_len ?_); refine rl_pure (pv_len_ro' (by rfl) by_len) rfl rfl rfl ?_) | ((with_reducible refine k_buildSlice ?_); refine rl_op rfl (op_buildSlice_ro rfl rfl rfl (by rfl) (by rfl) (by rfl) (by rfl) rfl by_rows ?_)) | ((with_reducible refine k_pick ?_); (first | refine rl_pure (pv_pick_t rfl by_bd rfl) rfl rfl rfl ?_ | refine rl_pure (pv_pick_f rfl by_bd rfl) rfl rfl rfl ?_)) | ((with_reducible refine k_guard ?_); (first | refine rl_on_yes rfl rfl rfl by_bd rfl ?_ | refine rl_off_f rfl rfl rfl by_bd rfl ?_)) | ((with_reducible refine k_cond ?_); refine aw_cond_t rfl ?_) | (((with_reducible refine k_guard ?_); first | refine rl_if_t rfl rfl rfl rfl ?_ ?_ | refine rl_if_f rfl rfl rfl rfl ?_ ?_) <;> ((fail_if_success (refine imp_known (by assumption) ?_)); (intro hb <;> (have hc := hb) <;> (try simp only [decide_eq_true_eq, decide_eq_false_iff_not, Int.not_lt, Int.not_le, ne_eq, Bool.not_eq_true, Bool.not_eq_false, Decidable.not_not] at hc) <;> (try (exfalso; omega)) <;> (try (exfalso; simp only [Bool.not_eq_eq_eq_not, Bool.not_true, Bool.not_false, decide_eq_true_eq, decide_eq_false_iff_not, ne_eq, Decidable.not_not, Int.not_lt, Int.not_le] at hc; omega)) <;> (try (first | contradiction | (cases hc; done))) <;> (try (first | exact absurd (hb.symm.trans (by assumption) : true = false) (by decide) | exact absurd (hb.symm.trans (by assumption) : false = true) (by decide)))))) | (((with_reducible refine k_cond ?_); refine aw_cond rfl ?_ ?_) <;> ((fail_if_success (refine imp_known (by assumption) ?_)); (intro hb <;> (have hc := hb) <;> (try simp only [decide_eq_true_eq, decide_eq_false_iff_not, Int.not_lt, Int.not_le, ne_eq, Bool.not_eq_true, Bool.not_eq_false, Decidable.not_not] at hc) <;> (try (exfalso; omega)) <;> (try (exfalso; simp only [Bool.not_eq_eq_eq_not, Bool.not_true, Bool.not_false, decide_eq_true_eq, decide_eq_false_iff_not, ne_eq, Decidable.not_not, Int.not_lt, Int.not_le] at hc; omega)) <;> (try (first | contradiction | (cases hc; done))) <;> (try (first | exact absurd (hb.symm.trans (by assumption) : true = false) (by decide) | exact absurd (hb.symm.trans (by assumption) : false = true) (by decide)))))))
  · (first | refine ret_r (ret1 rfl by_res (List.nil_sublist _) ⟨_, rfl, ?_⟩) | refine ret_n (ret1 rfl by_res (List.nil_sublist _) ⟨_, rfl, ?_⟩))
    exact ⟨by rw [whyOf_odd n (by omega)]; rfl, rfl⟩
  · obtain rfl | rfl | rfl | rfl | rfl | rfl : n = 1 ∨ n = 2 ∨ n = 3 ∨ n = 4 ∨ n = 5 ∨ n = 6 := by omega
    all_goals
      repeat' (first | (with_reducible first | refine aw_seq ?_ | refine rl_nil ?_ | refine aw_region ?_ | refine then_n ?_ | refine aw_block ?_ | refine then_exit ?_ | refine then_ret ?_ | refine in_n ?_ | refine in_ret ?_ | refine aw_exit ?_ | refine aw_ret ?_ | refine aw_skip ?_ | refine in_exit_eq rfl ?_ | refine awr_succ ?_) | ((with_reducible refine k_assign ?_); refine rl_pure (pv_assign rfl) rfl rfl rfl ?_) | ((with_reducible refine k_load ?_); refine rl_val (vv_load_ro (by rfl) (by rfl) by_bd) rfl rfl rfl ?_) | ((with_reducible refine k_indexAddr ?_); refine rl_pure (pv_indexAddr_ro (by rfl) rfl (by omega) (by first | rfl | assumption) (by first | rfl)) rfl rfl rfl ?_))
      (first | refine ret_r (ret1 rfl by_res (List.nil_sublist _) ⟨_, rfl, ?_⟩) | refine ret_n (ret1 rfl by_res (List.nil_sublist _) ⟨_, rfl, ?_⟩))
      exact ⟨rfl, rfl⟩
  · (first | refine ret_r (ret1 rfl by_res (List.nil_sublist _) ⟨_, rfl, ?_⟩) | refine ret_n (ret1 rfl by_res (List.nil_sublist _) ⟨_, rfl, ?_⟩))
    exact ⟨by rw [whyOf_odd n (by omega)]; rfl, rfl⟩
theorem why_fun (n : Int) : Fun Tryz.prog 173 [int n] (str (whyOf n)) := by
  refine Fun.of (TriR.of (tri_of Tryz.func173 rfl Tryz.ntmps173 rfl fun j => ?_))
  repeat' (first | (with_reducible first | refine aw_seq ?_ | refine rl_nil ?_ | refine aw_region ?_ | refine then_n ?_ | refine aw_block ?_ | refine then_exit ?_ | refine then_ret ?_ | refine in_n ?_ | refine in_ret ?_ | refine aw_exit ?_ | refine aw_ret ?_ | refine aw_skip ?_ | refine in_exit_eq rfl ?_ | refine awr_succ ?_) | ((with_reducible refine k_move ?_); refine rl_pure (pv_move rfl) rfl rfl rfl ?_) | ((with_reducible refine k_assign ?_); refine rl_pure (pv_assign rfl) rfl rfl rfl ?_) | ((with_reducible refine k_lss ?_); refine rl_pure (pv_lss rfl rfl) rfl rfl rfl ?_) | ((with_reducible refine k_gtr ?_); refine rl_pure (pv_gtr rfl rfl) rfl rfl rfl ?_) | ((with_reducible refine k_sub ?_); refine rl_pure (pv_sub_in rfl rfl (by omega)) rfl rfl rfl ?_) | ((with_reducible refine k_len ?_); refine rl_pure (pv_len_ro' (by rfl) by_len) rfl rfl rfl ?_) | ((with_reducible refine k_buildSlice ?_); refine rl_op rfl (op_buildSlice_ro rfl rfl rfl (by rfl) (by rfl) (by rfl) (by rfl) rfl by_rows ?_)) | ((with_reducible refine k_pick ?_); (first | refine rl_pure (pv_pick_t rfl by_bd rfl) rfl rfl rfl ?_ | refine rl_pure (pv_pick_f rfl by_bd rfl) rfl rfl rfl ?_)) | ((with_reducible refine k_guard ?_); (first | refine rl_on_yes rfl rfl rfl by_bd rfl ?_ | refine rl_off_f rfl rfl rfl by_bd rfl ?_)) | ((with_reducible refine k_cond ?_); refine aw_cond_t rfl ?_) | (((with_reducible refine k_guard ?_); first | refine rl_if_t rfl rfl rfl rfl ?_ ?_ | refine rl_if_f rfl rfl rfl rfl ?_ ?_) <;> ((fail_if_success (refine imp_known (by assumption) ?_)); (intro hb <;> (have hc := hb) <;> (try simp only [decide_eq_true_eq, decide_eq_false_iff_not, Int.not_lt, Int.not_le, ne_eq, Bool.not_eq_true, Bool.not_eq_false, Decidable.not_not] at hc) <;> (try (exfalso; omega)) <;> (try (exfalso; simp only [Bool.not_eq_eq_eq_not, Bool.not_true, Bool.not_false, decide_eq_true_eq, decide_eq_false_iff_not, ne_eq, Decidable.not_not, Int.not_lt, Int.not_le] at hc; omega)) <;> (try (first | contradiction | (cases hc; done))) <;> (try (first | exact absurd (hb.symm.trans (by assumption) : true = false) (by decide) | exact absurd (hb.symm.trans (by assumption) : false = true) (by decide)))))) | (((with_reducible refine k_cond ?_); refine aw_cond rfl ?_ ?_) <;> ((fail_if_success (refine imp_known (by assumption) ?_)); (intro hb <;> (have hc := hb) <;> (try simp only [decide_eq_true_eq, decide_eq_false_iff_not, Int.not_lt, Int.not_le, ne_eq, Bool.not_eq_true, Bool.not_eq_false, Decidable.not_not] at hc) <;> (try (exfalso; omega)) <;> (try (exfalso; simp only [Bool.not_eq_eq_eq_not, Bool.not_true, Bool.not_false, decide_eq_true_eq, decide_eq_false_iff_not, ne_eq, Decidable.not_not, Int.not_lt, Int.not_le] at hc; omega)) <;> (try (first | contradiction | (cases hc; done))) <;> (try (first | exact absurd (hb.symm.trans (by assumption) : true = false) (by decide) | exact absurd (hb.symm.trans (by assumption) : false = true) (by decide)))))))
  · (first | refine ret_r (ret1 rfl by_res (List.nil_sublist _) ⟨_, rfl, ?_⟩) | refine ret_n (ret1 rfl by_res (List.nil_sublist _) ⟨_, rfl, ?_⟩))
    exact ⟨by rw [whyOf_odd n (by omega)]; rfl, rfl⟩
  · obtain rfl | rfl | rfl | rfl | rfl | rfl : n = 1 ∨ n = 2 ∨ n = 3 ∨ n = 4 ∨ n = 5 ∨ n = 6 := by omega
    all_goals
      repeat' (first | (with_reducible first | refine aw_seq ?_ | refine rl_nil ?_ | refine aw_region ?_ | refine then_n ?_ | refine aw_block ?_ | refine then_exit ?_ | refine then_ret ?_ | refine in_n ?_ | refine in_ret ?_ | refine aw_exit ?_ | refine aw_ret ?_ | refine aw_skip ?_ | refine in_exit_eq rfl ?_ | refine awr_succ ?_) | ((with_reducible refine k_assign ?_); refine rl_pure (pv_assign rfl) rfl rfl rfl ?_) | ((with_reducible refine k_load ?_); refine rl_val (vv_load_ro (by rfl) (by rfl) by_bd) rfl rfl rfl ?_) | ((with_reducible refine k_indexAddr ?_); refine rl_pure (pv_indexAddr_ro (by rfl) rfl (by omega) (by first | rfl | assumption) (by first | rfl)) rfl rfl rfl ?_))
      (first | refine ret_r (ret1 rfl by_res (List.nil_sublist _) ⟨_, rfl, ?_⟩) | refine ret_n (ret1 rfl by_res (List.nil_sublist _) ⟨_, rfl, ?_⟩))
      exact ⟨rfl, rfl⟩
  · (first | refine ret_r (ret1 rfl by_res (List.nil_sublist _) ⟨_, rfl, ?_⟩) | refine ret_n (ret1 rfl by_res (List.nil_sublist _) ⟨_, rfl, ?_⟩))
    exact ⟨by rw [whyOf_odd n (by omega)]; rfl, rfl⟩
structure NoteD where
  (packet grave : Int) (group text proto : ByteArray) (at_ times : Int)
def NoteD.cells (x : NoteD) : List V := [int x.packet, int x.grave, str x.group, str x.text, str x.proto, int x.at_, int x.times]
def alike (a b : NoteD) : Bool := decide (a.packet = b.packet) && (decide (a.grave = b.grave) && (decide (a.group = b.group) && (decide (a.text = b.text) && decide (a.proto = b.proto))))
theorem isAlike_fun (a b : NoteD) : Fun Tryz.prog 79 [.agg a.cells, .agg b.cells] (bool (alike a b)) := by
  refine Fun.of (TriR.of (tri_of Tryz.func79 rfl Tryz.ntmps79 rfl fun j => ?_))
  repeat' (first | (with_reducible first | refine aw_seq ?_ | refine rl_nil ?_ | refine aw_region ?_ | refine then_n ?_ | refine aw_block ?_ | refine then_exit ?_ | refine then_ret ?_ | refine in_n ?_ | refine in_ret ?_ | refine aw_exit ?_ | refine aw_ret ?_ | refine aw_skip ?_ | refine in_exit_eq rfl ?_ | refine awr_succ ?_) | ((with_reducible refine k_move ?_); refine rl_pure (pv_move rfl) rfl rfl rfl ?_) | ((with_reducible refine k_assign ?_); refine rl_pure (pv_assign rfl) rfl rfl rfl ?_) | ((with_reducible refine k_load ?_); refine rl_val (vv_load_box (by rfl) by_memb (by rfl) by_bd) rfl rfl rfl ?_) | ((with_reducible refine k_fieldAddr ?_); refine rl_pure (pv_fieldAddr rfl) rfl rfl rfl ?_) | ((with_reducible refine k_box ?_); refine rl_op rfl (op_box rfl (V.okc_or (by rfl)) rfl fun b => ?_)) | ((with_reducible refine k_eql ?_); (first | refine rl_pure (pv_eql rfl rfl) rfl rfl rfl ?_ | refine rl_pure (pv_str_eql rfl rfl) rfl rfl rfl ?_)) | ((with_reducible refine k_pick ?_); (first | refine rl_pure (pv_pick_t rfl by_bd rfl) rfl rfl rfl ?_ | refine rl_pure (pv_pick_f rfl by_bd rfl) rfl rfl rfl ?_)) | ((with_reducible refine k_guard ?_); (first | refine rl_on_yes rfl rfl rfl by_bd rfl ?_ | refine rl_off_t rfl rfl rfl by_bd rfl ?_)) | (((with_reducible refine k_guard ?_); first | refine rl_if_t rfl rfl rfl rfl ?_ ?_ | refine rl_if_f rfl rfl rfl rfl ?_ ?_) <;> ((fail_if_success (refine imp_known (by assumption) ?_)); (intro hb <;> (have hc := hb) <;> (try simp only [decide_eq_true_eq, decide_eq_false_iff_not, Int.not_lt, Int.not_le, ne_eq, Bool.not_eq_true, Bool.not_eq_false, Decidable.not_not] at hc) <;> (try (exfalso; omega)) <;> (try (exfalso; simp only [Bool.not_eq_eq_eq_not, Bool.not_true, Bool.not_false, decide_eq_true_eq, decide_eq_false_iff_not, ne_eq, Decidable.not_not, Int.not_lt, Int.not_le] at hc; omega)) <;> (try (first | contradiction | (cases hc; done))) <;> (try (first | exact absurd (hb.symm.trans (by assumption) : true = false) (by decide) | exact absurd (hb.symm.trans (by assumption) : false = true) (by decide)))))))
  all_goals
    (first | refine ret_r (ret1 rfl by_res (List.nil_sublist _) ⟨_, rfl, ?_⟩) | refine ret_n (ret1 rfl by_res (List.nil_sublist _) ⟨_, rfl, ?_⟩))
    refine ⟨?_, rfl⟩
    simp_all [alike]
def sameD (a b : NoteD) : Bool := decide (a.grave = b.grave) && (decide (a.group = b.group) && (decide (a.text = b.text) && decide (a.proto = b.proto)))
theorem same_fun (a b : NoteD) : Fun Tryz.prog 191 [.agg a.cells, .agg b.cells] (bool (sameD a b)) := by
  refine Fun.of (TriR.of (tri_of Tryz.func191 rfl Tryz.ntmps191 rfl fun j => ?_))
  repeat' (first | (with_reducible first | refine aw_seq ?_ | refine rl_nil ?_ | refine aw_region ?_ | refine then_n ?_ | refine aw_block ?_ | refine then_exit ?_ | refine then_ret ?_ | refine in_n ?_ | refine in_ret ?_ | refine aw_exit ?_ | refine aw_ret ?_ | refine aw_skip ?_ | refine in_exit_eq rfl ?_ | refine awr_succ ?_) | ((with_reducible refine k_move ?_); refine rl_pure (pv_move rfl) rfl rfl rfl ?_) | ((with_reducible refine k_assign ?_); refine rl_pure (pv_assign rfl) rfl rfl rfl ?_) | ((with_reducible refine k_load ?_); refine rl_val (vv_load_box (by rfl) by_memb (by rfl) by_bd) rfl rfl rfl ?_) | ((with_reducible refine k_fieldAddr ?_); refine rl_pure (pv_fieldAddr rfl) rfl rfl rfl ?_) | ((with_reducible refine k_box ?_); refine rl_op rfl (op_box rfl (V.okc_or (by rfl)) rfl fun b => ?_)) | ((with_reducible refine k_eql ?_); (first | refine rl_pure (pv_eql rfl rfl) rfl rfl rfl ?_ | refine rl_pure (pv_str_eql rfl rfl) rfl rfl rfl ?_)) | ((with_reducible refine k_pick ?_); (first | refine rl_pure (pv_pick_t rfl by_bd rfl) rfl rfl rfl ?_ | refine rl_pure (pv_pick_f rfl by_bd rfl) rfl rfl rfl ?_)) | ((with_reducible refine k_guard ?_); (first | refine rl_on_yes rfl rfl rfl by_bd rfl ?_ | refine rl_off_t rfl rfl rfl by_bd rfl ?_)) | (((with_reducible refine k_guard ?_); first | refine rl_if_t rfl rfl rfl rfl ?_ ?_ | refine rl_if_f rfl rfl rfl rfl ?_ ?_) <;> ((fail_if_success (refine imp_known (by assumption) ?_)); (intro hb <;> (have hc := hb) <;> (try simp only [decide_eq_true_eq, decide_eq_false_iff_not, Int.not_lt, Int.not_le, ne_eq, Bool.not_eq_true, Bool.not_eq_false, Decidable.not_not] at hc) <;> (try (exfalso; omega)) <;> (try (exfalso; simp only [Bool.not_eq_eq_eq_not, Bool.not_true, Bool.not_false, decide_eq_true_eq, decide_eq_false_iff_not, ne_eq, Decidable.not_not, Int.not_lt, Int.not_le] at hc; omega)) <;> (try (first | contradiction | (cases hc; done))) <;> (try (first | exact absurd (hb.symm.trans (by assumption) : true = false) (by decide) | exact absurd (hb.symm.trans (by assumption) : false = true) (by decide)))))))
  all_goals
    (first | refine ret_r (ret1 rfl by_res (List.nil_sublist _) ⟨_, rfl, ?_⟩) | refine ret_n (ret1 rfl by_res (List.nil_sublist _) ⟨_, rfl, ?_⟩))
    refine ⟨?_, rfl⟩
    simp_all [sameD]
/-- A node of the tree that comes in; vb: its bytes, which nobody reads. -/
inductive Tree where
  | node (kind : Int) (name : ByteArray) (at_ size vk vn : Int) (vb : V) (kids : List Tree)
mutual
def Tree.cells : Tree → List V
  | .node k nm a sz vk vn vb ks => [int k, str nm, int a, int sz, int vk, int vn, vb, .ro (rowsOf ks)]
def rowsOf : List Tree → List (List V)
  | [] => []
  | t :: ts => t.cells :: rowsOf ts
end
mutual
def Tree.cnt : Tree → Nat
  | .node _ _ _ _ _ _ _ ks => 1 + cntL ks
def cntL : List Tree → Nat
  | [] => 0
  | t :: ts => t.cnt + cntL ts
end
theorem rowsOf_len : ∀ ks, (rowsOf ks).length = ks.length
  | [] => by simp [rowsOf]
  | t :: ts => by simp [rowsOf, rowsOf_len ts]
theorem rowsOf_get : ∀ {ks : List Tree} {i : Nat} {t : Tree}, ks[i]? = some t → (rowsOf ks)[i]? = some t.cells
  | [], i, t, h => by simp at h
  | u :: ts, 0, t, h => by simp at h; subst h; simp [rowsOf]
  | u :: ts, i + 1, t, h => by simpa [rowsOf] using rowsOf_get (by simpa using h)
theorem cells_len : ∀ t : Tree, t.cells.length = 8
  | .node _ _ _ _ _ _ _ _ => by simp [Tree.cells]
theorem cnt_pos : ∀ t : Tree, 0 < t.cnt
  | .node _ _ _ _ _ _ _ ks => by simp only [Tree.cnt]; omega
theorem cntL_append : ∀ a b : List Tree, cntL (a ++ b) = cntL a + cntL b
  | [], b => by simp [cntL]
  | t :: a, b => by simp only [List.cons_append, cntL, cntL_append a b]; omega
theorem cntL_get : ∀ {ks : List Tree} {i : Nat} {t : Tree}, ks[i]? = some t → cntL (ks.take (i + 1)) = cntL (ks.take i) + t.cnt ∧ cntL (ks.take (i + 1)) ≤ cntL ks
  | [], i, t, h => by simp at h
  | u :: ts, 0, t, h => by simp at h; subst h; simp [cntL]
  | u :: ts, i + 1, t, h => by
    have := cntL_get (ks := ts) (i := i) (by simpa using h)
    simp only [List.take_succ_cons, cntL]
    omega
theorem cnt_lt {ks : List Tree} {i : Nat} {t : Tree} (h : ks[i]? = some t) : t.cnt < 1 + cntL ks := by
  have := cntL_get h
  omega
/-- The places of a tree in the order in which they are met, each with the protocol that holds there. -/
abbrev Vis := List (Tree × ByteArray)
mutual
def vis : Tree → ByteArray → Vis
  | .node k nm a sz vk vn vb ks, p => (.node k nm a sz vk vn vb ks, p) :: visL ks (if k = 0 then nm else p)
def visL : List Tree → ByteArray → Vis
  | [], _ => []
  | t :: ts, p => vis t p ++ visL ts p
end
mutual
theorem vis_len : ∀ (t : Tree) (p : ByteArray), (vis t p).length = t.cnt
  | .node k nm a sz vk vn vb ks, p => by simp only [vis, Tree.cnt, List.length_cons, visL_len ks]; omega
theorem visL_len : ∀ (ks : List Tree) (p : ByteArray), (visL ks p).length = cntL ks
  | [], _ => by simp [visL, cntL]
  | t :: ts, p => by simp only [visL, cntL, List.length_append, vis_len t, visL_len ts]
end
theorem visL_take : ∀ {ks : List Tree} {i : Nat} {t : Tree} (p : ByteArray), ks[i]? = some t → visL (ks.take (i + 1)) p = visL (ks.take i) p ++ vis t p
  | [], i, t, p, h => by simp at h
  | u :: ts, 0, t, p, h => by simp at h; subst h; simp [visL]
  | u :: ts, i + 1, t, p, h => by
    have := visL_take (ks := ts) (i := i) p (by simpa using h)
    simp only [List.take_succ_cons, visL, this, List.append_assoc]
/-- The note that a place makes. -/
def noteOfT : Tree → ByteArray → Option NoteD
  | .node k nm a sz vk vn vb ks, p =>
    if k = 4 then some ⟨0, vn, bs [99, 104, 101, 99, 107], nm, p, a, 1⟩
    else if k = 6 then some ⟨0, 4, bs [98, 97, 100], whyOf vn, p, a, 1⟩
    else if k = 5 ∧ 8 ≤ sz then some ⟨0, 1, bs [114, 101, 115, 116], bs [110, 111, 116, 32, 100, 105, 115, 115, 101, 99, 116, 101, 100], p, a, 1⟩
    else none
def inc (n : Int) : Int := IntKind.i64.wrap (n + 1)
def NoteD.more (x : NoteD) : NoteD := { x with times := inc x.times }
/-- Met again: one more of the first that is like it; else at the end. -/
def addBy (eq : NoteD → NoteD → Bool) (x : NoteD) : List NoteD → List NoteD
  | [] => [x]
  | y :: ys => if eq x y then y.more :: ys else y :: addBy eq x ys
end Go.Proofs.YtafpjnkfbfkjcaaGreatDoor
