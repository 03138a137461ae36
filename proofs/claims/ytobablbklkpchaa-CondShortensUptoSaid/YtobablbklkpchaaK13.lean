import Derived.Test.YtobablbklkpchaaK12
set_option linter.unusedVariables false
set_option linter.unusedSimpArgs false
namespace Go.Proofs.Ytobablbklkpchaa
open Go Go.AX
set_option maxHeartbeats 8000000
set_option maxRecDepth 20000
attribute [local irreducible] AW RL OP PureV ValV HV DL Tri TriR Fun RetOk ResV
/-- A jump, a condition, a return. -/
abbrev ctl (i : Ins) : Prop := i.op = 32 ∨ i.op = 31 ∨ (25 ≤ i.op ∧ i.op ≤ 30)
/-- The places where a block begins, by the first k instructions. -/
def begs (L : List Ins) : Nat → Int → Bool
  | 0, q => decide (q = 0)
  | k + 1, q => begs L k q || match L[k]? with
    | some i => decide (ctl i) && (decide (q = (k : Int) + 1) || (fol k i).contains q)
    | none => false
/-- The blocks. -/
def blkTo (B : Int → Bool) : Nat → List (Int × Int)
  | 0 => []
  | k + 1 => if B k then blkTo B k ++ [((k : Int), (k : Int))] else (blkTo B k).set ((blkTo B k).length - 1) (((blkTo B k).getD ((blkTo B k).length - 1) (0, 0)).1, (k : Int))
def blks_ (L : List Ins) : List (Int × Int) := blkTo (begs L L.length) L.length
abbrev prow (p : Int × Int) : List V := [int p.1, int p.2]
theorem prow_len (p : Int × Int) : (prow p).length = 2 := rfl
def setOf (B : Int → Bool) (f : Value → Option Value) : Prop := ∀ n, f (.int .i64 n) = if B n then some (.bool true) else none
theorem setOf_put {B : Int → Bool} {f : Value → Option Value} (h : setOf B f) (m : Int) : setOf (fun q => B q || decide (q = m)) (mput f (.int .i64 m) (.bool true)) := fun n => by
  rw [mput_int, h n]
  by_cases e : n = m <;> simp [e]
theorem setOf_cong {B B' : Int → Bool} {f : Value → Option Value} (h : setOf B f) (e : ∀ q, B q = B' q) : setOf B' f := fun n => by rw [← e]; exact h n
theorem blkTo_pos {B : Int → Bool} (h0 : B 0 = true) : ∀ k, 0 < k → 0 < (blkTo B k).length
  | 0, h => absurd h (by decide)
  | k + 1, _ => by
    rw [blkTo]
    split
    · simp
    · rename_i h
      rw [List.length_set]
      rcases Nat.eq_zero_or_pos k with rfl | hk
      · exact absurd h0 (by simpa using h)
      · exact blkTo_pos h0 k hk
theorem begs_zero (L : List Ins) : ∀ k, begs L k 0 = true
  | 0 => by simp [begs]
  | k + 1 => by simp [begs, begs_zero L k]
theorem blkTo_le (B : Int → Bool) : ∀ k, (blkTo B k).length ≤ k
  | 0 => by simp [blkTo]
  | k + 1 => by
    have := blkTo_le B k
    rw [blkTo]
    split
    · simp; omega
    · rw [List.length_set]; omega
theorem set_none {f : Value → Option Value} (h : ∀ k, f k = none) : setOf (fun _ => false) f := fun n => by simp [h]
theorem begs_succ {L : List Ins} {k : Nat} {i : Ins} (hi : L[k]? = some i) (q : Int) : begs L (k + 1) q = (begs L k q || (decide (ctl i) && (decide (q = (k : Int) + 1) || (fol k i).contains q))) := by
  simp only [begs, hi]
theorem blocks43 (L : List Ins) (hL : Code_ L) : TriR Try.prog 43 [.ro (L.map Ins.cells)] [] fun v H' => v = .ro ((blks_ L).map prow) ∧ H' = [] := by
  have hlen := hL.len
  refine TriR.of (tri_of Try.func43 rfl Try.ntmps43 rfl fun j => ?_)
  repeat' (first | (with_reducible first | refine aw_seq ?_ | refine rl_nil ?_ | refine aw_region ?_ | refine then_n ?_ | refine aw_block ?_ | refine then_exit ?_ | refine then_ret ?_ | refine in_n ?_ | refine in_ret ?_ | refine aw_exit ?_ | refine aw_ret ?_ | refine aw_skip ?_ | refine in_exit_eq rfl ?_) | ((with_reducible refine k_move ?_); refine rl_pure (pv_move rfl) rfl rfl rfl ?_) | ((with_reducible refine k_assign ?_); refine rl_pure (pv_assign rfl) rfl rfl rfl ?_) | ((with_reducible refine k_len ?_); refine rl_pure (pv_len_ro' (by rfl) by_len) rfl rfl rfl ?_) | ((with_reducible refine k_makeMap ?_); refine rl_op rfl (op_makeMap rfl fun b => ?_)) | ((with_reducible refine k_insert ?_); refine rl_op rfl (op_insert_at 0 rfl rfl rfl rfl (by first | assumption | exact mapOf_empty) (by exact ⟨_, rfl⟩) (by rfl) fun es c hM => ?_)))
  revert b es c hM; intro mb es0 c0 hM0
  generalize hf0 : mput _ (Value.int .i64 0) (Value.bool true) = f0 at hM0
  have hS0 : setOf (begs L 0) f0 := fun n => by rw [← hf0, mput_int]; simp [begs]
  clear hf0
  refine aw_iter (α := Nat × Array MapEntry × Nat × (Value → Option Value)) (fun q => [(0, .ro (L.map Ins.cells)), (3, .raw (.map (some mb))), (12, .ro (L.map Ins.cells)), (13, int L.length), (14, int q.1)])
    (fun q => [.obj mb (.map q.2.1 q.2.2.1)]) (fun q => q.1 ≤ L.length ∧ MapOf (.int .i64) q.2.1 q.2.2.2 ∧ setOf (begs L q.1) q.2.2.2) (fun q => L.length - q.1)
    (0, es0, c0, f0) ⟨Nat.zero_le _, hM0, hS0⟩ (by (repeat (first | exact sub_nil | refine sub_cons (by first | rfl | (simp; done)) ?_))) (.cons .here .nil) fun q hI => ?_
  obtain ⟨at_, es1, c1, f1⟩ := q
  dsimp only at hI ⊢
  obtain ⟨hat, hM1, hS1⟩ := hI
  rcases Nat.lt_or_ge at_ L.length with h | h
  · obtain ⟨i, hi⟩ : ∃ i, L[at_]? = some i := ⟨_, List.getElem?_eq_getElem h⟩
    have hr : (L.map Ins.cells)[at_]? = some i.cells := by simp [hi]
    have hfol := Fun.of (followers46 L at_ i hL hi)
    have hbg := begs_succ hi
    have hff : (fol at_ i).length ≤ 2 := by
      unfold fol
      repeat' split
      all_goals simp
    by_cases hct : ctl i
    · simp only [hct, decide_true, Bool.true_and] at hbg
      repeat' (first | (with_reducible first | refine aw_seq ?_ | refine rl_nil ?_ | refine aw_region ?_ | refine then_n ?_ | refine aw_block ?_ | refine then_exit ?_ | refine then_ret ?_ | refine in_n ?_ | refine in_ret ?_ | refine aw_exit ?_ | refine aw_ret ?_ | refine aw_skip ?_ | refine in_exit_eq rfl ?_) | ((with_reducible refine k_move ?_); refine rl_pure (pv_move rfl) rfl rfl rfl ?_) | ((with_reducible refine k_assign ?_); refine rl_pure (pv_assign rfl) rfl rfl rfl ?_) | ((with_reducible refine k_load ?_); (first | refine rl_val (vv_load_ro_whole (by rfl) (by rfl) (by first | rfl | exact ins_len _)) rfl rfl rfl ?_ | refine rl_val (vv_load_box (by rfl) by_memb (by rfl) by_bd) rfl rfl rfl ?_)) | ((with_reducible refine k_fieldAddr ?_); refine rl_pure (pv_fieldAddr rfl) rfl rfl rfl ?_) | ((with_reducible refine k_store ?_); refine rl_op rfl (op_store_box_whole (by rfl) (by rfl) (V.okc_or (by rfl)) by_upd (by first | rfl | exact ins_len _) (by first | rfl | exact ins_len _) ?_)) | ((with_reducible refine k_alloc ?_); refine rl_op rfl (op_alloc (by decide) rfl fun b => ?_)) | ((with_reducible refine k_neq ?_); refine rl_pure (pv_neq rfl rfl) rfl rfl rfl ?_) | ((with_reducible refine k_lss ?_); refine rl_pure (pv_lss rfl rfl) rfl rfl rfl ?_) | ((with_reducible refine k_add ?_); refine rl_pure (pv_add_in rfl rfl (by omega)) rfl rfl rfl ?_) | ((with_reducible refine k_not ?_); refine rl_pure (pv_not rfl) rfl rfl rfl ?_) | ((with_reducible refine k_len ?_); refine rl_pure (pv_len_ro' (by rfl) by_len) rfl rfl rfl ?_) | ((with_reducible refine k_indexAddr ?_); refine rl_pure (pv_indexAddr_ro (by rfl) rfl (by omega) (by first | rfl | assumption) (by first | rfl | exact ins_len _)) rfl rfl rfl ?_) | ((with_reducible refine k_mapUpdate ?_); refine rl_op rfl (op_mapUpdate_at 1 rfl rfl rfl rfl (by first | assumption | exact mapOf_empty) (by exact ⟨_, rfl⟩) (by rfl) fun es c hM => ?_)) | ((with_reducible refine k_pick ?_); (first | refine rl_pure (pv_pick_t rfl by_bd rfl) rfl rfl rfl ?_ | refine rl_pure (pv_pick_f rfl by_bd rfl) rfl rfl rfl ?_)) | ((with_reducible refine k_guard ?_); (first | refine rl_on_yes rfl rfl rfl by_bd rfl ?_ | refine rl_off_t rfl rfl rfl by_bd rfl ?_)) | ((with_reducible refine k_cond ?_); refine aw_cond_f rfl ?_) | ((with_reducible refine k_callv ?_); (first | refine rl_op rfl (op_callF rfl rfl (isJump_fun _) rfl ?_) | refine rl_op rfl (op_callF rfl rfl (hfol) rfl ?_))) | (((with_reducible refine k_guard ?_); first | refine rl_if_t rfl rfl rfl rfl ?_ ?_ | refine rl_if_f rfl rfl rfl rfl ?_ ?_) <;> intro hb <;> (have hc := hb) <;> (try simp only [decide_eq_true_eq, decide_eq_false_iff_not, Int.not_lt, Int.not_le, ne_eq, Bool.not_eq_true, Bool.not_eq_false, Decidable.not_not] at hc) <;> (try (exfalso; omega)) <;> (try (first | contradiction | (cases hc; done)))) | (((with_reducible refine k_cond ?_); refine aw_cond rfl ?_ ?_) <;> intro hb <;> (have hc := hb) <;> (try simp only [decide_eq_true_eq, decide_eq_false_iff_not, Int.not_lt, Int.not_le, ne_eq, Bool.not_eq_true, Bool.not_eq_false, Decidable.not_not] at hc) <;> (try (exfalso; omega)) <;> (try (first | contradiction | (cases hc; done)))))
      all_goals first
      | (exfalso; simp only [Bool.not_eq_true', decide_eq_false_iff_not] at hc; simp only [ctl] at hct; omega)
      | skip
      all_goals
        refine aw_iter (α := Nat × Array MapEntry × Nat × (Value → Option Value)) (fun q => [(0, .ro (L.map Ins.cells)), (3, .raw (.map (some mb))), (12, .ro (L.map Ins.cells)), (13, int L.length), (14, int at_), (38, .ro ((fol at_ i).map fun q => [int q])), (39, int (fol at_ i).length), (40, int q.1)])
          (fun q => [.obj mb (.map q.2.1 q.2.2.1)]) (fun q => q.1 ≤ (fol at_ i).length ∧ MapOf (.int .i64) q.2.1 q.2.2.2 ∧ setOf (fun x => begs L at_ x || (decide (x = (at_ : Int) + 1) || ((fol at_ i).take q.1).contains x)) q.2.2.2) (fun q => (fol at_ i).length - q.1)
          (0, es, c, _) ⟨Nat.zero_le _, hM, setOf_cong (setOf_put hS1 _) fun q => by simp⟩ (by (repeat (first | exact sub_nil | refine sub_cons (by first | rfl | (simp; done)) ?_))) (.cons (.there .here) .nil) fun q hI => ?_
        obtain ⟨k, es2, c2, f2⟩ := q
        dsimp only at hI ⊢
        obtain ⟨hk, hM2, hS2⟩ := hI
        rcases Nat.lt_or_ge k (fol at_ i).length with h2 | h2
        · obtain ⟨y, hy⟩ : ∃ y, (fol at_ i)[k]? = some y := ⟨_, List.getElem?_eq_getElem h2⟩
          have hr2 : ((fol at_ i).map fun q => [int q])[k]? = some [int y] := by simp [hy]
          have ht : (fol at_ i).take (k + 1) = (fol at_ i).take k ++ [y] := by
            obtain ⟨_, rfl⟩ := List.getElem?_eq_some_iff.1 hy
            exact List.take_succ_eq_append_getElem h2
          clear hM
          repeat' (first | (with_reducible first | refine aw_seq ?_ | refine rl_nil ?_ | refine aw_region ?_ | refine then_n ?_ | refine aw_block ?_ | refine then_exit ?_ | refine then_ret ?_ | refine in_n ?_ | refine in_ret ?_ | refine aw_exit ?_ | refine aw_ret ?_ | refine aw_skip ?_ | refine in_exit_eq rfl ?_) | ((with_reducible refine k_move ?_); refine rl_pure (pv_move rfl) rfl rfl rfl ?_) | ((with_reducible refine k_assign ?_); refine rl_pure (pv_assign rfl) rfl rfl rfl ?_) | ((with_reducible refine k_load ?_); refine rl_val (vv_load_ro (by rfl) (by rfl) by_bd) rfl rfl rfl ?_) | ((with_reducible refine k_lss ?_); refine rl_pure (pv_lss rfl rfl) rfl rfl rfl ?_) | ((with_reducible refine k_add ?_); refine rl_pure (pv_add_in rfl rfl (by omega)) rfl rfl rfl ?_) | ((with_reducible refine k_indexAddr ?_); refine rl_pure (pv_indexAddr_ro (by rfl) rfl (by omega) (by first | rfl | assumption) (by first | rfl | exact ins_len _)) rfl rfl rfl ?_) | ((with_reducible refine k_mapUpdate ?_); refine rl_op rfl (op_mapUpdate_at 0 rfl rfl rfl rfl (by first | assumption | exact mapOf_empty) (by exact ⟨_, rfl⟩) (by rfl) fun es c hM => ?_)) | (((with_reducible refine k_cond ?_); refine aw_cond rfl ?_ ?_) <;> intro hb <;> (have hc := hb) <;> (try simp only [decide_eq_true_eq, decide_eq_false_iff_not, Int.not_lt, Int.not_le, ne_eq, Bool.not_eq_true, Bool.not_eq_false, Decidable.not_not] at hc) <;> (try (exfalso; omega)) <;> (try (first | contradiction | (cases hc; done)))))
          refine next_of (k + 1, es, c, _) ⟨h2, hM, setOf_cong (setOf_put hS2 _) fun q => ?_⟩ (by dsimp only; omega) (by (repeat (first | exact sub_nil | refine sub_cons (by first | rfl | (simp; done)) ?_))) (.cons .here .nil)
          dsimp only
          rw [ht]
          simp [Bool.or_assoc]
        · repeat' (first | (with_reducible first | refine aw_seq ?_ | refine rl_nil ?_ | refine aw_region ?_ | refine then_n ?_ | refine aw_block ?_ | refine then_exit ?_ | refine then_ret ?_ | refine in_n ?_ | refine in_ret ?_ | refine aw_exit ?_ | refine aw_ret ?_ | refine aw_skip ?_ | refine in_exit_eq rfl ?_) | ((with_reducible refine k_move ?_); refine rl_pure (pv_move rfl) rfl rfl rfl ?_) | ((with_reducible refine k_lss ?_); refine rl_pure (pv_lss rfl rfl) rfl rfl rfl ?_) | ((with_reducible refine k_add ?_); refine rl_pure (pv_add_in rfl rfl (by omega)) rfl rfl rfl ?_) | (((with_reducible refine k_cond ?_); refine aw_cond rfl ?_ ?_) <;> intro hb <;> (have hc := hb) <;> (try simp only [decide_eq_true_eq, decide_eq_false_iff_not, Int.not_lt, Int.not_le, ne_eq, Bool.not_eq_true, Bool.not_eq_false, Decidable.not_not] at hc) <;> (try (exfalso; omega)) <;> (try (first | contradiction | (cases hc; done)))))
          rw [List.take_of_length_le h2] at hS2
          exact next_of (at_ + 1, es2, c2, f2) ⟨h, hM2, setOf_cong hS2 fun q => (hbg q).symm⟩ (by dsimp only; omega) (by (repeat (first | exact sub_nil | refine sub_cons (by first | rfl | (simp; done)) ?_))) (.cons .here .nil)
    · simp only [hct, decide_false, Bool.false_and, Bool.or_false] at hbg
      simp only [ctl] at hct
      repeat' (first | (with_reducible first | refine aw_seq ?_ | refine rl_nil ?_ | refine aw_region ?_ | refine then_n ?_ | refine aw_block ?_ | refine then_exit ?_ | refine then_ret ?_ | refine in_n ?_ | refine in_ret ?_ | refine aw_exit ?_ | refine aw_ret ?_ | refine aw_skip ?_ | refine in_exit_eq rfl ?_) | ((with_reducible refine k_move ?_); refine rl_pure (pv_move rfl) rfl rfl rfl ?_) | ((with_reducible refine k_assign ?_); refine rl_pure (pv_assign rfl) rfl rfl rfl ?_) | ((with_reducible refine k_load ?_); (first | refine rl_val (vv_load_ro_whole (by rfl) (by rfl) (by first | rfl | exact ins_len _)) rfl rfl rfl ?_ | refine rl_val (vv_load_box (by rfl) by_memb (by rfl) by_bd) rfl rfl rfl ?_)) | ((with_reducible refine k_fieldAddr ?_); refine rl_pure (pv_fieldAddr rfl) rfl rfl rfl ?_) | ((with_reducible refine k_store ?_); refine rl_op rfl (op_store_box_whole (by rfl) (by rfl) (V.okc_or (by rfl)) by_upd (by first | rfl | exact ins_len _) (by first | rfl | exact ins_len _) ?_)) | ((with_reducible refine k_alloc ?_); refine rl_op rfl (op_alloc (by decide) rfl fun b => ?_)) | ((with_reducible refine k_neq ?_); refine rl_pure (pv_neq rfl rfl) rfl rfl rfl ?_) | ((with_reducible refine k_lss ?_); refine rl_pure (pv_lss rfl rfl) rfl rfl rfl ?_) | ((with_reducible refine k_add ?_); refine rl_pure (pv_add_in rfl rfl (by omega)) rfl rfl rfl ?_) | ((with_reducible refine k_not ?_); refine rl_pure (pv_not rfl) rfl rfl rfl ?_) | ((with_reducible refine k_len ?_); refine rl_pure (pv_len_ro' (by rfl) by_len) rfl rfl rfl ?_) | ((with_reducible refine k_indexAddr ?_); refine rl_pure (pv_indexAddr_ro (by rfl) rfl (by omega) (by first | rfl | assumption) (by first | rfl | exact ins_len _)) rfl rfl rfl ?_) | ((with_reducible refine k_mapUpdate ?_); refine rl_op rfl (op_mapUpdate_at 1 rfl rfl rfl rfl (by first | assumption | exact mapOf_empty) (by exact ⟨_, rfl⟩) (by rfl) fun es c hM => ?_)) | ((with_reducible refine k_pick ?_); refine rl_pure (pv_pick_t rfl by_bd rfl) rfl rfl rfl ?_) | ((with_reducible refine k_guard ?_); refine rl_on_yes rfl rfl rfl by_bd rfl ?_) | ((with_reducible refine k_callv ?_); (first | refine rl_op rfl (op_callF rfl rfl (isJump_fun _) rfl ?_) | refine rl_op rfl (op_callF rfl rfl (hfol) rfl ?_))) | (((with_reducible refine k_guard ?_); first | refine rl_if_t rfl rfl rfl rfl ?_ ?_ | refine rl_if_f rfl rfl rfl rfl ?_ ?_) <;> intro hb <;> (have hc := hb) <;> (try simp only [decide_eq_true_eq, decide_eq_false_iff_not, Int.not_lt, Int.not_le, ne_eq, Bool.not_eq_true, Bool.not_eq_false, Decidable.not_not] at hc) <;> (try (exfalso; omega)) <;> (try (first | contradiction | (cases hc; done)))) | (((with_reducible refine k_cond ?_); refine aw_cond rfl ?_ ?_) <;> intro hb <;> (have hc := hb) <;> (try simp only [decide_eq_true_eq, decide_eq_false_iff_not, Int.not_lt, Int.not_le, ne_eq, Bool.not_eq_true, Bool.not_eq_false, Decidable.not_not] at hc) <;> (try (exfalso; omega)) <;> (try (first | contradiction | (cases hc; done)))))
      all_goals first
      | (exfalso; simp only [Bool.not_eq_false', decide_eq_true_eq] at hc; omega)
      | skip
      exact next_of (at_ + 1, es1, c1, f1) ⟨h, hM1, setOf_cong hS1 fun q => (hbg q).symm⟩ (by dsimp only; omega) (by (repeat (first | exact sub_nil | refine sub_cons (by first | rfl | (simp; done)) ?_))) (.cons (.there .here) .nil)
  · have hat' : at_ = L.length := by omega
    subst hat'
    repeat' (first | (with_reducible first | refine aw_seq ?_ | refine rl_nil ?_ | refine aw_region ?_ | refine then_n ?_ | refine aw_block ?_ | refine then_exit ?_ | refine then_ret ?_ | refine in_n ?_ | refine in_ret ?_ | refine aw_exit ?_ | refine aw_ret ?_ | refine aw_skip ?_ | refine in_exit_eq rfl ?_) | ((with_reducible refine k_move ?_); refine rl_pure (pv_move rfl) rfl rfl rfl ?_) | ((with_reducible refine k_assign ?_); refine rl_pure (pv_assign rfl) rfl rfl rfl ?_) | ((with_reducible refine k_lss ?_); refine rl_pure (pv_lss rfl rfl) rfl rfl rfl ?_) | ((with_reducible refine k_len ?_); refine rl_pure (pv_len_ro' (by rfl) by_len) rfl rfl rfl ?_) | (((with_reducible refine k_cond ?_); refine aw_cond rfl ?_ ?_) <;> intro hb <;> (have hc := hb) <;> (try simp only [decide_eq_true_eq, decide_eq_false_iff_not, Int.not_lt, Int.not_le, ne_eq, Bool.not_eq_true, Bool.not_eq_false, Decidable.not_not] at hc) <;> (try (exfalso; omega)) <;> (try (first | contradiction | (cases hc; done)))))
    refine aw_nil_own 8 51 2 rfl ?_
    refine aw_iter (α := Nat × Value) (fun q => [(3, .raw (.map (some mb))), (8, .own q.2), (48, .ro (L.map Ins.cells)), (49, int L.length), (50, int q.1)])
      (fun q => [.vec q.2 51 2 ((blkTo (begs L L.length) q.1).map prow), .obj mb (.map es1 c1)]) (fun q => q.1 ≤ L.length) (fun q => L.length - q.1)
      (0, _) (Nat.zero_le _) (by (repeat (first | exact sub_nil | refine sub_cons (by first | rfl | (simp; done)) ?_))) (.cons .here (.cons .here .nil)) fun q hI => ?_
    obtain ⟨k, sv⟩ := q
    dsimp only at hI ⊢
    rcases Nat.lt_or_ge k L.length with h2 | h2
    · have hbl := blkTo_le (begs L L.length) k
      have hl := hS1 k
      cases hB : begs L L.length k with
      | true =>
        have hl2 : (f1 (.int .i64 k)).getD (.bool false) = .bool true := by rw [hl, hB]; rfl
        repeat' (first | (with_reducible first | refine aw_seq ?_ | refine rl_nil ?_ | refine aw_region ?_ | refine then_n ?_ | refine aw_block ?_ | refine then_exit ?_ | refine then_ret ?_ | refine in_n ?_ | refine in_ret ?_ | refine aw_exit ?_ | refine aw_ret ?_ | refine aw_skip ?_ | refine in_exit_eq rfl ?_) | ((with_reducible refine k_move ?_); refine rl_pure (pv_move rfl) rfl rfl rfl ?_) | ((with_reducible refine k_assign ?_); refine rl_pure (pv_assign rfl) rfl rfl rfl ?_) | ((with_reducible refine k_lss ?_); refine rl_pure (pv_lss rfl rfl) rfl rfl rfl ?_) | ((with_reducible refine k_lookup ?_); refine rl_val (pv_lookup_is (by rfl) (by rfl) (by exact ⟨_, rfl⟩) by_memb (by assumption) (by assumption)) rfl rfl rfl ?_) | ((with_reducible refine k_build ?_); refine rl_pure (pv_build_arr rfl by_fill (by rfl)) rfl rfl rfl ?_) | ((with_reducible refine k_buildSlice ?_); refine rl_op rfl (op_buildSlice_ro rfl rfl rfl (by rfl) (by rfl) (by rfl) (by rfl) rfl by_rows ?_)) | ((with_reducible refine k_cond ?_); refine aw_cond_t rfl ?_) | (((with_reducible refine k_cond ?_); refine aw_cond rfl ?_ ?_) <;> intro hb <;> (have hc := hb) <;> (try simp only [decide_eq_true_eq, decide_eq_false_iff_not, Int.not_lt, Int.not_le, ne_eq, Bool.not_eq_true, Bool.not_eq_false, Decidable.not_not] at hc) <;> (try (exfalso; omega)) <;> (try (first | contradiction | (cases hc; done)))))
        (first | refine rl_op rfl (op_append rfl .here rfl rfl rfl rfl (by intro r hr; rcases List.mem_singleton.1 hr with rfl; rfl) (by first | omega | (simp only [List.length_map, List.length_cons, List.length_nil]; omega)) rfl fun sv' => ?_) | (refine dl_op (by assumption) by_wants (op_append rfl .here rfl rfl rfl rfl (by intro r hr; rcases List.mem_singleton.1 hr with rfl; rfl) (by first | omega | (simp only [List.length_map, List.length_cons, List.length_nil]; omega)) rfl fun sv' => ?_); intro jd hjd))
        repeat' (first | (with_reducible first | refine aw_seq ?_ | refine rl_nil ?_ | refine aw_region ?_ | refine then_n ?_ | refine aw_block ?_ | refine then_exit ?_ | refine then_ret ?_ | refine in_n ?_ | refine in_ret ?_ | refine aw_exit ?_ | refine aw_ret ?_ | refine aw_skip ?_ | refine in_exit_eq rfl ?_) | ((with_reducible refine k_move ?_); refine rl_pure (pv_move rfl) rfl rfl rfl ?_) | ((with_reducible refine k_assign ?_); refine rl_pure (pv_assign rfl) rfl rfl rfl ?_) | ((with_reducible refine k_sub ?_); refine rl_pure (pv_sub_in rfl rfl (by omega)) rfl rfl rfl ?_) | ((with_reducible refine k_len ?_); refine rl_pure (pv_len_own' (by rfl) by_memb by_len) rfl rfl rfl ?_) | ((with_reducible refine k_indexAddr ?_); (first | refine rl_pure (pv_indexAddr_own (by rfl) by_memb rfl (by first | omega | (simp only [List.length_cons, List.length_nil, List.length_append, List.length_map, List.length_replicate, List.length_set]; omega))) rfl rfl rfl ?_ | refine rl_pure (pv_indexAddr_arr_vp (by rfl) rfl by_bound) rfl rfl rfl ?_)))
        have hz : (((blkTo (begs L L.length) k).length + 1 : Nat) : Int) - 1 = ((blkTo (begs L L.length) k).length : Int) := by omega
        refine rl_op rfl (op_store_vp (r := [int k, int k]) rfl rfl (V.okc_or (by rfl)) by_upd ?_ (by rfl) (by decide) ?_)
        · rw [hz]; simp
        rw [hz]
        have e : ∀ q : Nat, q = (blkTo (begs L L.length) k).length → (((blkTo (begs L L.length) k).map prow) ++ [[int k, int k]]).set q [int k, int k] = (blkTo (begs L L.length) (k + 1)).map prow := fun q hq => by
          subst hq
          rw [blkTo, if_pos hB, List.map_append, List.set_append_right _ _ (by simp)]
          simp
        repeat' (first | (with_reducible first | refine aw_seq ?_ | refine rl_nil ?_ | refine aw_region ?_ | refine then_n ?_ | refine aw_block ?_ | refine then_exit ?_ | refine then_ret ?_ | refine in_n ?_ | refine in_ret ?_ | refine aw_exit ?_ | refine aw_ret ?_ | refine aw_skip ?_ | refine in_exit_eq rfl ?_) | ((with_reducible refine k_move ?_); refine rl_pure (pv_move rfl) rfl rfl rfl ?_) | ((with_reducible refine k_add ?_); refine rl_pure (pv_add_in rfl rfl (by omega)) rfl rfl rfl ?_))
        refine next_of (R := []) (k + 1, sv') h2 (by dsimp only; omega) (by (repeat (first | exact sub_nil | refine sub_cons (by first | rfl | (simp; done)) ?_))) ?_
        rw [← e _ (Int.toNat_natCast _)]
        exact (.cons .here (.cons .here .nil))
      | false =>
        have hl2 : (f1 (.int .i64 k)).getD (.bool false) = .bool false := by rw [hl, hB]; rfl
        have hps : 0 < (blkTo (begs L L.length) k).length := by
          refine blkTo_pos (begs_zero L _) k ?_
          rcases Nat.eq_zero_or_pos k with rfl | hk
          · rw [show begs L L.length ((0 : Nat) : Int) = true from begs_zero L _] at hB; cases hB
          · exact hk
        obtain ⟨p, hp⟩ : ∃ p, (blkTo (begs L L.length) k)[(blkTo (begs L L.length) k).length - 1]? = some p := ⟨_, List.getElem?_eq_getElem (by omega)⟩
        have hz : (((blkTo (begs L L.length) k).length : Int) - 1).toNat = (blkTo (begs L L.length) k).length - 1 := by omega
        repeat' (first | (with_reducible first | refine aw_seq ?_ | refine rl_nil ?_ | refine aw_region ?_ | refine then_n ?_ | refine aw_block ?_ | refine then_exit ?_ | refine then_ret ?_ | refine in_n ?_ | refine in_ret ?_ | refine aw_exit ?_ | refine aw_ret ?_ | refine aw_skip ?_ | refine in_exit_eq rfl ?_) | ((with_reducible refine k_move ?_); refine rl_pure (pv_move rfl) rfl rfl rfl ?_) | ((with_reducible refine k_assign ?_); refine rl_pure (pv_assign rfl) rfl rfl rfl ?_) | ((with_reducible refine k_lss ?_); refine rl_pure (pv_lss rfl rfl) rfl rfl rfl ?_) | ((with_reducible refine k_sub ?_); refine rl_pure (pv_sub_in rfl rfl (by omega)) rfl rfl rfl ?_) | ((with_reducible refine k_len ?_); refine rl_pure (pv_len_own' (by rfl) by_memb by_len) rfl rfl rfl ?_) | ((with_reducible refine k_indexAddr ?_); (first | refine rl_pure (pv_indexAddr_own (by rfl) by_memb rfl (by first | omega | (simp only [List.length_cons, List.length_nil, List.length_append, List.length_map, List.length_replicate, List.length_set]; omega))) rfl rfl rfl ?_ | refine rl_pure (pv_indexAddr_arr_vp (by rfl) rfl by_bound) rfl rfl rfl ?_)) | ((with_reducible refine k_lookup ?_); refine rl_val (pv_lookup_is (by rfl) (by rfl) (by exact ⟨_, rfl⟩) by_memb (by assumption) (by assumption)) rfl rfl rfl ?_) | ((with_reducible refine k_cond ?_); refine aw_cond_f rfl ?_) | (((with_reducible refine k_cond ?_); refine aw_cond rfl ?_ ?_) <;> intro hb <;> (have hc := hb) <;> (try simp only [decide_eq_true_eq, decide_eq_false_iff_not, Int.not_lt, Int.not_le, ne_eq, Bool.not_eq_true, Bool.not_eq_false, Decidable.not_not] at hc) <;> (try (exfalso; omega)) <;> (try (first | contradiction | (cases hc; done)))))
        refine rl_op rfl (op_store_vp (r := prow p) rfl rfl (V.okc_or (by rfl)) by_upd ?_ (by rfl) (by decide) ?_)
        · rw [hz]; simp [hp]
        rw [hz]
        have e : ((blkTo (begs L L.length) k).map prow).set ((blkTo (begs L L.length) k).length - 1) [int p.1, int k] = (blkTo (begs L L.length) (k + 1)).map prow := by
          rw [blkTo, if_neg (by simp [hB]), List.map_set]
          simp [List.getD_eq_getElem?_getD, hp]
        repeat' (first | (with_reducible first | refine aw_seq ?_ | refine rl_nil ?_ | refine aw_region ?_ | refine then_n ?_ | refine aw_block ?_ | refine then_exit ?_ | refine then_ret ?_ | refine in_n ?_ | refine in_ret ?_ | refine aw_exit ?_ | refine aw_ret ?_ | refine aw_skip ?_ | refine in_exit_eq rfl ?_) | ((with_reducible refine k_move ?_); refine rl_pure (pv_move rfl) rfl rfl rfl ?_) | ((with_reducible refine k_add ?_); refine rl_pure (pv_add_in rfl rfl (by omega)) rfl rfl rfl ?_))
        refine next_of (R := []) (k + 1, sv) h2 (by dsimp only; omega) (by (repeat (first | exact sub_nil | refine sub_cons (by first | rfl | (simp; done)) ?_))) ?_
        rw [← e]
        exact (.cons .here (.cons .here .nil))
    · have hk : k = L.length := by omega
      subst hk
      repeat' (first | (with_reducible first | refine aw_seq ?_ | refine rl_nil ?_ | refine aw_region ?_ | refine then_n ?_ | refine aw_block ?_ | refine then_exit ?_ | refine then_ret ?_ | refine in_n ?_ | refine in_ret ?_ | refine aw_exit ?_ | refine aw_ret ?_ | refine aw_skip ?_ | refine in_exit_eq rfl ?_) | ((with_reducible refine k_move ?_); refine rl_pure (pv_move rfl) rfl rfl rfl ?_) | ((with_reducible refine k_lss ?_); refine rl_pure (pv_lss rfl rfl) rfl rfl rfl ?_) | ((with_reducible refine k_cond ?_); refine aw_cond_no rfl (by assumption) ?_))
      refine rl_op rfl (op_clear rfl by_upd ?_)
      refine rl_freeze (d := 8) rfl by_take ?_
      repeat' (first | (with_reducible first | refine aw_seq ?_ | refine rl_nil ?_ | refine aw_region ?_ | refine then_n ?_ | refine aw_block ?_ | refine then_exit ?_ | refine then_ret ?_ | refine in_n ?_ | refine in_ret ?_ | refine aw_exit ?_ | refine aw_ret ?_ | refine aw_skip ?_ | refine in_exit_eq rfl ?_) | ((with_reducible refine k_move ?_); refine rl_pure (pv_move rfl) rfl rfl rfl ?_) | ((with_reducible refine k_assign ?_); refine rl_pure (pv_assign rfl) rfl rfl rfl ?_))
      (first | refine ret_r (ret1 rfl by_res (List.nil_sublist _) ⟨_, rfl, ?_⟩) | refine ret_n (ret1 rfl by_res (List.nil_sublist _) ⟨_, rfl, ?_⟩))
      exact ⟨rfl, rfl⟩
end Go.Proofs.Ytobablbklkpchaa
