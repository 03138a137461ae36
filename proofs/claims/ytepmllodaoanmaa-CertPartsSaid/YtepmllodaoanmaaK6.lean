import Derived.Test.YtepmllodaoanmaaK5
set_option linter.unusedVariables false
set_option linter.unusedSimpArgs false
namespace Go.Proofs.Ytepmllodaoanmaa
open Go Go.AX
set_option maxHeartbeats 8000000
set_option maxRecDepth 20000
attribute [local irreducible] AW RL OP PureV ValV HV DL Tri TriR Fun RetOk ResV
/-- What a reader of parts leaves behind, that puts them behind others. -/
def PtR (out : List Part) (o : Option (List Part)) (v : V) (H' : List Ch) : Prop :=
  match o with
  | some l => ∃ sv', v = .tup [.own sv', bool true] ∧ H' = [.vec sv' 42 4 ((out ++ l).map prow)]
  | none => v = .tup [nilS, bool false] ∧ H' = []
theorem map_slice {b : List Int} {s n : Int} (hs : 0 ≤ s) (hn : 0 ≤ n) : List.take ((s + n).toNat - s.toNat) (List.drop s.toNat (b.map br)) = ((b.drop s.toNat).take n.toNat).map br := by
  rw [List.map_take, List.map_drop, show (s + n).toNat - s.toNat = n.toNat by omega]
theorem map_rest {b : List Int} {s : Int} : List.take (((b.map br).length : Int).toNat - s.toNat) (List.drop s.toNat (b.map br)) = (b.drop s.toNat).map br := by
  rw [List.map_drop, List.take_of_length_le]
  rw [List.length_drop]
  omega
theorem parts42 : ∀ (k : Nat) (b : List Int), b.length ≤ k → ∀ (sv : Value) (out : List Part) (a : Int), Bytes b → 0 ≤ a ∧ a + b.length ≤ 1000000 → out.length + b.length ≤ 1000000 →
    TriR Try.prog 42 [.own sv, .ro (b.map br), int a] [.vec sv 42 4 (out.map prow)] fun v H' => PtR out (prtB b a) v H' := by
  intro k
  induction k with
  | zero =>
    intro b hk sv out a hb ha ho
    obtain rfl : b = [] := List.length_eq_zero_iff.1 (by omega)
    refine TriR.of (tri_of Try.func42 rfl Try.ntmps42 rfl fun j => ?_)
    repeat' (first | (with_reducible first | refine aw_seq ?_ | refine rl_nil ?_ | refine aw_region ?_ | refine then_n ?_ | refine aw_block ?_ | refine then_exit ?_ | refine then_ret ?_ | refine in_n ?_ | refine in_ret ?_ | refine aw_exit ?_ | refine aw_ret ?_ | refine aw_skip ?_ | refine in_exit_eq rfl ?_ | refine awr_succ ?_) | ((with_reducible refine k_move ?_); refine rl_pure (pv_move rfl) rfl rfl rfl ?_) | ((with_reducible refine k_assign ?_); refine rl_pure (pv_assign rfl) rfl rfl rfl ?_) | ((with_reducible refine k_gtr ?_); refine rl_pure (pv_gtr rfl rfl) rfl rfl rfl ?_) | ((with_reducible refine k_len ?_); refine rl_pure (pv_len_ro' (by rfl) by_len) rfl rfl rfl ?_) | ((with_reducible refine k_cond ?_); refine aw_cond_f rfl ?_) | refine aw_rounds 1 ?_)
    (first | refine ret_r (retok_pick (.cons .here .nil) (ret2 rfl by_res by_res (List.Sublist.refl _) ⟨_, rfl, ?_⟩)) | refine ret_n (retok_pick (.cons .here .nil) (ret2 rfl by_res by_res (List.Sublist.refl _) ⟨_, rfl, ?_⟩)))
    exact ⟨sv, rfl, by rw [List.append_nil]⟩
  | succ k ih =>
    intro b hk sv out a hb ha ho
    refine TriR.of (tri_of Try.func42 rfl Try.ntmps42 rfl fun j => ?_)
    repeat' (first | (with_reducible first | refine aw_seq ?_ | refine rl_nil ?_ | refine aw_region ?_ | refine then_n ?_ | refine aw_block ?_ | refine then_exit ?_ | refine then_ret ?_ | refine in_n ?_ | refine in_ret ?_ | refine aw_exit ?_ | refine aw_ret ?_ | refine aw_skip ?_ | refine in_exit_eq rfl ?_ | refine awr_succ ?_) | ((with_reducible refine k_assign ?_); refine rl_pure (pv_assign rfl) rfl rfl rfl ?_))
    refine aw_iter (α := List Part × List Int × Int × Value) (fun q => [(0, .own q.2.2.2), (1, .ro (q.2.1.map br)), (2, int q.2.2.1)]) (fun q => [.vec q.2.2.2 42 4 ((out ++ q.1).map prow)])
      (fun q => Bytes q.2.1 ∧ q.2.1.length ≤ b.length ∧ (0 ≤ q.2.2.1 ∧ q.2.2.1 + q.2.1.length ≤ 1000000) ∧ out.length + q.1.length + q.2.1.length ≤ 1000000 ∧ prtB b a = (prtB q.2.1 q.2.2.1).map fun r => q.1 ++ r) (fun q => q.2.1.length)
      ([], b, a, sv) ⟨hb, Nat.le_refl _, ha, by simpa using ho, by cases prtB b a <;> rfl⟩ (by (repeat (first | exact sub_nil | refine sub_cons (by first | rfl | (simp; done)) ?_))) (by simp only [List.append_nil]; exact (.cons .here .nil)) fun q hI => ?_
    obtain ⟨L, c, p, sw⟩ := q
    dsimp only at hI ⊢
    obtain ⟨hc0, hcl, hp, hol, hE⟩ := hI
    rcases c with _ | ⟨c1, cr⟩
    · repeat' (first | (with_reducible first | refine aw_seq ?_ | refine rl_nil ?_ | refine aw_region ?_ | refine then_n ?_ | refine aw_block ?_ | refine then_exit ?_ | refine then_ret ?_ | refine in_n ?_ | refine in_ret ?_ | refine aw_exit ?_ | refine aw_ret ?_ | refine aw_skip ?_ | refine in_exit_eq rfl ?_ | refine awr_succ ?_) | ((with_reducible refine k_move ?_); refine rl_pure (pv_move rfl) rfl rfl rfl ?_) | ((with_reducible refine k_assign ?_); refine rl_pure (pv_assign rfl) rfl rfl rfl ?_) | ((with_reducible refine k_gtr ?_); refine rl_pure (pv_gtr rfl rfl) rfl rfl rfl ?_) | ((with_reducible refine k_len ?_); refine rl_pure (pv_len_ro' (by rfl) by_len) rfl rfl rfl ?_) | ((with_reducible refine k_cond ?_); refine aw_cond_f rfl ?_))
      (first | refine ret_r (retok_pick (.cons .here .nil) (ret2 rfl by_res by_res (List.Sublist.refl _) ⟨_, rfl, ?_⟩)) | refine ret_n (retok_pick (.cons .here .nil) (ret2 rfl by_res by_res (List.Sublist.refl _) ⟨_, rfl, ?_⟩)))
      rw [hE, prtB_nil]
      exact ⟨sw, rfl, by simp⟩
    · have hne : (c1 :: cr) ≠ [] := by simp
      have hlen : ((c1 :: cr).map br).length = (c1 :: cr).length := List.length_map ..
      have h0 : 0 < (c1 :: cr).length := by simp
      generalize c1 :: cr = c at *
      repeat' (first | (with_reducible first | refine aw_seq ?_ | refine rl_nil ?_ | refine aw_region ?_ | refine then_n ?_ | refine aw_block ?_ | refine then_exit ?_ | refine then_ret ?_ | refine in_n ?_ | refine in_ret ?_ | refine aw_exit ?_ | refine aw_ret ?_ | refine aw_skip ?_ | refine in_exit_eq rfl ?_ | refine awr_succ ?_) | ((with_reducible refine k_move ?_); refine rl_pure (pv_move rfl) rfl rfl rfl ?_) | ((with_reducible refine k_gtr ?_); refine rl_pure (pv_gtr rfl rfl) rfl rfl rfl ?_) | ((with_reducible refine k_len ?_); refine rl_pure (pv_len_ro' (by rfl) by_len) rfl rfl rfl ?_) | (((with_reducible refine k_cond ?_); refine aw_cond rfl ?_ ?_) <;> intro hb <;> (have hc := hb) <;> (try simp only [decide_eq_true_eq, decide_eq_false_iff_not, Int.not_lt, Int.not_le, ne_eq, Bool.not_eq_true, Bool.not_eq_false, Decidable.not_not] at hc) <;> (try (exfalso; omega)) <;> (try (first | contradiction | (cases hc; done)))))
      (first | refine rl_op rfl (op_callR rfl rfl .nil (head68 c hc0 (by omega)) rfl ?_) | refine dl_op (by assumption) by_wants (op_callR rfl rfl .nil (head68 c hc0 (by omega)) rfl ?_))
      rintro v _ ⟨⟨x, y, z, q, rfl, hq⟩, rfl⟩
      rcases hq with ⟨rfl, hn⟩ | ⟨rfl, s, rfl, hn⟩
      · repeat' (first | (with_reducible first | refine aw_seq ?_ | refine rl_nil ?_ | refine aw_region ?_ | refine then_n ?_ | refine aw_block ?_ | refine then_exit ?_ | refine then_ret ?_ | refine in_n ?_ | refine in_ret ?_ | refine aw_exit ?_ | refine aw_ret ?_ | refine aw_skip ?_ | refine in_exit_eq rfl ?_ | refine awr_succ ?_) | ((with_reducible refine k_move ?_); refine rl_pure (pv_move rfl) rfl rfl rfl ?_) | ((with_reducible refine k_assign ?_); refine rl_pure (pv_assign rfl) rfl rfl rfl ?_) | ((with_reducible refine k_not ?_); refine rl_pure (pv_not rfl) rfl rfl rfl ?_) | ((with_reducible refine k_extract ?_); refine rl_pure (pv_extract rfl rfl) rfl rfl rfl ?_) | ((with_reducible refine k_cond ?_); refine aw_cond_t rfl ?_))
        (first | refine ret_r (ret2 rfl by_res by_res (List.nil_sublist _) ⟨_, rfl, ?_⟩) | refine ret_n (ret2 rfl by_res by_res (List.nil_sublist _) ⟨_, rfl, ?_⟩))
        rw [hE, prtB_none hne hn]
        exact ⟨rfl, rfl⟩
      · have hk2 := hd_ok hc0 hn
        have hstep := prtB_some (a := p) hc0 hn
        have hlk := looked69 x
        repeat' (first | (with_reducible first | refine aw_seq ?_ | refine rl_nil ?_ | refine aw_region ?_ | refine then_n ?_ | refine aw_block ?_ | refine then_exit ?_ | refine then_ret ?_ | refine in_n ?_ | refine in_ret ?_ | refine aw_exit ?_ | refine aw_ret ?_ | refine aw_skip ?_ | refine in_exit_eq rfl ?_ | refine awr_succ ?_) | ((with_reducible refine k_move ?_); refine rl_pure (pv_move rfl) rfl rfl rfl ?_) | ((with_reducible refine k_assign ?_); refine rl_pure (pv_assign rfl) rfl rfl rfl ?_) | ((with_reducible refine k_not ?_); refine rl_pure (pv_not rfl) rfl rfl rfl ?_) | ((with_reducible refine k_extract ?_); refine rl_pure (pv_extract rfl rfl) rfl rfl rfl ?_) | ((with_reducible refine k_build ?_); refine rl_pure (pv_build_arr rfl by_fill (by rfl)) rfl rfl rfl ?_) | ((with_reducible refine k_buildSlice ?_); refine rl_op rfl (op_buildSlice_ro rfl rfl rfl (by rfl) (by rfl) (by rfl) (by rfl) rfl by_rows ?_)) | ((with_reducible refine k_cond ?_); refine aw_cond_f rfl ?_))
        (first | refine rl_op rfl (op_append rfl .here rfl rfl rfl rfl (by first | (intro r hr; obtain ⟨_, _, rfl⟩ := List.mem_map.1 hr; rfl) | (simp; done) | (simp [V.cells]; done)) by_small rfl fun sv' => ?_) | (refine dl_op (by assumption) by_wants (op_append rfl .here rfl rfl rfl rfl (by first | (intro r hr; obtain ⟨_, _, rfl⟩ := List.mem_map.1 hr; rfl) | (simp; done) | (simp [V.cells]; done)) by_small rfl fun sv' => ?_); intro jd hjd))
        repeat' (first | (with_reducible first | refine aw_seq ?_ | refine rl_nil ?_ | refine aw_region ?_ | refine then_n ?_ | refine aw_block ?_ | refine then_exit ?_ | refine then_ret ?_ | refine in_n ?_ | refine in_ret ?_ | refine aw_exit ?_ | refine aw_ret ?_ | refine aw_skip ?_ | refine in_exit_eq rfl ?_ | refine awr_succ ?_) | ((with_reducible refine k_move ?_); refine rl_pure (pv_move rfl) rfl rfl rfl ?_) | ((with_reducible refine k_assign ?_); refine rl_pure (pv_assign rfl) rfl rfl rfl ?_) | ((with_reducible refine k_add ?_); refine rl_pure (pv_add_in rfl rfl (by omega)) rfl rfl rfl ?_) | ((with_reducible refine k_slice ?_); refine rl_pure (pv_slice_ro (by rfl) rfl rfl by_bound (by first | (intro r hr; simp at hr; done) | (intro r hr; obtain ⟨_, _, rfl⟩ := List.mem_map.1 hr; rfl) | exact prow_len _)) rfl rfl rfl ?_) | ((with_reducible refine k_callv ?_); refine rl_op rfl (op_callF rfl rfl (hlk) rfl ?_)) | (((with_reducible refine k_cond ?_); refine aw_cond rfl ?_ ?_) <;> intro hb <;> (have hc := hb) <;> (try simp only [decide_eq_true_eq, decide_eq_false_iff_not, Int.not_lt, Int.not_le, ne_eq, Bool.not_eq_true, Bool.not_eq_false, Decidable.not_not] at hc) <;> (try (exfalso; omega)) <;> (try (first | contradiction | (cases hc; done)))))
        · rw [map_slice (by omega) (by omega)]
          refine rl_pick [(0, .own sv'), (1, .ro (c.map br)), (2, int p), (8, int x), (9, int s), (10, int z), (35, .own sv'), (41, .ro (((c.drop s).take z.toNat).map br)), (44, int (p + s))] [.vec sv' 42 4 ((out ++ (L ++ [(x, p, (s : Int), z)])).map prow)] (by (repeat (first | exact sub_nil | refine sub_cons (by first | rfl | (simp; done)) ?_))) (by rw [← List.append_assoc, List.map_append (l₁ := out ++ L)]; exact (.cons .here .nil)) ?_
          rw [if_pos hc] at hstep
          (first | refine rl_op rfl (op_callR rfl rfl (.cons .here .nil) (ih ((c.drop s).take z.toNat) (by rw [List.length_take, List.length_drop]; omega) sv' (out ++ (L ++ [(x, p, (s : Int), z)])) (p + s) (bytes_take (bytes_drop hc0 _) _) (by rw [List.length_take, List.length_drop]; omega) (by rw [List.length_append, List.length_append, List.length_singleton, List.length_take, List.length_drop]; omega)) rfl ?_) | refine dl_op (by assumption) by_wants (op_callR rfl rfl (.cons .here .nil) (ih ((c.drop s).take z.toNat) (by rw [List.length_take, List.length_drop]; omega) sv' (out ++ (L ++ [(x, p, (s : Int), z)])) (p + s) (bytes_take (bytes_drop hc0 _) _) (by rw [List.length_take, List.length_drop]; omega) (by rw [List.length_append, List.length_append, List.length_singleton, List.length_take, List.length_drop]; omega)) rfl ?_))
          intro v H1 hP
          cases e : prtB ((c.drop s).take z.toNat) (p + s) with
          | none =>
            rw [e] at hP hstep
            obtain ⟨rfl, rfl⟩ := hP
            repeat' (first | (with_reducible first | refine aw_seq ?_ | refine rl_nil ?_ | refine aw_region ?_ | refine then_n ?_ | refine aw_block ?_ | refine then_exit ?_ | refine then_ret ?_ | refine in_n ?_ | refine in_ret ?_ | refine aw_exit ?_ | refine aw_ret ?_ | refine aw_skip ?_ | refine in_exit_eq rfl ?_ | refine awr_succ ?_) | ((with_reducible refine k_move ?_); refine rl_pure (pv_move rfl) rfl rfl rfl ?_) | ((with_reducible refine k_assign ?_); refine rl_pure (pv_assign rfl) rfl rfl rfl ?_) | ((with_reducible refine k_not ?_); refine rl_pure (pv_not rfl) rfl rfl rfl ?_) | ((with_reducible refine k_extract ?_); refine rl_pure (pv_extract rfl rfl) rfl rfl rfl ?_) | ((with_reducible refine k_cond ?_); refine aw_cond_t rfl ?_))
            (first | refine ret_r (ret2 rfl by_res by_res (List.nil_sublist _) ⟨_, rfl, ?_⟩) | refine ret_n (ret2 rfl by_res by_res (List.nil_sublist _) ⟨_, rfl, ?_⟩))
            rw [hE, hstep]
            exact ⟨rfl, rfl⟩
          | some l =>
            have hll := prtB_len (bytes_take (bytes_drop hc0 _) _) e
            rw [List.length_take, List.length_drop] at hll
            rw [e] at hP hstep
            obtain ⟨sv2, rfl, rfl⟩ := hP
            repeat' (first | (with_reducible first | refine aw_seq ?_ | refine rl_nil ?_ | refine aw_region ?_ | refine then_n ?_ | refine aw_block ?_ | refine then_exit ?_ | refine then_ret ?_ | refine in_n ?_ | refine in_ret ?_ | refine aw_exit ?_ | refine aw_ret ?_ | refine aw_skip ?_ | refine in_exit_eq rfl ?_ | refine awr_succ ?_) | ((with_reducible refine k_move ?_); refine rl_pure (pv_move rfl) rfl rfl rfl ?_) | ((with_reducible refine k_assign ?_); refine rl_pure (pv_assign rfl) rfl rfl rfl ?_) | ((with_reducible refine k_add ?_); refine rl_pure (pv_add_in rfl rfl (by omega)) rfl rfl rfl ?_) | ((with_reducible refine k_not ?_); refine rl_pure (pv_not rfl) rfl rfl rfl ?_) | ((with_reducible refine k_extract ?_); refine rl_pure (pv_extract rfl rfl) rfl rfl rfl ?_) | ((with_reducible refine k_slice ?_); refine rl_pure (pv_slice_ro (by rfl) rfl rfl by_bound (by first | (intro r hr; simp at hr; done) | (intro r hr; obtain ⟨_, _, rfl⟩ := List.mem_map.1 hr; rfl) | exact prow_len _)) rfl rfl rfl ?_) | ((with_reducible refine k_cond ?_); refine aw_cond_f rfl ?_))
            rw [map_rest]
            exact next_of (R := []) (L ++ (x, p, (s : Int), z) :: l, c.drop (s + z.toNat), p + s + z, sv2) ⟨bytes_drop hc0 _, by dsimp only; rw [List.length_drop]; omega, by dsimp only; rw [List.length_drop]; omega, by dsimp only; rw [List.length_append, List.length_cons, List.length_drop]; omega, by
              dsimp only at hstep ⊢
              rw [hE, hstep, Option.map_map]
              congr 1
              funext r
              simp⟩ (by dsimp only; rw [List.length_drop]; omega) (by dsimp only; rw [show c.drop (s + z.toNat) = c.drop ((s : Int) + z).toNat by congr 1; omega]; (repeat (first | exact sub_nil | refine sub_cons (by first | rfl | (simp; done)) ?_))) (by dsimp only; rw [show out ++ (L ++ (x, p, (s : Int), z) :: l) = out ++ (L ++ [(x, p, (s : Int), z)]) ++ l by simp]; exact (.cons .here .nil))
        · rw [if_neg (by simp [hc])] at hstep
          rw [map_rest]
          exact next_of (R := []) (L ++ [(x, p, (s : Int), z)], c.drop (s + z.toNat), p + s + z, sv') ⟨bytes_drop hc0 _, by dsimp only; rw [List.length_drop]; omega, by dsimp only; rw [List.length_drop]; omega, by dsimp only; rw [List.length_append, List.length_singleton, List.length_drop]; omega, by
              dsimp only at hstep ⊢
              rw [hE, hstep, Option.map_map]
              congr 1
              funext r
              simp⟩ (by dsimp only; rw [List.length_drop]; omega) (by dsimp only; rw [show c.drop (s + z.toNat) = c.drop ((s : Int) + z).toNat by congr 1; omega]; (repeat (first | exact sub_nil | refine sub_cons (by first | rfl | (simp; done)) ?_))) (by dsimp only; rw [← List.append_assoc, List.map_append (l₁ := out ++ L)]; exact (.cons .here .nil))
end Go.Proofs.Ytepmllodaoanmaa
