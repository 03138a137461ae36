import Derived.Test.YtobablbklkpchaaK9
set_option linter.unusedVariables false
set_option linter.unusedSimpArgs false
namespace Go.Proofs.Ytobablbklkpchaa
open Go Go.AX
set_option maxHeartbeats 8000000
set_option maxRecDepth 20000
attribute [local irreducible] AW RL OP PureV ValV HV DL Tri TriR Fun RetOk ResV
def M0 : M := ⟨0, 0, fun _ => 0, false⟩
theorem m0_ok : MOk M0 := ⟨⟨by decide, by decide⟩, ⟨by decide, by decide⟩, fun _ => ⟨by show (0 : Int) ≤ 0; decide, by show (0 : Int) < _; decide⟩⟩
theorem done17 (real : Int) (data : List Int) (L : List Ins) (hL : Code_ L) (hd : Bytes data) (hdl : data.length ≤ 1000000) (hreal : 0 ≤ real ∧ real ≤ 1000000) :
    TriR Try.prog 17 [.ro (L.map Ins.cells), int real, .ro (data.map brow)] [] fun v H' =>
      v = .tup [bool (runL real data L L.length 0 1 M0).1, int (runL real data L L.length 0 1 M0).2] ∧ H' = [] := by
  have hlen := hL.len
  refine TriR.of (tri_of Try.func17 rfl Try.ntmps17 rfl fun j => ?_)
  repeat' (first | (with_reducible first | refine aw_seq ?_ | refine rl_nil ?_ | refine aw_region ?_ | refine then_n ?_ | refine aw_block ?_ | refine then_exit ?_ | refine then_ret ?_ | refine in_n ?_ | refine in_ret ?_ | refine aw_exit ?_ | refine aw_ret ?_ | refine aw_skip ?_ | refine in_exit_eq rfl ?_) | ((with_reducible refine k_move ?_); refine rl_pure (pv_move rfl) rfl rfl rfl ?_) | ((with_reducible refine k_assign ?_); refine rl_pure (pv_assign rfl) rfl rfl rfl ?_) | ((with_reducible refine k_box ?_); refine rl_op rfl (op_box rfl (V.okc_or (by rfl)) rfl fun b => ?_)) | ((with_reducible refine k_build ?_); refine rl_pure (pv_build rfl by_fill) rfl rfl rfl ?_))
  refine aw_iter (α := Nat × Nat × Int × M × Bool) (fun q => [(0, .ro (L.map Ins.cells)), (8, .raw (.pointer (some ⟨b, 0, none⟩))), (9, int q.2.2.1), (10, int q.2.1)])
    (fun q => [rbox b real data q.2.2.2.1 q.2.2.2.2])
    (fun q => (0 ≤ q.2.2.1 ∧ q.2.2.1 ≤ q.2.1 ∧ q.2.1 ≤ L.length) ∧
      ((q.2.2.2.1.dead = false ∧ q.2.2.2.2 = false ∧ q.2.1 < L.length ∧ MOk q.2.2.2.1 ∧ L.length - q.2.1 ≤ q.1 ∧ runL real data L L.length 0 1 M0 = runL real data L q.1 q.2.1 (q.2.2.1 + 1) q.2.2.2.1) ∨
       (q.2.2.2.1.dead = true ∧ runL real data L L.length 0 1 M0 = (q.2.2.2.2, q.2.2.1))))
    (fun q => if q.2.2.2.1.dead then 0 else 1 + (L.length - q.2.1)) (L.length, 0, 0, M0, false) ⟨by show (0 : Int) ≤ 0 ∧ (0 : Int) ≤ ((0 : Nat) : Int) ∧ 0 ≤ L.length; omega, .inl ⟨rfl, rfl, by show 0 < L.length; omega, m0_ok, by show L.length - 0 ≤ L.length; omega, rfl⟩⟩ (by (repeat (first | exact sub_nil | refine sub_cons (by first | rfl | (simp; done)) ?_))) (.cons .here .nil) fun q hI => ?_
  obtain ⟨fuel, at_, n, m, tk⟩ := q
  dsimp only at hI ⊢
  obtain ⟨hn, ⟨hdead, rfl, hat, hm, hfu, hrun⟩ | ⟨hdead, hrun⟩⟩ := hI
  · have hnd : (!m.dead) = true := by simp [hdead]
    obtain ⟨fuel, rfl⟩ : ∃ f, fuel = f + 1 := ⟨fuel - 1, by omega⟩
    obtain ⟨i, hi⟩ : ∃ i, L[at_]? = some i := ⟨_, List.getElem?_eq_getElem hat⟩
    have hr : (L.map Ins.cells)[at_]? = some i.cells := by simp [hi]
    have hs := hL.safe at_ i hi
    simp only [Safe] at hs
    have hlst : i.op ≠ 32 → at_ + 1 < L.length := fun h => by
      rcases Nat.lt_or_ge (at_ + 1) L.length with h1 | h1
      · exact h1
      · exact absurd (hL.last i (by rw [← hi]; congr 1; omega)) h
    simp only [runL, hi] at hrun
    have hst := step42 i (by omega) b real data i.k i.t i.f m false hd hdl hm ⟨by omega, by omega⟩ (by omega)
    have cls : i.op = 32 ∨ i.op = 31 ∨ (25 ≤ i.op ∧ i.op ≤ 30) ∨ (0 ≤ i.op ∧ i.op ≤ 33 ∧ ¬ (25 ≤ i.op ∧ i.op ≤ 32)) := by omega
    rcases cls with ho | ho | ho | ho
    · rw [if_pos ho] at hrun
      have hstep : stepR real data ⟨i.op, i.k, i.t, i.f⟩ m false = (0, { m with dead := true }, decide (i.k ≠ 0)) := by rw [stepR, if_pos ho]
      rw [hstep] at hst
      repeat' (first | (with_reducible first | refine aw_seq ?_ | refine rl_nil ?_ | refine aw_region ?_ | refine then_n ?_ | refine aw_block ?_ | refine then_exit ?_ | refine then_ret ?_ | refine in_n ?_ | refine in_ret ?_ | refine aw_exit ?_ | refine aw_ret ?_ | refine aw_skip ?_ | refine in_exit_eq rfl ?_) | ((with_reducible refine k_move ?_); refine rl_pure (pv_move rfl) rfl rfl rfl ?_) | ((with_reducible refine k_assign ?_); refine rl_pure (pv_assign rfl) rfl rfl rfl ?_) | ((with_reducible refine k_load ?_); (first | refine rl_val (vv_load_ro_whole (by rfl) (by rfl) (by first | rfl | exact ins_len _)) rfl rfl rfl ?_ | refine rl_val (vv_load_box (by rfl) by_memb (by rfl) by_bd) rfl rfl rfl ?_)) | ((with_reducible refine k_fieldAddr ?_); refine rl_pure (pv_fieldAddr rfl) rfl rfl rfl ?_) | ((with_reducible refine k_lss ?_); refine rl_pure (pv_lss rfl rfl) rfl rfl rfl ?_) | ((with_reducible refine k_add ?_); refine rl_pure (pv_add_in rfl rfl (by omega)) rfl rfl rfl ?_) | ((with_reducible refine k_not ?_); refine rl_pure (pv_not rfl) rfl rfl rfl ?_) | ((with_reducible refine k_len ?_); refine rl_pure (pv_len_ro' (by rfl) by_len) rfl rfl rfl ?_) | ((with_reducible refine k_indexAddr ?_); refine rl_pure (pv_indexAddr_ro (by rfl) rfl (by omega) (by first | rfl | assumption) (by first | rfl | exact ins_len _)) rfl rfl rfl ?_) | ((with_reducible refine k_nilCheck ?_); refine rl_pure (pv_nilCheck rfl) rfl rfl rfl ?_) | ((with_reducible refine k_pick ?_); refine rl_pure (pv_pick_t rfl by_bd rfl) rfl rfl rfl ?_) | ((with_reducible refine k_guard ?_); refine rl_on_yes rfl rfl rfl by_bd rfl ?_) | ((with_reducible refine k_cond ?_); refine aw_cond_yes rfl (by assumption) ?_) | (((with_reducible refine k_guard ?_); first | refine rl_if_t rfl rfl rfl rfl ?_ ?_ | refine rl_if_f rfl rfl rfl rfl ?_ ?_) <;> intro hb <;> (have hc := hb) <;> (try simp only [decide_eq_true_eq, decide_eq_false_iff_not, Int.not_lt, Int.not_le, ne_eq, Bool.not_eq_true, Bool.not_eq_false, Decidable.not_not] at hc) <;> (try (exfalso; omega)) <;> (try (first | contradiction | (cases hc; done)))))
      (first | refine rl_op rfl (op_callR rfl rfl (.cons .here .nil) hst rfl ?_) | refine dl_op (by assumption) by_wants (op_callR rfl rfl (.cons .here .nil) hst rfl ?_))
      rintro _ _ ⟨rfl, rfl⟩
      repeat' (first | (with_reducible first | refine aw_seq ?_ | refine rl_nil ?_ | refine aw_region ?_ | refine then_n ?_ | refine aw_block ?_ | refine then_exit ?_ | refine then_ret ?_ | refine in_n ?_ | refine in_ret ?_ | refine aw_exit ?_ | refine aw_ret ?_ | refine aw_skip ?_ | refine in_exit_eq rfl ?_) | ((with_reducible refine k_assign ?_); refine rl_pure (pv_assign rfl) rfl rfl rfl ?_) | ((with_reducible refine k_add ?_); refine rl_pure (pv_add_in rfl rfl (by omega)) rfl rfl rfl ?_))
      have e : ((at_ + 1 : Nat) : Int) = (at_ : Int) + (1 + 0) := by omega
      refine next_of (fuel, at_ + 1, n + 1, { m with dead := true }, decide (i.k ≠ 0)) ⟨by show 0 ≤ n + 1 ∧ n + 1 ≤ ((at_ + 1 : Nat) : Int) ∧ at_ + 1 ≤ L.length; omega, .inr ⟨rfl, hrun⟩⟩ (by simp only [hdead, Bool.false_eq_true, if_false, if_true]; omega) ?_ (.cons .here .nil)
      dsimp only
      rw [e]
      (repeat (first | exact sub_nil | refine sub_cons (by first | rfl | (simp; done)) ?_))
    · rw [if_neg (by omega), if_pos ho] at hrun
      have hstep : stepR real data ⟨i.op, i.k, i.t, i.f⟩ m false = (i.k, m, false) := by rw [stepR, if_neg (by show ¬ i.op = 32; omega), if_pos ho]
      rw [hstep] at hst
      repeat' (first | (with_reducible first | refine aw_seq ?_ | refine rl_nil ?_ | refine aw_region ?_ | refine then_n ?_ | refine aw_block ?_ | refine then_exit ?_ | refine then_ret ?_ | refine in_n ?_ | refine in_ret ?_ | refine aw_exit ?_ | refine aw_ret ?_ | refine aw_skip ?_ | refine in_exit_eq rfl ?_) | ((with_reducible refine k_move ?_); refine rl_pure (pv_move rfl) rfl rfl rfl ?_) | ((with_reducible refine k_assign ?_); refine rl_pure (pv_assign rfl) rfl rfl rfl ?_) | ((with_reducible refine k_load ?_); (first | refine rl_val (vv_load_ro_whole (by rfl) (by rfl) (by first | rfl | exact ins_len _)) rfl rfl rfl ?_ | refine rl_val (vv_load_box (by rfl) by_memb (by rfl) by_bd) rfl rfl rfl ?_)) | ((with_reducible refine k_fieldAddr ?_); refine rl_pure (pv_fieldAddr rfl) rfl rfl rfl ?_) | ((with_reducible refine k_lss ?_); refine rl_pure (pv_lss rfl rfl) rfl rfl rfl ?_) | ((with_reducible refine k_add ?_); refine rl_pure (pv_add_in rfl rfl (by omega)) rfl rfl rfl ?_) | ((with_reducible refine k_not ?_); refine rl_pure (pv_not rfl) rfl rfl rfl ?_) | ((with_reducible refine k_len ?_); refine rl_pure (pv_len_ro' (by rfl) by_len) rfl rfl rfl ?_) | ((with_reducible refine k_indexAddr ?_); refine rl_pure (pv_indexAddr_ro (by rfl) rfl (by omega) (by first | rfl | assumption) (by first | rfl | exact ins_len _)) rfl rfl rfl ?_) | ((with_reducible refine k_nilCheck ?_); refine rl_pure (pv_nilCheck rfl) rfl rfl rfl ?_) | ((with_reducible refine k_pick ?_); refine rl_pure (pv_pick_t rfl by_bd rfl) rfl rfl rfl ?_) | ((with_reducible refine k_guard ?_); refine rl_on_yes rfl rfl rfl by_bd rfl ?_) | ((with_reducible refine k_cond ?_); refine aw_cond_yes rfl (by assumption) ?_) | (((with_reducible refine k_guard ?_); first | refine rl_if_t rfl rfl rfl rfl ?_ ?_ | refine rl_if_f rfl rfl rfl rfl ?_ ?_) <;> intro hb <;> (have hc := hb) <;> (try simp only [decide_eq_true_eq, decide_eq_false_iff_not, Int.not_lt, Int.not_le, ne_eq, Bool.not_eq_true, Bool.not_eq_false, Decidable.not_not] at hc) <;> (try (exfalso; omega)) <;> (try (first | contradiction | (cases hc; done)))))
      (first | refine rl_op rfl (op_callR rfl rfl (.cons .here .nil) hst rfl ?_) | refine dl_op (by assumption) by_wants (op_callR rfl rfl (.cons .here .nil) hst rfl ?_))
      rintro _ _ ⟨rfl, rfl⟩
      repeat' (first | (with_reducible first | refine aw_seq ?_ | refine rl_nil ?_ | refine aw_region ?_ | refine then_n ?_ | refine aw_block ?_ | refine then_exit ?_ | refine then_ret ?_ | refine in_n ?_ | refine in_ret ?_ | refine aw_exit ?_ | refine aw_ret ?_ | refine aw_skip ?_ | refine in_exit_eq rfl ?_) | ((with_reducible refine k_assign ?_); refine rl_pure (pv_assign rfl) rfl rfl rfl ?_) | ((with_reducible refine k_add ?_); refine rl_pure (pv_add_in rfl rfl (by omega)) rfl rfl rfl ?_))
      have e : ((at_ + i.k.toNat + 1 : Nat) : Int) = (at_ : Int) + (1 + i.k) := by omega
      refine next_of (fuel, at_ + i.k.toNat + 1, n + 1, m, false) ⟨by show 0 ≤ n + 1 ∧ n + 1 ≤ ((at_ + i.k.toNat + 1 : Nat) : Int) ∧ at_ + i.k.toNat + 1 ≤ L.length; omega, .inl ⟨hdead, rfl, by show at_ + i.k.toNat + 1 < L.length; omega, hm, by show L.length - (at_ + i.k.toNat + 1) ≤ fuel; omega, hrun⟩⟩ (by simp only [hdead, Bool.false_eq_true, if_false]; omega) ?_ (.cons .here .nil)
      dsimp only
      rw [e]
      (repeat (first | exact sub_nil | refine sub_cons (by first | rfl | (simp; done)) ?_))
    · rw [if_neg (by omega), if_neg (by omega), if_pos ho] at hrun
      have hstep : stepR real data ⟨i.op, i.k, i.t, i.f⟩ m false = (if jmp i m then i.t else i.f, m, false) := by rw [stepR, if_neg (by show ¬ i.op = 32; omega), if_neg (by show ¬ i.op = 31; omega), if_pos ho]
      rw [hstep] at hst
      have hq : 0 ≤ (if jmp i m then i.t else i.f) ∧ (if jmp i m then i.t else i.f) < L.length - at_ - 1 := by split <;> omega
      generalize (if jmp i m then i.t else i.f) = q at hst hq hrun
      repeat' (first | (with_reducible first | refine aw_seq ?_ | refine rl_nil ?_ | refine aw_region ?_ | refine then_n ?_ | refine aw_block ?_ | refine then_exit ?_ | refine then_ret ?_ | refine in_n ?_ | refine in_ret ?_ | refine aw_exit ?_ | refine aw_ret ?_ | refine aw_skip ?_ | refine in_exit_eq rfl ?_) | ((with_reducible refine k_move ?_); refine rl_pure (pv_move rfl) rfl rfl rfl ?_) | ((with_reducible refine k_assign ?_); refine rl_pure (pv_assign rfl) rfl rfl rfl ?_) | ((with_reducible refine k_load ?_); (first | refine rl_val (vv_load_ro_whole (by rfl) (by rfl) (by first | rfl | exact ins_len _)) rfl rfl rfl ?_ | refine rl_val (vv_load_box (by rfl) by_memb (by rfl) by_bd) rfl rfl rfl ?_)) | ((with_reducible refine k_fieldAddr ?_); refine rl_pure (pv_fieldAddr rfl) rfl rfl rfl ?_) | ((with_reducible refine k_lss ?_); refine rl_pure (pv_lss rfl rfl) rfl rfl rfl ?_) | ((with_reducible refine k_add ?_); refine rl_pure (pv_add_in rfl rfl (by omega)) rfl rfl rfl ?_) | ((with_reducible refine k_not ?_); refine rl_pure (pv_not rfl) rfl rfl rfl ?_) | ((with_reducible refine k_len ?_); refine rl_pure (pv_len_ro' (by rfl) by_len) rfl rfl rfl ?_) | ((with_reducible refine k_indexAddr ?_); refine rl_pure (pv_indexAddr_ro (by rfl) rfl (by omega) (by first | rfl | assumption) (by first | rfl | exact ins_len _)) rfl rfl rfl ?_) | ((with_reducible refine k_nilCheck ?_); refine rl_pure (pv_nilCheck rfl) rfl rfl rfl ?_) | ((with_reducible refine k_pick ?_); refine rl_pure (pv_pick_t rfl by_bd rfl) rfl rfl rfl ?_) | ((with_reducible refine k_guard ?_); refine rl_on_yes rfl rfl rfl by_bd rfl ?_) | ((with_reducible refine k_cond ?_); refine aw_cond_yes rfl (by assumption) ?_) | (((with_reducible refine k_guard ?_); first | refine rl_if_t rfl rfl rfl rfl ?_ ?_ | refine rl_if_f rfl rfl rfl rfl ?_ ?_) <;> intro hb <;> (have hc := hb) <;> (try simp only [decide_eq_true_eq, decide_eq_false_iff_not, Int.not_lt, Int.not_le, ne_eq, Bool.not_eq_true, Bool.not_eq_false, Decidable.not_not] at hc) <;> (try (exfalso; omega)) <;> (try (first | contradiction | (cases hc; done)))))
      (first | refine rl_op rfl (op_callR rfl rfl (.cons .here .nil) hst rfl ?_) | refine dl_op (by assumption) by_wants (op_callR rfl rfl (.cons .here .nil) hst rfl ?_))
      rintro _ _ ⟨rfl, rfl⟩
      repeat' (first | (with_reducible first | refine aw_seq ?_ | refine rl_nil ?_ | refine aw_region ?_ | refine then_n ?_ | refine aw_block ?_ | refine then_exit ?_ | refine then_ret ?_ | refine in_n ?_ | refine in_ret ?_ | refine aw_exit ?_ | refine aw_ret ?_ | refine aw_skip ?_ | refine in_exit_eq rfl ?_) | ((with_reducible refine k_assign ?_); refine rl_pure (pv_assign rfl) rfl rfl rfl ?_) | ((with_reducible refine k_add ?_); refine rl_pure (pv_add_in rfl rfl (by omega)) rfl rfl rfl ?_))
      have e : ((at_ + q.toNat + 1 : Nat) : Int) = (at_ : Int) + (1 + q) := by omega
      refine next_of (fuel, at_ + q.toNat + 1, n + 1, m, false) ⟨by show 0 ≤ n + 1 ∧ n + 1 ≤ ((at_ + q.toNat + 1 : Nat) : Int) ∧ at_ + q.toNat + 1 ≤ L.length; omega, .inl ⟨hdead, rfl, by show at_ + q.toNat + 1 < L.length; omega, hm, by show L.length - (at_ + q.toNat + 1) ≤ fuel; omega, hrun⟩⟩ (by simp only [hdead, Bool.false_eq_true, if_false]; omega) ?_ (.cons .here .nil)
      dsimp only
      rw [e]
      (repeat (first | exact sub_nil | refine sub_cons (by first | rfl | (simp; done)) ?_))
    · rw [if_neg (by omega), if_neg (by omega), if_neg (by omega)] at hrun
      have hstep : stepR real data ⟨i.op, i.k, i.t, i.f⟩ m false = (0, exec real data i m, false) := by
        rw [stepR, if_neg (by show ¬ i.op = 32; omega), if_neg (by show ¬ i.op = 31; omega), if_neg (by show ¬ (25 ≤ i.op ∧ i.op ≤ 30); omega)]
        rw [show rexec real data ⟨i.op, i.k, i.t, i.f⟩ m = exec real data i m from rexec_eq (i := i) hd hm ⟨by omega, by omega⟩ ho]
      rw [hstep] at hst
      have hok := exec_ok (real := real) hd (i := i) hm
      have hl1 := hlst (by omega)
      generalize exec real data i m = m' at hst hok hrun
      repeat' (first | (with_reducible first | refine aw_seq ?_ | refine rl_nil ?_ | refine aw_region ?_ | refine then_n ?_ | refine aw_block ?_ | refine then_exit ?_ | refine then_ret ?_ | refine in_n ?_ | refine in_ret ?_ | refine aw_exit ?_ | refine aw_ret ?_ | refine aw_skip ?_ | refine in_exit_eq rfl ?_) | ((with_reducible refine k_move ?_); refine rl_pure (pv_move rfl) rfl rfl rfl ?_) | ((with_reducible refine k_assign ?_); refine rl_pure (pv_assign rfl) rfl rfl rfl ?_) | ((with_reducible refine k_load ?_); (first | refine rl_val (vv_load_ro_whole (by rfl) (by rfl) (by first | rfl | exact ins_len _)) rfl rfl rfl ?_ | refine rl_val (vv_load_box (by rfl) by_memb (by rfl) by_bd) rfl rfl rfl ?_)) | ((with_reducible refine k_fieldAddr ?_); refine rl_pure (pv_fieldAddr rfl) rfl rfl rfl ?_) | ((with_reducible refine k_lss ?_); refine rl_pure (pv_lss rfl rfl) rfl rfl rfl ?_) | ((with_reducible refine k_add ?_); refine rl_pure (pv_add_in rfl rfl (by omega)) rfl rfl rfl ?_) | ((with_reducible refine k_not ?_); refine rl_pure (pv_not rfl) rfl rfl rfl ?_) | ((with_reducible refine k_len ?_); refine rl_pure (pv_len_ro' (by rfl) by_len) rfl rfl rfl ?_) | ((with_reducible refine k_indexAddr ?_); refine rl_pure (pv_indexAddr_ro (by rfl) rfl (by omega) (by first | rfl | assumption) (by first | rfl | exact ins_len _)) rfl rfl rfl ?_) | ((with_reducible refine k_nilCheck ?_); refine rl_pure (pv_nilCheck rfl) rfl rfl rfl ?_) | ((with_reducible refine k_pick ?_); refine rl_pure (pv_pick_t rfl by_bd rfl) rfl rfl rfl ?_) | ((with_reducible refine k_guard ?_); refine rl_on_yes rfl rfl rfl by_bd rfl ?_) | ((with_reducible refine k_cond ?_); refine aw_cond_yes rfl (by assumption) ?_) | (((with_reducible refine k_guard ?_); first | refine rl_if_t rfl rfl rfl rfl ?_ ?_ | refine rl_if_f rfl rfl rfl rfl ?_ ?_) <;> intro hb <;> (have hc := hb) <;> (try simp only [decide_eq_true_eq, decide_eq_false_iff_not, Int.not_lt, Int.not_le, ne_eq, Bool.not_eq_true, Bool.not_eq_false, Decidable.not_not] at hc) <;> (try (exfalso; omega)) <;> (try (first | contradiction | (cases hc; done)))))
      (first | refine rl_op rfl (op_callR rfl rfl (.cons .here .nil) hst rfl ?_) | refine dl_op (by assumption) by_wants (op_callR rfl rfl (.cons .here .nil) hst rfl ?_))
      rintro _ _ ⟨rfl, rfl⟩
      repeat' (first | (with_reducible first | refine aw_seq ?_ | refine rl_nil ?_ | refine aw_region ?_ | refine then_n ?_ | refine aw_block ?_ | refine then_exit ?_ | refine then_ret ?_ | refine in_n ?_ | refine in_ret ?_ | refine aw_exit ?_ | refine aw_ret ?_ | refine aw_skip ?_ | refine in_exit_eq rfl ?_) | ((with_reducible refine k_assign ?_); refine rl_pure (pv_assign rfl) rfl rfl rfl ?_) | ((with_reducible refine k_add ?_); refine rl_pure (pv_add_in rfl rfl (by omega)) rfl rfl rfl ?_))
      have e : ((at_ + 1 : Nat) : Int) = (at_ : Int) + (1 + 0) := by omega
      refine next_of (fuel, at_ + 1, n + 1, m', false) ⟨by show 0 ≤ n + 1 ∧ n + 1 ≤ ((at_ + 1 : Nat) : Int) ∧ at_ + 1 ≤ L.length; omega, ?_⟩ (by simp only [hdead, Bool.false_eq_true, if_false]; split <;> omega) ?_ (.cons .here .nil)
      · cases hdx : m'.dead with
        | true => exact .inr ⟨rfl, by rw [hdx, if_pos rfl] at hrun; exact hrun⟩
        | false => exact .inl ⟨rfl, rfl, by show at_ + 1 < L.length; omega, hok, by show L.length - (at_ + 1) ≤ fuel; omega, by rw [hdx, if_neg (by simp)] at hrun; exact hrun⟩
      · dsimp only
        rw [e]
        (repeat (first | exact sub_nil | refine sub_cons (by first | rfl | (simp; done)) ?_))
  · have hnd : (!m.dead) = false := by simp [hdead]
    repeat' (first | (with_reducible first | refine aw_seq ?_ | refine rl_nil ?_ | refine aw_region ?_ | refine then_n ?_ | refine aw_block ?_ | refine then_exit ?_ | refine then_ret ?_ | refine in_n ?_ | refine in_ret ?_ | refine aw_exit ?_ | refine aw_ret ?_ | refine aw_skip ?_ | refine in_exit_eq rfl ?_) | ((with_reducible refine k_move ?_); refine rl_pure (pv_move rfl) rfl rfl rfl ?_) | ((with_reducible refine k_assign ?_); refine rl_pure (pv_assign rfl) rfl rfl rfl ?_) | ((with_reducible refine k_load ?_); refine rl_val (vv_load_box (by rfl) by_memb (by rfl) by_bd) rfl rfl rfl ?_) | ((with_reducible refine k_fieldAddr ?_); refine rl_pure (pv_fieldAddr rfl) rfl rfl rfl ?_) | ((with_reducible refine k_lss ?_); refine rl_pure (pv_lss rfl rfl) rfl rfl rfl ?_) | ((with_reducible refine k_not ?_); refine rl_pure (pv_not rfl) rfl rfl rfl ?_) | ((with_reducible refine k_len ?_); refine rl_pure (pv_len_ro' (by rfl) by_len) rfl rfl rfl ?_) | ((with_reducible refine k_nilCheck ?_); refine rl_pure (pv_nilCheck rfl) rfl rfl rfl ?_) | ((with_reducible refine k_pick ?_); (first | refine rl_pure (pv_pick_t rfl by_bd rfl) rfl rfl rfl ?_ | refine rl_pure (pv_pick_f rfl by_bd rfl) rfl rfl rfl ?_)) | ((with_reducible refine k_guard ?_); (first | refine rl_on_yes rfl rfl rfl by_bd rfl ?_ | refine rl_off_t rfl rfl rfl by_bd rfl ?_)) | ((with_reducible refine k_cond ?_); (first | refine aw_cond_f rfl ?_ | refine aw_cond_no rfl (by assumption) ?_)) | (((with_reducible refine k_guard ?_); first | refine rl_if_t rfl rfl rfl rfl ?_ ?_ | refine rl_if_f rfl rfl rfl rfl ?_ ?_) <;> intro hb <;> (have hc := hb) <;> (try simp only [decide_eq_true_eq, decide_eq_false_iff_not, Int.not_lt, Int.not_le, ne_eq, Bool.not_eq_true, Bool.not_eq_false, Decidable.not_not] at hc) <;> (try (exfalso; omega)) <;> (try (first | contradiction | (cases hc; done)))))
    all_goals
      (first | refine ret_r (ret2 rfl by_res by_res (List.nil_sublist _) ⟨_, rfl, ?_⟩) | refine ret_n (ret2 rfl by_res by_res (List.nil_sublist _) ⟨_, rfl, ?_⟩))
      rw [hrun]
      exact ⟨rfl, rfl⟩
end Go.Proofs.Ytobablbklkpchaa
