import Derived.Test.YtobablbklkpchaaK35
import Derived.Test.YtobablbklkpchaaK15
import Derived.Test.YtobablbklkpchaaRows
set_option linter.unusedVariables false
set_option linter.unusedSimpArgs false
namespace Go.Proofs.Ytobablbklkpchaa
open Go Go.AX
set_option maxHeartbeats 8000000
set_option maxRecDepth 20000
attribute [local irreducible] AW RL OP PureV ValV HV DL Tri TriR Fun RetOk ResV
theorem bulk_pos {H : Type} (d : DataW H) : 1 ≤ Rows.uptoBulk d := by
  cases d with
  | lit l => cases l <;> simp [Rows.uptoBulk]
  | _ => simp [Rows.uptoBulk]
theorem bulk_len {H : Type} : ∀ l : List (DataW H), l.length ≤ Rows.uptoBulkAll l
  | [] => by simp
  | d :: l => by
    have := bulk_pos d
    have := bulk_len l
    simp only [List.length_cons, Rows.uptoBulkAll]
    omega
theorem len_bulk {H : Type} {ds spare : List (DataW H)} {rows : List (List V)} {d : DataW H} (hl : ds.length = rows.length) (hd : (d = .nil ∧ rows = []) ∨ d = .slice ds spare) : rows.length ≤ Rows.uptoBulk d := by
  rcases hd with ⟨rfl, rfl⟩ | rfl
  · simp
  · have := bulk_len ds
    simp only [Rows.uptoBulk]
    omega
theorem bad_all (len : Int) : ∀ (l : List Ins) (n : Nat), (∀ (q : Nat) i, l[q]? = some i → Safe i (n + q : Nat) len) → bad len l n = none
  | [], _, _ => rfl
  | x :: l, n, h => by
    rw [bad, if_pos (by simpa using h 0 x rfl)]
    refine bad_all len l (n + 1) fun q i hi => ?_
    have := h (q + 1) i (by simpa using hi)
    rwa [show n + (q + 1) = n + 1 + q by omega] at this
theorem code_chk {L : List Ins} (h : Code_ L) : chk L = (0, 0) := by
  have hl := h.len
  rw [chk, if_neg (by omega), bad_all _ L 0 (fun q i hi => by simpa using h.safe q i hi)]
  dsimp only
  split
  · rename_i y hy
    rw [if_pos (h.last y hy)]
  · rfl
theorem shortens5 (L : List Ins) (data : List Int) (hd : Bytes data) (h1 : L.length ≤ 1048576) (h2 : data.length ≤ 1048576) :
    Fun Try.prog 5 [.ro (L.map Ins.cells), .ro (data.map brow)] (bool true) := by
  have hk := known7
  have g1 := optimise14 L
  have g2 := check9 L
  by_cases h0 : (chk L).2 = 0
  · have hL := chk_code h0
    obtain ⟨p1, p2, p3, p4⟩ := optL_all _ L hL (Nat.lt_succ_self _)
    have e0 : optP L = optL L := by rw [optP, if_pos h0]
    have hr := opt_run hL data.length data
    have hf := fix_reached p1 p2
    have hoo := optL_opt hL
    rw [e0, h0] at g1
    rw [h0] at g2
    generalize optL L = O at *
    have hO := code_chk p1
    have g3 := check9 O
    have g4 := blocks15 O
    have g5 := reach16 O
    have g6 := optimise14 O
    have g7 := same18 O O (.inl p1.len.2)
    rw [hO] at g3 g4 g5 g6
    have eO : optP O = O := by rw [optP, if_pos (by rw [hO]), hoo]
    have eB : blkP O = blks_ O := by rw [blkP, if_pos (by rw [hO])]
    have eR : rchP O = rchL O := by rw [rchP, if_pos (by rw [hO])]
    rw [eO] at g6
    rw [eB] at g4
    rw [eR] at g5
    rw [show decide (O = O) = true by simp] at g7
    refine Fun.of (TriR.of (tri_of Try.func5 rfl Try.ntmps5 rfl fun j => ?_))
    repeat' (first | (with_reducible first | refine aw_seq ?_ | refine rl_nil ?_ | refine aw_region ?_ | refine then_n ?_ | refine aw_block ?_ | refine then_exit ?_ | refine then_ret ?_ | refine in_n ?_ | refine in_ret ?_ | refine aw_exit ?_ | refine aw_ret ?_ | refine aw_skip ?_ | refine in_exit_eq rfl ?_) | ((with_reducible refine k_move ?_); refine rl_pure (pv_move rfl) rfl rfl rfl ?_) | ((with_reducible refine k_assign ?_); refine rl_pure (pv_assign rfl) rfl rfl rfl ?_) | ((with_reducible refine k_gtr ?_); refine rl_pure (pv_gtr rfl rfl) rfl rfl rfl ?_) | ((with_reducible refine k_add ?_); refine rl_pure (pv_add_in rfl rfl (by omega)) rfl rfl rfl ?_) | ((with_reducible refine k_len ?_); refine rl_pure (pv_len_ro' (by rfl) by_len) rfl rfl rfl ?_) | ((with_reducible refine k_callv ?_); refine rl_op rfl (op_callF rfl rfl (hk) rfl ?_)) | (((with_reducible refine k_cond ?_); refine aw_cond rfl ?_ ?_) <;> intro hb <;> (have hc := hb) <;> (try simp only [decide_eq_true_eq, decide_eq_false_iff_not, Int.not_lt, Int.not_le, ne_eq, Bool.not_eq_true, Bool.not_eq_false, Decidable.not_not] at hc) <;> (try (exfalso; omega)) <;> (try (first | contradiction | (cases hc; done)))))
    · (first | refine ret_r (ret1 rfl by_res (List.nil_sublist _) ⟨_, rfl, ?_⟩) | refine ret_n (ret1 rfl by_res (List.nil_sublist _) ⟨_, rfl, ?_⟩))
      exact ⟨rfl, rfl⟩
    have hlen : (L.length : Int) + data.length ≤ 20000 := by omega
    have g8 := Fun.of (done17 data.length data L hL hd (by omega) (by omega))
    have g9 := Fun.of (done17 data.length data O p1 hd (by omega) (by omega))
    repeat' (first | (with_reducible first | refine aw_seq ?_ | refine rl_nil ?_ | refine aw_region ?_ | refine then_n ?_ | refine aw_block ?_ | refine then_exit ?_ | refine then_ret ?_ | refine in_n ?_ | refine in_ret ?_ | refine aw_exit ?_ | refine aw_ret ?_ | refine aw_skip ?_ | refine in_exit_eq rfl ?_) | ((with_reducible refine k_move ?_); refine rl_pure (pv_move rfl) rfl rfl rfl ?_) | ((with_reducible refine k_assign ?_); refine rl_pure (pv_assign rfl) rfl rfl rfl ?_) | ((with_reducible refine k_eql ?_); (first | refine rl_pure (pv_eql rfl rfl) rfl rfl rfl ?_ | refine rl_pure (pv_bool_eql rfl rfl) rfl rfl rfl ?_)) | ((with_reducible refine k_neq ?_); refine rl_pure (pv_neq rfl rfl) rfl rfl rfl ?_) | ((with_reducible refine k_leq ?_); refine rl_pure (pv_leq rfl rfl) rfl rfl rfl ?_) | ((with_reducible refine k_gtr ?_); refine rl_pure (pv_gtr rfl rfl) rfl rfl rfl ?_) | ((with_reducible refine k_extract ?_); refine rl_pure (pv_extract rfl rfl) rfl rfl rfl ?_) | ((with_reducible refine k_len ?_); refine rl_pure (pv_len_ro' (by rfl) by_len) rfl rfl rfl ?_) | ((with_reducible refine k_pick ?_); (first | refine rl_pure (pv_pick_t rfl by_bd rfl) rfl rfl rfl ?_ | refine rl_pure (pv_pick_f rfl by_bd rfl) rfl rfl rfl ?_)) | ((with_reducible refine k_guard ?_); (first | refine rl_on_yes rfl rfl rfl by_bd rfl ?_ | refine rl_off_t rfl rfl rfl by_bd rfl ?_)) | ((with_reducible refine k_cond ?_); refine aw_cond_f rfl ?_) | ((with_reducible refine k_callv ?_); (first | refine rl_op rfl (op_callF rfl rfl (hk) rfl ?_) | refine rl_op rfl (op_callF rfl rfl (g1) rfl ?_) | refine rl_op rfl (op_callF rfl rfl (g2) rfl ?_) | refine rl_op rfl (op_callF rfl rfl (g3) rfl ?_) | refine rl_op rfl (op_callF rfl rfl (g4) rfl ?_) | refine rl_op rfl (op_callF rfl rfl (g5) rfl ?_) | refine rl_op rfl (op_callF rfl rfl (g6) rfl ?_) | refine rl_op rfl (op_callF rfl rfl (g7) rfl ?_) | refine rl_op rfl (op_callF rfl rfl (g8) rfl ?_) | refine rl_op rfl (op_callF rfl rfl (g9) rfl ?_))) | (((with_reducible refine k_guard ?_); first | refine rl_if_t rfl rfl rfl rfl ?_ ?_ | refine rl_if_f rfl rfl rfl rfl ?_ ?_) <;> intro hb <;> (have hc := hb) <;> (try simp only [decide_eq_true_eq, decide_eq_false_iff_not, Int.not_lt, Int.not_le, ne_eq, Bool.not_eq_true, Bool.not_eq_false, Decidable.not_not] at hc) <;> (try (exfalso; omega)) <;> (try (first | contradiction | (cases hc; done)))) | (((with_reducible refine k_cond ?_); refine aw_cond rfl ?_ ?_) <;> intro hb <;> (have hc := hb) <;> (try simp only [decide_eq_true_eq, decide_eq_false_iff_not, Int.not_lt, Int.not_le, ne_eq, Bool.not_eq_true, Bool.not_eq_false, Decidable.not_not] at hc) <;> (try (exfalso; omega)) <;> (try (first | contradiction | (cases hc; done)))))
    all_goals first
    | (exfalso; simp at hb; done)
    | ((first | refine ret_r (ret1 rfl by_res (List.nil_sublist _) ⟨_, rfl, ?_⟩) | refine ret_n (ret1 rfl by_res (List.nil_sublist _) ⟨_, rfl, ?_⟩))
       exact ⟨rfl, rfl⟩)
    | (exfalso; rw [hr.1] at hb; simp at hb; done)
  · have eO : optP L = [] := by rw [optP, if_neg h0]
    rw [eO] at g1
    refine Fun.of (TriR.of (tri_of Try.func5 rfl Try.ntmps5 rfl fun j => ?_))
    repeat' (first | (with_reducible first | refine aw_seq ?_ | refine rl_nil ?_ | refine aw_region ?_ | refine then_n ?_ | refine aw_block ?_ | refine then_exit ?_ | refine then_ret ?_ | refine in_n ?_ | refine in_ret ?_ | refine aw_exit ?_ | refine aw_ret ?_ | refine aw_skip ?_ | refine in_exit_eq rfl ?_) | ((with_reducible refine k_move ?_); refine rl_pure (pv_move rfl) rfl rfl rfl ?_) | ((with_reducible refine k_assign ?_); refine rl_pure (pv_assign rfl) rfl rfl rfl ?_) | ((with_reducible refine k_eql ?_); refine rl_pure (pv_eql rfl rfl) rfl rfl rfl ?_) | ((with_reducible refine k_neq ?_); refine rl_pure (pv_neq rfl rfl) rfl rfl rfl ?_) | ((with_reducible refine k_gtr ?_); refine rl_pure (pv_gtr rfl rfl) rfl rfl rfl ?_) | ((with_reducible refine k_add ?_); refine rl_pure (pv_add_in rfl rfl (by omega)) rfl rfl rfl ?_) | ((with_reducible refine k_extract ?_); refine rl_pure (pv_extract rfl rfl) rfl rfl rfl ?_) | ((with_reducible refine k_len ?_); refine rl_pure (pv_len_ro' (by rfl) by_len) rfl rfl rfl ?_) | ((with_reducible refine k_pick ?_); refine rl_pure (pv_pick_t rfl by_bd rfl) rfl rfl rfl ?_) | ((with_reducible refine k_guard ?_); refine rl_on_yes rfl rfl rfl by_bd rfl ?_) | ((with_reducible refine k_callv ?_); (first | refine rl_op rfl (op_callF rfl rfl (hk) rfl ?_) | refine rl_op rfl (op_callF rfl rfl (g1) rfl ?_) | refine rl_op rfl (op_callF rfl rfl (g2) rfl ?_))) | (((with_reducible refine k_guard ?_); first | refine rl_if_t rfl rfl rfl rfl ?_ ?_ | refine rl_if_f rfl rfl rfl rfl ?_ ?_) <;> intro hb <;> (have hc := hb) <;> (try simp only [decide_eq_true_eq, decide_eq_false_iff_not, Int.not_lt, Int.not_le, ne_eq, Bool.not_eq_true, Bool.not_eq_false, Decidable.not_not] at hc) <;> (try (exfalso; omega)) <;> (try (first | contradiction | (cases hc; done)))) | (((with_reducible refine k_cond ?_); refine aw_cond rfl ?_ ?_) <;> intro hb <;> (have hc := hb) <;> (try simp only [decide_eq_true_eq, decide_eq_false_iff_not, Int.not_lt, Int.not_le, ne_eq, Bool.not_eq_true, Bool.not_eq_false, Decidable.not_not] at hc) <;> (try (exfalso; omega)) <;> (try (first | contradiction | (cases hc; done)))))
    all_goals first
    | (exfalso; simp at hb; done)
    | ((first | refine ret_r (ret1 rfl by_res (List.nil_sublist _) ⟨_, rfl, ?_⟩) | refine ret_n (ret1 rfl by_res (List.nil_sublist _) ⟨_, rfl, ?_⟩))
       exact ⟨rfl, rfl⟩)
section
variable {H : Type} {enc : TypeId × Value → H} {w : World}
theorem rdCodeB {fuel : Nat} {cs : List Value} {d : DataW H} {ps : List MemPlace} (h : DataW.trod enc Try.prog w 0 (fun _ => true) true fuel 22 cs = some (d, ps)) : ∃ L : List Ins, L.length ≤ Rows.uptoBulk d ∧ Rdg w cs [.ro (L.map Ins.cells)] := by
  obtain ⟨rows, ds, spare, hr, hl, hre, _, _, hd⟩ := rd_slice (Re := fun _ r => ∃ i : Ins, r = i.cells ∧ True) Try.underlying22 (by rw [e50]; decide) h fun d' _ fuel cs ps h' => by
    obtain ⟨i, q⟩ := rdIns h'
    exact ⟨_, ⟨i, rfl, trivial⟩, q⟩
  have hb := len_bulk hl hd
  obtain ⟨L, rfl, _⟩ := rows_of fun r hm => let ⟨_, q⟩ := rows_re hl hre r hm; q
  exact ⟨L, by simpa using hb, hr⟩
theorem rdBytesB {fuel : Nat} {cs : List Value} {d : DataW H} {ps : List MemPlace} (h : DataW.trod enc Try.prog w 0 (fun _ => true) true fuel 23 cs = some (d, ps)) : ∃ L : List Int, (Bytes L ∧ L.length ≤ Rows.uptoBulk d) ∧ Rdg w cs [.ro (L.map brow)] := by
  obtain ⟨rows, ds, spare, hr, hl, hre, _, _, hd⟩ := rd_slice (Re := fun _ r => ∃ b : Int, r = brow b ∧ 0 ≤ b ∧ b ≤ 255) Try.underlying23 (by rw [e5]; decide) h fun d' _ fuel cs ps h' => by
    obtain ⟨b, hw, _, q⟩ := rd_int Try.underlying5 h'
    refine ⟨_, ⟨b, rfl, ?_⟩, q⟩
    have e1 : IntKind.u8.min = 0 := by decide
    have e2 : IntKind.u8.max = 255 := by decide
    simp [Lit.wf, e1, e2] at hw
    omega
  have hb2 := len_bulk hl hd
  obtain ⟨L, rfl, hb⟩ := rows_of fun r hm => let ⟨_, q⟩ := rows_re hl hre r hm; q
  exact ⟨L, ⟨hb, by simpa using hb2⟩, hr⟩
end
end Go.Proofs.Ytobablbklkpchaa
