import Derived.Test.YtobablbklkpchaaK24
set_option linter.unusedVariables false
set_option linter.unusedSimpArgs false
namespace Go.Proofs.Ytobablbklkpchaa
open Go Go.AX
set_option maxHeartbeats 8000000
set_option maxRecDepth 20000
attribute [local irreducible] AW RL OP PureV ValV HV DL Tri TriR Fun RetOk ResV
def setR (l : List Nd) (q : Nat) : List Nd := match l[q]? with
  | some n => l.set q { n with rb := true }
  | none => l
theorem setR_len (l : List Nd) (q : Nat) : (setR l q).length = l.length := by
  unfold setR; split
  · exact List.length_set
  · rfl
/-- A step of the marking. -/
def mkS (l : List Nd) (n : Nd) : List Nd :=
  if n.rb = false ∨ n.i.op = 32 then l else if isJp n.i then setR (setR l n.yes.toNat) n.no.toNat else setR l n.yes.toNat
def mkTo (l : List Nd) : Nat → List Nd
  | 0 => setR l 0
  | k + 1 => match (mkTo l k)[k]? with
    | some n => mkS (mkTo l k) n
    | none => mkTo l k
theorem mkS_len (l : List Nd) (n : Nd) : (mkS l n).length = l.length := by
  unfold mkS
  repeat' split
  · rfl
  · rw [setR_len, setR_len]
  · rw [setR_len]
theorem mkTo_len (l : List Nd) : ∀ k, (mkTo l k).length = l.length
  | 0 => setR_len l 0
  | k + 1 => by
    rw [mkTo]
    split
    · rw [mkS_len, mkTo_len l k]
    · exact mkTo_len l k
theorem setR_get (l : List Nd) (q k : Nat) : (setR l q)[k]? = if q = k then l[k]?.map fun n => { n with rb := true } else l[k]? := by
  unfold setR
  split
  · rename_i n hn
    rw [List.getElem?_set]
    split
    · rename_i e
      subst e
      rw [hn, if_pos (List.getElem?_eq_some_iff.1 hn).1]
      rfl
    · rfl
  · rename_i hn
    split
    · rename_i e; subst e; rw [hn]; rfl
    · rfl
theorem setR_ok {l : List Nd} (hN : NOK l) (q : Nat) : NOK (setR l q) := by
  refine ⟨fun k n hn => ?_, fun k n hn ho => ?_⟩
  · rw [setR_get] at hn
    split at hn
    · cases hk : l[k]? with
      | none => rw [hk] at hn; cases hn
      | some m => rw [hk] at hn; cases hn; exact hN.op k m hk
    · exact hN.op k n hn
  · rw [setR_len]
    rw [setR_get] at hn
    split at hn
    · cases hk : l[k]? with
      | none => rw [hk] at hn; cases hn
      | some m => rw [hk] at hn; cases hn; exact hN.fw k m hk ho
    · exact hN.fw k n hn ho
theorem mkS_ok {l : List Nd} (hN : NOK l) (n : Nd) : NOK (mkS l n) := by
  unfold mkS
  repeat' split
  · exact hN
  · exact setR_ok (setR_ok hN _) _
  · exact setR_ok hN _
theorem mkTo_ok {l : List Nd} (hN : NOK l) : ∀ k, NOK (mkTo l k)
  | 0 => setR_ok hN 0
  | k + 1 => by
    rw [mkTo]
    split
    · exact mkS_ok (mkTo_ok hN k) _
    · exact mkTo_ok hN k
theorem st_rb {N : Nat} {j : J Try.prog N} {Q : Exit → Sl → List Ch → Prop} {K : Sl → List Ch → Prop} {s : Sl} {H H' : List Ch} {ty : TypeId} {pos : String} {after : Array Edge} {x y : Operand} {sv : Value} {l : List Nd} {q : Int}
    (hx : s.ev x = some (.vp sv 7 q.toNat 6)) (hy : s.ev y = some (bool true)) (hu : Upd (.vec sv 84 7 (l.map Nd.cells)) (.vec sv 84 7 ((setR l q.toNat).map Nd.cells)) H H') (hq : 0 ≤ q ∧ q < (l.length : Int))
    (h : K s H') : OP j ⟨none, .store 4 x y, ty, pos, after, none⟩ K Q s H := by
  obtain ⟨n, hn⟩ : ∃ n, l[q.toNat]? = some n := ⟨_, List.getElem?_eq_getElem (by omega)⟩
  refine op_store_vp (E := 84) (rows := l.map Nd.cells) (r := n.cells) hx hy (V.okc_or rfl) ?_ (by simp [hn]) rfl (by decide) h
  have e : (l.map Nd.cells).set q.toNat (setAll n.cells 6 (bool true).cells) = (setR l q.toNat).map Nd.cells := by
    simp only [setR, hn]
    rw [List.map_set]
    rfl
  rw [e]
  exact hu
theorem marked36 (sv : Value) (l : List Nd) (hN : NOK l) (hlen : 0 < l.length ∧ l.length ≤ 400) :
    TriR Try.prog 36 [.own sv] [.vec sv 84 7 (l.map Nd.cells)] fun v H' => v = .tup [] ∧ H' = [.vec sv 84 7 ((mkTo l l.length).map Nd.cells)] := by
  refine TriR.of (tri_of Try.func36 rfl Try.ntmps36 rfl fun j => ?_)
  have h0l := setR_len l 0
  repeat' (first | (with_reducible first | refine aw_seq ?_ | refine rl_nil ?_ | refine aw_region ?_ | refine then_n ?_ | refine aw_block ?_ | refine then_exit ?_ | refine then_ret ?_ | refine in_n ?_ | refine in_ret ?_ | refine aw_exit ?_ | refine aw_ret ?_ | refine aw_skip ?_ | refine in_exit_eq rfl ?_) | ((with_reducible refine k_move ?_); refine rl_pure (pv_move rfl) rfl rfl rfl ?_) | ((with_reducible refine k_fieldAddr ?_); refine rl_pure (pv_fieldAddr_vp rfl) rfl rfl rfl ?_) | ((with_reducible refine k_len ?_); refine rl_pure (pv_len_own' (by rfl) by_memb by_len) rfl rfl rfl ?_) | ((with_reducible refine k_indexAddr ?_); refine rl_pure (pv_indexAddr_own (by rfl) by_memb rfl (by first | omega | (simp only [List.length_cons, List.length_nil, List.length_append, List.length_map, List.length_replicate, List.length_set, brs_len]; omega))) rfl rfl rfl ?_) | ((with_reducible refine k_store ?_); refine rl_op rfl (st_rb (by rfl) (by rfl) by_upd by_bound ?_)))
  refine aw_iter (α := Nat) (fun k => [(0, .own sv), (7, .own sv), (8, int l.length), (9, int k)])
    (fun k => [.vec sv 84 7 ((mkTo l k).map Nd.cells)]) (fun k => k ≤ l.length) (fun k => l.length - k)
    0 (Nat.zero_le _) (by rw [← h0l]; (repeat (first | exact sub_nil | refine sub_cons (by first | rfl | (simp; done)) ?_))) (.cons .here .nil) fun k hI => ?_
  rcases Nat.lt_or_ge k l.length with h | h
  · have hL := mkTo_len l k
    have hN1 := mkTo_ok hN k
    obtain ⟨n, hn⟩ : ∃ n, (mkTo l k)[k]? = some n := ⟨_, List.getElem?_eq_getElem (by omega)⟩
    have hS : mkTo l (k + 1) = mkS (mkTo l k) n := by rw [mkTo, hn]
    generalize mkTo l k = m at hL hN1 hn hS
    have hr : (m.map Nd.cells)[k]? = some n.cells := by simp [hn]
    have hfw := hN1.fw k n hn
    have hl1 := setR_len m n.yes.toNat
    have hrb : n.rb = true ∨ n.rb = false := by cases n.rb <;> simp
    have cls : (n.rb = false ∨ n.i.op = 32) ∨ (n.rb = true ∧ n.i.op ≠ 32 ∧ isJp n.i) ∨ (n.rb = true ∧ n.i.op ≠ 32 ∧ ¬ isJp n.i) := by
      simp only [isJp]
      rcases hrb with e | e
      · simp only [e, Bool.true_eq_false, false_or, true_and]; omega
      · simp only [e, true_or]
    simp only [isJp] at cls
    rcases cls with c | ⟨c1, c2, c3⟩ | ⟨c1, c2, c3⟩
    · have e : mkTo l (k + 1) = m := by rw [hS, mkS, if_pos c]
      rcases c with c1 | c2
      · obtain ⟨ni, ny, no, nr⟩ := n
        simp only at c1
        subst c1
        repeat' (first | (with_reducible first | refine aw_seq ?_ | refine rl_nil ?_ | refine aw_region ?_ | refine then_n ?_ | refine aw_block ?_ | refine then_exit ?_ | refine then_ret ?_ | refine in_n ?_ | refine in_ret ?_ | refine aw_exit ?_ | refine aw_ret ?_ | refine aw_skip ?_ | refine in_exit_eq rfl ?_) | ((with_reducible refine k_move ?_); refine rl_pure (pv_move rfl) rfl rfl rfl ?_) | ((with_reducible refine k_assign ?_); refine rl_pure (pv_assign rfl) rfl rfl rfl ?_) | ((with_reducible refine k_load ?_); (first | refine rl_val (vv_load_vp_whole (by rfl) by_memb by_bd (by rfl) (by first | rfl | exact ins_len _ | exact prow_len _ | exact nd_len _)) rfl rfl rfl ?_ | refine rl_val (vv_load_box (by rfl) by_memb (by rfl) by_bd) rfl rfl rfl ?_)) | ((with_reducible refine k_fieldAddr ?_); refine rl_pure (pv_fieldAddr rfl) rfl rfl rfl ?_) | ((with_reducible refine k_store ?_); refine rl_op rfl (op_store_box_whole (by rfl) (by rfl) (V.okc_or (by rfl)) by_upd (by first | rfl | exact ins_len _ | exact prow_len _ | exact nd_len _) (by first | rfl | exact ins_len _ | exact prow_len _ | exact nd_len _) ?_)) | ((with_reducible refine k_alloc ?_); refine rl_op rfl (op_alloc (by decide) rfl fun b => ?_)) | ((with_reducible refine k_lss ?_); refine rl_pure (pv_lss rfl rfl) rfl rfl rfl ?_) | ((with_reducible refine k_add ?_); refine rl_pure (pv_add_in rfl rfl (by omega)) rfl rfl rfl ?_) | ((with_reducible refine k_not ?_); refine rl_pure (pv_not rfl) rfl rfl rfl ?_) | ((with_reducible refine k_indexAddr ?_); refine rl_pure (pv_indexAddr_own (by rfl) by_memb rfl (by first | omega | (simp only [List.length_cons, List.length_nil, List.length_append, List.length_map, List.length_replicate, List.length_set, brs_len]; omega))) rfl rfl rfl ?_) | ((with_reducible refine k_pick ?_); refine rl_pure (pv_pick_t rfl by_bd rfl) rfl rfl rfl ?_) | ((with_reducible refine k_guard ?_); refine rl_off_f rfl rfl rfl by_bd rfl ?_) | ((with_reducible refine k_cond ?_); refine aw_cond_t rfl ?_) | (((with_reducible refine k_cond ?_); refine aw_cond rfl ?_ ?_) <;> intro hb <;> (have hc := hb) <;> (try simp only [decide_eq_true_eq, decide_eq_false_iff_not, Int.not_lt, Int.not_le, ne_eq, Bool.not_eq_true, Bool.not_eq_false, Decidable.not_not] at hc) <;> (try (exfalso; omega)) <;> (try (first | contradiction | (cases hc; done)))))
        exact next_of (R := [_]) (k + 1) h (by omega) (by (repeat (first | exact sub_nil | refine sub_cons (by first | rfl | (simp; done)) ?_))) (by rw [e]; exact (.cons (.there .here) .nil))
      repeat' (first | (with_reducible first | refine aw_seq ?_ | refine rl_nil ?_ | refine aw_region ?_ | refine then_n ?_ | refine aw_block ?_ | refine then_exit ?_ | refine then_ret ?_ | refine in_n ?_ | refine in_ret ?_ | refine aw_exit ?_ | refine aw_ret ?_ | refine aw_skip ?_ | refine in_exit_eq rfl ?_) | ((with_reducible refine k_move ?_); refine rl_pure (pv_move rfl) rfl rfl rfl ?_) | ((with_reducible refine k_assign ?_); refine rl_pure (pv_assign rfl) rfl rfl rfl ?_) | ((with_reducible refine k_load ?_); (first | refine rl_val (vv_load_vp_whole (by rfl) by_memb by_bd (by rfl) (by first | rfl | exact ins_len _ | exact prow_len _ | exact nd_len _)) rfl rfl rfl ?_ | refine rl_val (vv_load_box (by rfl) by_memb (by rfl) by_bd) rfl rfl rfl ?_)) | ((with_reducible refine k_fieldAddr ?_); refine rl_pure (pv_fieldAddr rfl) rfl rfl rfl ?_) | ((with_reducible refine k_store ?_); refine rl_op rfl (op_store_box_whole (by rfl) (by rfl) (V.okc_or (by rfl)) by_upd (by first | rfl | exact ins_len _ | exact prow_len _ | exact nd_len _) (by first | rfl | exact ins_len _ | exact prow_len _ | exact nd_len _) ?_)) | ((with_reducible refine k_alloc ?_); refine rl_op rfl (op_alloc (by decide) rfl fun b => ?_)) | ((with_reducible refine k_eql ?_); refine rl_pure (pv_eql rfl rfl) rfl rfl rfl ?_) | ((with_reducible refine k_lss ?_); refine rl_pure (pv_lss rfl rfl) rfl rfl rfl ?_) | ((with_reducible refine k_add ?_); refine rl_pure (pv_add_in rfl rfl (by omega)) rfl rfl rfl ?_) | ((with_reducible refine k_not ?_); refine rl_pure (pv_not rfl) rfl rfl rfl ?_) | ((with_reducible refine k_indexAddr ?_); refine rl_pure (pv_indexAddr_own (by rfl) by_memb rfl (by first | omega | (simp only [List.length_cons, List.length_nil, List.length_append, List.length_map, List.length_replicate, List.length_set, brs_len]; omega))) rfl rfl rfl ?_) | ((with_reducible refine k_pick ?_); (first | refine rl_pure (pv_pick_t rfl by_bd rfl) rfl rfl rfl ?_ | refine rl_pure (pv_pick_f rfl by_bd rfl) rfl rfl rfl ?_)) | ((with_reducible refine k_guard ?_); (first | refine rl_on_yes rfl rfl rfl by_bd rfl ?_ | refine rl_off_f rfl rfl rfl by_bd rfl ?_)) | ((with_reducible refine k_cond ?_); refine aw_cond_t rfl ?_) | (((with_reducible refine k_guard ?_); first | refine rl_if_t rfl rfl rfl rfl ?_ ?_ | refine rl_if_f rfl rfl rfl rfl ?_ ?_) <;> intro hb <;> (have hc := hb) <;> (try simp only [decide_eq_true_eq, decide_eq_false_iff_not, Int.not_lt, Int.not_le, ne_eq, Bool.not_eq_true, Bool.not_eq_false, Decidable.not_not] at hc) <;> (try (exfalso; omega)) <;> (try (first | contradiction | (cases hc; done)))) | (((with_reducible refine k_cond ?_); refine aw_cond rfl ?_ ?_) <;> intro hb <;> (have hc := hb) <;> (try simp only [decide_eq_true_eq, decide_eq_false_iff_not, Int.not_lt, Int.not_le, ne_eq, Bool.not_eq_true, Bool.not_eq_false, Decidable.not_not] at hc) <;> (try (exfalso; omega)) <;> (try (first | contradiction | (cases hc; done)))))
      all_goals first
      | (exfalso; omega)
      | (exfalso; simp [c1] at hb; done)
      | (exfalso; simp only [Bool.not_eq_true', decide_eq_false_iff_not, Bool.not_eq_false', decide_eq_true_eq] at hc; omega)
      | exact next_of (R := [_]) (k + 1) h (by omega) (by (repeat (first | exact sub_nil | refine sub_cons (by first | rfl | (simp; done)) ?_))) (by rw [e]; exact (.cons (.there .here) .nil))
    · have e : mkTo l (k + 1) = setR (setR m n.yes.toNat) n.no.toNat := by rw [hS, mkS, if_neg (by simp [c1, c2]), if_pos c3]
      have := hfw c2
      obtain ⟨ni, ny, no, nr⟩ := n
      simp only at c1
      subst c1
      dsimp only at this hl1 e c2 c3
      repeat' (first | (with_reducible first | refine aw_seq ?_ | refine rl_nil ?_ | refine aw_region ?_ | refine then_n ?_ | refine aw_block ?_ | refine then_exit ?_ | refine then_ret ?_ | refine in_n ?_ | refine in_ret ?_ | refine aw_exit ?_ | refine aw_ret ?_ | refine aw_skip ?_ | refine in_exit_eq rfl ?_) | ((with_reducible refine k_move ?_); refine rl_pure (pv_move rfl) rfl rfl rfl ?_) | ((with_reducible refine k_assign ?_); refine rl_pure (pv_assign rfl) rfl rfl rfl ?_) | ((with_reducible refine k_load ?_); (first | refine rl_val (vv_load_vp_whole (by rfl) by_memb by_bd (by rfl) (by first | rfl | exact ins_len _ | exact prow_len _ | exact nd_len _)) rfl rfl rfl ?_ | refine rl_val (vv_load_box (by rfl) by_memb (by rfl) by_bd) rfl rfl rfl ?_)) | ((with_reducible refine k_fieldAddr ?_); (first | refine rl_pure (pv_fieldAddr rfl) rfl rfl rfl ?_ | refine rl_pure (pv_fieldAddr_vp rfl) rfl rfl rfl ?_)) | ((with_reducible refine k_store ?_); refine rl_op rfl (op_store_box_whole (by rfl) (by rfl) (V.okc_or (by rfl)) by_upd (by first | rfl | exact ins_len _ | exact prow_len _ | exact nd_len _) (by first | rfl | exact ins_len _ | exact prow_len _ | exact nd_len _) ?_)) | ((with_reducible refine k_alloc ?_); refine rl_op rfl (op_alloc (by decide) rfl fun b => ?_)) | ((with_reducible refine k_eql ?_); refine rl_pure (pv_eql rfl rfl) rfl rfl rfl ?_) | ((with_reducible refine k_lss ?_); refine rl_pure (pv_lss rfl rfl) rfl rfl rfl ?_) | ((with_reducible refine k_add ?_); refine rl_pure (pv_add_in rfl rfl (by omega)) rfl rfl rfl ?_) | ((with_reducible refine k_not ?_); refine rl_pure (pv_not rfl) rfl rfl rfl ?_) | ((with_reducible refine k_indexAddr ?_); refine rl_pure (pv_indexAddr_own (by rfl) by_memb rfl (by first | omega | (simp only [List.length_cons, List.length_nil, List.length_append, List.length_map, List.length_replicate, List.length_set, brs_len]; omega))) rfl rfl rfl ?_) | ((with_reducible refine k_pick ?_); refine rl_pure (pv_pick_f rfl by_bd rfl) rfl rfl rfl ?_) | ((with_reducible refine k_guard ?_); refine rl_on_yes rfl rfl rfl by_bd rfl ?_) | ((with_reducible refine k_callv ?_); refine rl_op rfl (op_callF rfl rfl (isJump_fun _) rfl ?_)) | ((with_reducible refine k_store ?_); refine rl_op rfl (st_rb (by rfl) (by rfl) by_upd by_bound ?_)) | (((with_reducible refine k_cond ?_); refine aw_cond rfl ?_ ?_) <;> intro hb <;> (have hc := hb) <;> (try simp only [decide_eq_true_eq, decide_eq_false_iff_not, Int.not_lt, Int.not_le, ne_eq, Bool.not_eq_true, Bool.not_eq_false, Decidable.not_not] at hc) <;> (try (exfalso; omega)) <;> (try (first | contradiction | (cases hc; done)))))
      all_goals first
      | (exfalso; omega)
      | (exfalso; simp [c1] at hb; done)
      | (exfalso; simp only [Bool.not_eq_true', decide_eq_false_iff_not, Bool.not_eq_false', decide_eq_true_eq] at hc; omega)
      | exact next_of (R := [_]) (k + 1) h (by omega) (by (repeat (first | exact sub_nil | refine sub_cons (by first | rfl | (simp; done)) ?_))) (by rw [e]; exact (.cons (.there .here) .nil))
    · have e : mkTo l (k + 1) = setR m n.yes.toNat := by rw [hS, mkS, if_neg (by simp [c1, c2]), if_neg c3]
      have := hfw c2
      obtain ⟨ni, ny, no, nr⟩ := n
      simp only at c1
      subst c1
      dsimp only at this hl1 e c2 c3
      repeat' (first | (with_reducible first | refine aw_seq ?_ | refine rl_nil ?_ | refine aw_region ?_ | refine then_n ?_ | refine aw_block ?_ | refine then_exit ?_ | refine then_ret ?_ | refine in_n ?_ | refine in_ret ?_ | refine aw_exit ?_ | refine aw_ret ?_ | refine aw_skip ?_ | refine in_exit_eq rfl ?_) | ((with_reducible refine k_move ?_); refine rl_pure (pv_move rfl) rfl rfl rfl ?_) | ((with_reducible refine k_assign ?_); refine rl_pure (pv_assign rfl) rfl rfl rfl ?_) | ((with_reducible refine k_load ?_); (first | refine rl_val (vv_load_vp_whole (by rfl) by_memb by_bd (by rfl) (by first | rfl | exact ins_len _ | exact prow_len _ | exact nd_len _)) rfl rfl rfl ?_ | refine rl_val (vv_load_box (by rfl) by_memb (by rfl) by_bd) rfl rfl rfl ?_)) | ((with_reducible refine k_fieldAddr ?_); (first | refine rl_pure (pv_fieldAddr rfl) rfl rfl rfl ?_ | refine rl_pure (pv_fieldAddr_vp rfl) rfl rfl rfl ?_)) | ((with_reducible refine k_store ?_); refine rl_op rfl (op_store_box_whole (by rfl) (by rfl) (V.okc_or (by rfl)) by_upd (by first | rfl | exact ins_len _ | exact prow_len _ | exact nd_len _) (by first | rfl | exact ins_len _ | exact prow_len _ | exact nd_len _) ?_)) | ((with_reducible refine k_alloc ?_); refine rl_op rfl (op_alloc (by decide) rfl fun b => ?_)) | ((with_reducible refine k_eql ?_); refine rl_pure (pv_eql rfl rfl) rfl rfl rfl ?_) | ((with_reducible refine k_lss ?_); refine rl_pure (pv_lss rfl rfl) rfl rfl rfl ?_) | ((with_reducible refine k_add ?_); refine rl_pure (pv_add_in rfl rfl (by omega)) rfl rfl rfl ?_) | ((with_reducible refine k_not ?_); refine rl_pure (pv_not rfl) rfl rfl rfl ?_) | ((with_reducible refine k_indexAddr ?_); refine rl_pure (pv_indexAddr_own (by rfl) by_memb rfl (by first | omega | (simp only [List.length_cons, List.length_nil, List.length_append, List.length_map, List.length_replicate, List.length_set, brs_len]; omega))) rfl rfl rfl ?_) | ((with_reducible refine k_pick ?_); refine rl_pure (pv_pick_f rfl by_bd rfl) rfl rfl rfl ?_) | ((with_reducible refine k_guard ?_); refine rl_on_yes rfl rfl rfl by_bd rfl ?_) | ((with_reducible refine k_callv ?_); refine rl_op rfl (op_callF rfl rfl (isJump_fun _) rfl ?_)) | ((with_reducible refine k_store ?_); refine rl_op rfl (st_rb (by rfl) (by rfl) by_upd by_bound ?_)) | (((with_reducible refine k_cond ?_); refine aw_cond rfl ?_ ?_) <;> intro hb <;> (have hc := hb) <;> (try simp only [decide_eq_true_eq, decide_eq_false_iff_not, Int.not_lt, Int.not_le, ne_eq, Bool.not_eq_true, Bool.not_eq_false, Decidable.not_not] at hc) <;> (try (exfalso; omega)) <;> (try (first | contradiction | (cases hc; done)))))
      all_goals first
      | (exfalso; omega)
      | (exfalso; simp [c1] at hb; done)
      | (exfalso; simp only [Bool.not_eq_true', decide_eq_false_iff_not, Bool.not_eq_false', decide_eq_true_eq] at hc; omega)
      | exact next_of (R := [_]) (k + 1) h (by omega) (by (repeat (first | exact sub_nil | refine sub_cons (by first | rfl | (simp; done)) ?_))) (by rw [e]; exact (.cons (.there .here) .nil))
  · have hk : k = l.length := by omega
    subst hk
    repeat' (first | (with_reducible first | refine aw_seq ?_ | refine rl_nil ?_ | refine aw_region ?_ | refine then_n ?_ | refine aw_block ?_ | refine then_exit ?_ | refine then_ret ?_ | refine in_n ?_ | refine in_ret ?_ | refine aw_exit ?_ | refine aw_ret ?_ | refine aw_skip ?_ | refine in_exit_eq rfl ?_) | ((with_reducible refine k_lss ?_); refine rl_pure (pv_lss rfl rfl) rfl rfl rfl ?_) | (((with_reducible refine k_cond ?_); refine aw_cond rfl ?_ ?_) <;> intro hb <;> (have hc := hb) <;> (try simp only [decide_eq_true_eq, decide_eq_false_iff_not, Int.not_lt, Int.not_le, ne_eq, Bool.not_eq_true, Bool.not_eq_false, Decidable.not_not] at hc) <;> (try (exfalso; omega)) <;> (try (first | contradiction | (cases hc; done)))))
    (first | refine ret_r (retok_pick (.cons .here .nil) (ret0 rfl  (List.Sublist.refl _) ⟨_, rfl, ?_⟩)) | refine ret_n (retok_pick (.cons .here .nil) (ret0 rfl  (List.Sublist.refl _) ⟨_, rfl, ?_⟩)))
    exact ⟨rfl, rfl⟩
end Go.Proofs.Ytobablbklkpchaa
