import Derived.Test.YtobablbklkpchaaK24
set_option linter.unusedVariables false
set_option linter.unusedSimpArgs false
namespace Go.Proofs.Ytobablbklkpchaa
open Go Go.AX
set_option maxHeartbeats 8000000
set_option maxRecDepth 20000
attribute [local irreducible] AW RL OP PureV ValV HV DL Tri TriR Fun RetOk ResV
theorem thr_range {l : List Nd} (hN : NOK l) (test : Ins) (is : Bool) : ∀ (f : Nat) (to : Int), 0 ≤ to ∧ to < l.length → to ≤ thr l test is f to ∧ thr l test is f to < l.length
  | 0, to, h => by simp only [thr]; omega
  | f + 1, to, h => by
    obtain ⟨n, hn⟩ : ∃ n, l[to.toNat]? = some n := ⟨_, List.getElem?_eq_getElem (by omega)⟩
    have hfw := hN.fw _ n hn
    simp only [thr, hn, isJp]
    split
    · rename_i c
      have := hfw (by omega)
      have := thr_range hN test is f n.yes (by omega)
      omega
    · split
      · rename_i c
        have := hfw (by omega)
        cases is with
        | true =>
          have := thr_range hN test true f n.yes (by omega)
          simp only [if_true]; omega
        | false =>
          have := thr_range hN test false f n.no (by omega)
          simp only [Bool.false_eq_true, if_false]; omega
      · omega
theorem NOK.set {l : List Nd} (hN : NOK l) {k : Nat} {n m : Nd} (hn : l[k]? = some n) (hi : m.i = n.i) (hf : n.i.op ≠ 32 → ((k : Int) < m.yes ∧ m.yes < l.length) ∧ (k : Int) < m.no ∧ m.no < l.length) : NOK (l.set k m) := by
  refine ⟨fun q x hx => ?_, fun q x hx ho => ?_⟩
  · rw [List.getElem?_set] at hx
    split at hx
    · split at hx
      · cases hx; rw [hi]; exact hN.op k n hn
      · cases hx
    · exact hN.op q x hx
  · rw [List.length_set]
    rw [List.getElem?_set] at hx
    split at hx
    · rename_i e
      split at hx
      · cases hx; subst e; exact hf (by rw [← hi]; exact ho)
      · cases hx
    · exact hN.fw q x hx ho
/-- A node, its yes led on. -/
def shY (l : List Nd) (k : Nat) (n : Nd) : Nd := if thr l n.i true l.length n.yes - k - 1 ≤ 255 then { n with yes := thr l n.i true l.length n.yes } else n
def shN (l : List Nd) (k : Nat) (n : Nd) : Nd :=
  if n.i.op = 31 ∨ isJp n.i then
    (if isJp n.i ∧ thr (l.set k (shY l k n)) n.i false l.length n.no - k - 1 ≤ 255 then { shY l k n with no := thr (l.set k (shY l k n)) n.i false l.length n.no } else shY l k n)
  else n
def shTo (l : List Nd) : Nat → List Nd
  | 0 => l
  | k + 1 => match (shTo l k)[k]? with
    | some n => (shTo l k).set k (shN (shTo l k) k n)
    | none => shTo l k
theorem shTo_len (l : List Nd) : ∀ k, (shTo l k).length = l.length
  | 0 => rfl
  | k + 1 => by
    rw [shTo]
    split
    · rw [List.length_set, shTo_len l k]
    · exact shTo_len l k
theorem shY_i (l : List Nd) (k : Nat) (n : Nd) : (shY l k n).i = n.i ∧ (shY l k n).no = n.no ∧ (shY l k n).rb = n.rb := by unfold shY; split <;> exact ⟨rfl, rfl, rfl⟩
theorem shN_i (l : List Nd) (k : Nat) (n : Nd) : (shN l k n).i = n.i ∧ (shN l k n).rb = n.rb := by
  have := shY_i l k n
  unfold shN
  split
  · split
    · exact ⟨this.1, this.2.2⟩
    · exact ⟨this.1, this.2.2⟩
  · exact ⟨rfl, rfl⟩
theorem shY_ok {l : List Nd} (hN : NOK l) {k : Nat} {n : Nd} (hn : l[k]? = some n) (ho : n.i.op ≠ 32) : ((k : Int) < (shY l k n).yes ∧ (shY l k n).yes < l.length) ∧ (k : Int) < (shY l k n).no ∧ (shY l k n).no < l.length := by
  have h1 := hN.fw k n hn ho
  have h2 := thr_range hN n.i true l.length n.yes (by omega)
  unfold shY
  split
  · dsimp only; omega
  · exact h1
theorem shN_ok {l : List Nd} (hN : NOK l) {k : Nat} {n : Nd} (hn : l[k]? = some n) (ho : n.i.op ≠ 32) : ((k : Int) < (shN l k n).yes ∧ (shN l k n).yes < l.length) ∧ (k : Int) < (shN l k n).no ∧ (shN l k n).no < l.length := by
  have h0 := hN.fw k n hn ho
  have h1 := shY_ok hN hn ho
  have hN1 := hN.set hn (shY_i l k n).1 fun _ => h1
  have h2 := thr_range hN1 n.i false l.length n.no (by rw [List.length_set]; omega)
  rw [List.length_set] at h2
  unfold shN
  split
  · split
    · dsimp only; omega
    · exact h1
  · exact h0
theorem shTo_ok {l : List Nd} (hN : NOK l) : ∀ k, NOK (shTo l k)
  | 0 => hN
  | k + 1 => by
    have ih := shTo_ok hN k
    rw [shTo]
    split
    · rename_i n hn
      exact ih.set hn (shN_i _ _ _).1 fun ho => shN_ok ih hn ho
    · exact ih
theorem set_same {α : Type} {l : List α} {k : Nat} {n : α} (h : l[k]? = some n) : l.set k n = l := by
  obtain ⟨h, rfl⟩ := List.getElem?_eq_some_iff.1 h
  exact List.set_getElem_self _
theorem shorten35 (sv : Value) (l : List Nd) (hN : NOK l) (hlen : l.length ≤ 400) :
    TriR Try.prog 35 [.own sv] [.vec sv 84 7 (l.map Nd.cells)] fun v H' => v = .tup [] ∧ H' = [.vec sv 84 7 ((shTo l l.length).map Nd.cells)] := by
  refine TriR.of (tri_of Try.func35 rfl Try.ntmps35 rfl fun j => ?_)
  repeat' (first | (with_reducible first | refine aw_seq ?_ | refine rl_nil ?_ | refine aw_region ?_ | refine then_n ?_ | refine aw_block ?_ | refine then_exit ?_ | refine then_ret ?_ | refine in_n ?_ | refine in_ret ?_ | refine aw_exit ?_ | refine aw_ret ?_ | refine aw_skip ?_ | refine in_exit_eq rfl ?_) | ((with_reducible refine k_move ?_); refine rl_pure (pv_move rfl) rfl rfl rfl ?_) | ((with_reducible refine k_len ?_); refine rl_pure (pv_len_own' (by rfl) by_memb by_len) rfl rfl rfl ?_))
  refine aw_iter (α := Nat) (fun k => [(0, .own sv), (6, .own sv), (7, int l.length), (8, int k)])
    (fun k => [.vec sv 84 7 ((shTo l k).map Nd.cells)]) (fun k => k ≤ l.length) (fun k => l.length - k)
    0 (Nat.zero_le _) (by (repeat (first | exact sub_nil | refine sub_cons (by first | rfl | (simp; done)) ?_))) (.cons .here .nil) fun k hI => ?_
  rcases Nat.lt_or_ge k l.length with h | h
  · have hL := shTo_len l k
    have hN1 := shTo_ok hN k
    obtain ⟨n, hn⟩ : ∃ n, (shTo l k)[k]? = some n := ⟨_, List.getElem?_eq_getElem (by omega)⟩
    have hS : shTo l (k + 1) = (shTo l k).set k (shN (shTo l k) k n) := by rw [shTo, hn]
    generalize shTo l k = m at hL hN1 hn hS
    have hr : (m.map Nd.cells)[k]? = some n.cells := by simp [hn]
    have hop := hN1.op k n hn
    by_cases ho : n.i.op = 31 ∨ (25 ≤ n.i.op ∧ n.i.op ≤ 30)
    · have h0 := hN1.fw k n hn (by omega)
      have h1 := shY_ok hN1 hn (by omega)
      have hN2 := hN1.set hn (shY_i m k n).1 fun _ => h1
      have e1 : shN m k n = if isJp n.i ∧ thr (m.set k (shY m k n)) n.i false m.length n.no - k - 1 ≤ 255 then { shY m k n with no := thr (m.set k (shY m k n)) n.i false m.length n.no } else shY m k n := by rw [shN, if_pos ho]
      have hT := threaded52 sv m n.i true n.yes hN1 (by omega) (by omega)
      have hT2 := threaded52 sv (m.set k (shY m k n)) n.i false n.no hN2 (by rw [List.length_set]; omega) (by rw [List.length_set]; omega)
      rw [List.length_set] at hT2
      have hr2 : ((m.set k (shY m k n)).map Nd.cells)[k]? = some (shY m k n).cells := by
        rw [List.getElem?_map, List.getElem?_set_self (by omega)]; rfl
      have ht1 := thr_range hN1 n.i true m.length n.yes (by omega)
      have ht2 := thr_range hN2 n.i false m.length n.no (by rw [List.length_set]; omega)
      rw [List.length_set] at ht2
      have hyi := (shY_i m k n).1
      have hyn := (shY_i m k n).2.1
      have eA : thr m n.i true m.length n.yes - k - 1 ≤ 255 → (m.map Nd.cells).set k (setAll n.cells 4 [int (thr m n.i true m.length n.yes)]) = (m.set k (shY m k n)).map Nd.cells := fun hc => by
        rw [shY, if_pos hc, List.map_set]; rfl
      have eB : 255 < thr m n.i true m.length n.yes - k - 1 → m.map Nd.cells = (m.set k (shY m k n)).map Nd.cells := fun hc => by
        rw [shY, if_neg (by omega), set_same hn]
      repeat' (first | (with_reducible first | refine aw_seq ?_ | refine rl_nil ?_ | refine aw_region ?_ | refine then_n ?_ | refine aw_block ?_ | refine then_exit ?_ | refine then_ret ?_ | refine in_n ?_ | refine in_ret ?_ | refine aw_exit ?_ | refine aw_ret ?_ | refine aw_skip ?_ | refine in_exit_eq rfl ?_) | ((with_reducible refine k_move ?_); refine rl_pure (pv_move rfl) rfl rfl rfl ?_) | ((with_reducible refine k_assign ?_); refine rl_pure (pv_assign rfl) rfl rfl rfl ?_) | ((with_reducible refine k_load ?_); refine rl_val (vv_load_vp (by rfl) by_memb by_bd (by rfl) by_bd) rfl rfl rfl ?_) | ((with_reducible refine k_fieldAddr ?_); refine rl_pure (pv_fieldAddr_vp rfl) rfl rfl rfl ?_) | ((with_reducible refine k_neq ?_); refine rl_pure (pv_neq rfl rfl) rfl rfl rfl ?_) | ((with_reducible refine k_lss ?_); refine rl_pure (pv_lss rfl rfl) rfl rfl rfl ?_) | ((with_reducible refine k_leq ?_); refine rl_pure (pv_leq rfl rfl) rfl rfl rfl ?_) | ((with_reducible refine k_add ?_); refine rl_pure (pv_add_in rfl rfl (by omega)) rfl rfl rfl ?_) | ((with_reducible refine k_sub ?_); refine rl_pure (pv_sub_in rfl rfl (by omega)) rfl rfl rfl ?_) | ((with_reducible refine k_not ?_); refine rl_pure (pv_not rfl) rfl rfl rfl ?_) | ((with_reducible refine k_indexAddr ?_); refine rl_pure (pv_indexAddr_own (by rfl) by_memb rfl (by first | omega | (simp only [List.length_cons, List.length_nil, List.length_append, List.length_map, List.length_replicate, List.length_set, brs_len]; omega))) rfl rfl rfl ?_) | ((with_reducible refine k_nilCheck ?_); refine rl_pure (pv_nilCheck_vp rfl) rfl rfl rfl ?_) | ((with_reducible refine k_pick ?_); (first | refine rl_pure (pv_pick_t rfl by_bd rfl) rfl rfl rfl ?_ | refine rl_pure (pv_pick_f rfl by_bd rfl) rfl rfl rfl ?_)) | ((with_reducible refine k_guard ?_); (first | refine rl_on_yes rfl rfl rfl by_bd rfl ?_ | refine rl_off_t rfl rfl rfl by_bd rfl ?_)) | ((with_reducible refine k_cond ?_); refine aw_cond_f rfl ?_) | (with_reducible refine dl_nil by_app ?_) | ((with_reducible refine kd_move ?_); refine dl_pure (by assumption) (pv_move rfl) by_wants rfl rfl ?_) | ((with_reducible refine kd_assign ?_); refine dl_pure (by assumption) (pv_assign rfl) by_wants rfl rfl ?_) | ((with_reducible refine kd_fieldAddr ?_); refine dl_pure (by assumption) (pv_fieldAddr_vp rfl) by_wants rfl rfl ?_) | ((with_reducible refine kd_nilCheck ?_); refine dl_pure (by assumption) (pv_nilCheck_vp rfl) by_wants rfl rfl ?_) | ((with_reducible refine kd_load ?_); (first | refine dl_take (by assumption) (hv_load_vp (by assumption) (by rfl) by_mem0 by_bd (by rfl) by_bd) by_wants rfl rfl ?_ | refine dl_take (by assumption) (hv_load_vp_agg (by assumption) (by rfl) by_mem0 by_bd (by rfl) by_nrm (by rfl)) by_wants rfl rfl ?_)) | (refine aw_draw (id := 5) [(false, 0), (false, 1), (false, 2), (false, 3), (false, 4), (false, 5), (false, 6), (false, 7), (false, 8), (true, 9), (false, 10)] [] (by kernel_rfl) (by decide +kernel) (by decide) by_lit .nil by_nos fun jd hjd => ?_) | ((with_reducible refine k_callv ?_); refine rl_op rfl (op_callF rfl rfl (isJump_fun _) rfl ?_)) | ((with_reducible refine kd_callv ?_); (refine dl_op (by assumption) by_wants (op_callB rfl rfl hT (bor_cons by_memj bor_nil) rfl ?_); intro jd hjd)) | (((with_reducible refine k_guard ?_); first | refine rl_if_t rfl rfl rfl rfl ?_ ?_ | refine rl_if_f rfl rfl rfl rfl ?_ ?_) <;> intro hb <;> (have hc := hb) <;> (try simp only [decide_eq_true_eq, decide_eq_false_iff_not, Int.not_lt, Int.not_le, ne_eq, Bool.not_eq_true, Bool.not_eq_false, Decidable.not_not] at hc) <;> (try (exfalso; omega)) <;> (try (first | contradiction | (cases hc; done)))) | (((with_reducible refine k_cond ?_); refine aw_cond rfl ?_ ?_) <;> intro hb <;> (have hc := hb) <;> (try simp only [decide_eq_true_eq, decide_eq_false_iff_not, Int.not_lt, Int.not_le, ne_eq, Bool.not_eq_true, Bool.not_eq_false, Decidable.not_not] at hc) <;> (try (exfalso; omega)) <;> (try (first | contradiction | (cases hc; done)))))
      all_goals first
      | (exfalso; simp only [Bool.not_eq_true', decide_eq_false_iff_not] at hc; omega)
      | skip
      all_goals first
      | (refine rl_op rfl (op_store_vp (r := n.cells) rfl rfl (V.okc_or (by rfl)) by_upd hr (by rfl) (by decide) ?_)
         refine rl_pick [(0, .own sv), (2, int k), (3, .vp sv 7 k 0), (6, .own sv), (7, int l.length), (8, int k)] [.vec sv 84 7 ((m.set k (shY m k n)).map Nd.cells)] (by (repeat (first | exact sub_nil | refine sub_cons (by first | rfl | (simp; done)) ?_))) (by rw [← eA hc]; exact (.cons .here .nil)) ?_)
      | (refine aw_pick [(0, .own sv), (2, int k), (3, .vp sv 7 k 0), (6, .own sv), (7, int l.length), (8, int k)] [.vec sv 84 7 ((m.set k (shY m k n)).map Nd.cells)] (by (repeat (first | exact sub_nil | refine sub_cons (by first | rfl | (simp; done)) ?_))) (by rw [← eB hc]; exact (.cons .here .nil)) ?_)
      all_goals
        clear eA eB hT hT2 hb hc
        rw [← hyi, ← hyn] at e1
        rw [← hyi] at ho
        rw [← hyi, ← hyn] at ht2
        generalize shY m k n = Z at e1 hr2 hyi hyn ht2 hN2 ho
        have hT2 := threaded52 sv (m.set k Z) Z.i false Z.no hN2 (by rw [List.length_set]; omega) (by rw [List.length_set]; omega)
        rw [List.length_set] at hT2
        have eA : shTo l (k + 1) = m.set k { Z with no := thr (m.set k Z) Z.i false m.length Z.no } → ((m.set k Z).map Nd.cells).set k (setAll Z.cells 5 [int (thr (m.set k Z) Z.i false m.length Z.no)]) = (shTo l (k + 1)).map Nd.cells := fun hc => by
          rw [hc, List.map_set, List.map_set, List.set_set]; rfl
        repeat' (first | (with_reducible first | refine aw_seq ?_ | refine rl_nil ?_ | refine aw_region ?_ | refine then_n ?_ | refine aw_block ?_ | refine then_exit ?_ | refine then_ret ?_ | refine in_n ?_ | refine in_ret ?_ | refine aw_exit ?_ | refine aw_ret ?_ | refine aw_skip ?_ | refine in_exit_eq rfl ?_) | ((with_reducible refine k_move ?_); refine rl_pure (pv_move rfl) rfl rfl rfl ?_) | ((with_reducible refine k_load ?_); refine rl_val (vv_load_vp (by rfl) by_memb by_bd (by rfl) by_bd) rfl rfl rfl ?_) | ((with_reducible refine k_fieldAddr ?_); refine rl_pure (pv_fieldAddr_vp rfl) rfl rfl rfl ?_) | ((with_reducible refine k_leq ?_); refine rl_pure (pv_leq rfl rfl) rfl rfl rfl ?_) | ((with_reducible refine k_add ?_); refine rl_pure (pv_add_in rfl rfl (by omega)) rfl rfl rfl ?_) | ((with_reducible refine k_sub ?_); refine rl_pure (pv_sub_in rfl rfl (by omega)) rfl rfl rfl ?_) | ((with_reducible refine k_nilCheck ?_); refine rl_pure (pv_nilCheck_vp rfl) rfl rfl rfl ?_) | ((with_reducible refine k_pick ?_); (first | refine rl_pure (pv_pick_t rfl by_bd rfl) rfl rfl rfl ?_ | refine rl_pure (pv_pick_f rfl by_bd rfl) rfl rfl rfl ?_)) | ((with_reducible refine k_guard ?_); (first | refine rl_on_yes rfl rfl rfl by_bd rfl ?_ | refine rl_off_t rfl rfl rfl by_bd rfl ?_)) | ((with_reducible refine k_cond ?_); refine aw_cond_f rfl ?_) | (with_reducible refine dl_nil by_app ?_) | ((with_reducible refine kd_move ?_); refine dl_pure (by assumption) (pv_move rfl) by_wants rfl rfl ?_) | ((with_reducible refine kd_assign ?_); refine dl_pure (by assumption) (pv_assign rfl) by_wants rfl rfl ?_) | ((with_reducible refine kd_fieldAddr ?_); refine dl_pure (by assumption) (pv_fieldAddr_vp rfl) by_wants rfl rfl ?_) | ((with_reducible refine kd_nilCheck ?_); refine dl_pure (by assumption) (pv_nilCheck_vp rfl) by_wants rfl rfl ?_) | ((with_reducible refine kd_load ?_); (first | refine dl_take (by assumption) (hv_load_vp (by assumption) (by rfl) by_mem0 by_bd (by rfl) by_bd) by_wants rfl rfl ?_ | refine dl_take (by assumption) (hv_load_vp_agg (by assumption) (by rfl) by_mem0 by_bd (by rfl) by_nrm (by rfl)) by_wants rfl rfl ?_)) | (refine aw_draw (id := 8) [(false, 0), (false, 1), (false, 2), (false, 3), (false, 4), (false, 5), (false, 6), (false, 7), (false, 8), (true, 9), (false, 10)] [] (by kernel_rfl) (by decide +kernel) (by decide) by_lit .nil by_nos fun jd hjd => ?_) | ((with_reducible refine k_callv ?_); refine rl_op rfl (op_callF rfl rfl (isJump_fun _) rfl ?_)) | ((with_reducible refine kd_callv ?_); (refine dl_op (by assumption) by_wants (op_callB rfl rfl hT2 (bor_cons by_memj bor_nil) rfl ?_); intro jd hjd)) | (((with_reducible refine k_guard ?_); first | refine rl_if_t rfl rfl rfl rfl ?_ ?_ | refine rl_if_f rfl rfl rfl rfl ?_ ?_) <;> intro hb <;> (have hc := hb) <;> (try simp only [decide_eq_true_eq, decide_eq_false_iff_not, Int.not_lt, Int.not_le, ne_eq, Bool.not_eq_true, Bool.not_eq_false, Decidable.not_not] at hc) <;> (try (exfalso; omega)) <;> (try (first | contradiction | (cases hc; done)))) | (((with_reducible refine k_cond ?_); refine aw_cond rfl ?_ ?_) <;> intro hb <;> (have hc := hb) <;> (try simp only [decide_eq_true_eq, decide_eq_false_iff_not, Int.not_lt, Int.not_le, ne_eq, Bool.not_eq_true, Bool.not_eq_false, Decidable.not_not] at hc) <;> (try (exfalso; omega)) <;> (try (first | contradiction | (cases hc; done)))))
      all_goals first
      | (refine rl_op rfl (op_store_vp (r := Z.cells) rfl rfl (V.okc_or (by rfl)) by_upd hr2 (by rfl) (by decide) ?_)
         rw [show ((m.set k Z).map Nd.cells).set k (setAll Z.cells (0 + 5) (int (thr (m.set k Z) Z.i false m.length Z.no)).cells) = (shTo l (k + 1)).map Nd.cells from eA (by rw [hS, e1, if_pos (by simp only [isJp]; omega)])]
         repeat' (first | (with_reducible first | refine aw_seq ?_ | refine rl_nil ?_ | refine aw_region ?_ | refine then_n ?_ | refine aw_block ?_ | refine then_exit ?_ | refine then_ret ?_ | refine in_n ?_ | refine in_ret ?_ | refine aw_exit ?_ | refine aw_ret ?_ | refine aw_skip ?_ | refine in_exit_eq rfl ?_) | ((with_reducible refine k_move ?_); refine rl_pure (pv_move rfl) rfl rfl rfl ?_) | ((with_reducible refine k_add ?_); refine rl_pure (pv_add_in rfl rfl (by omega)) rfl rfl rfl ?_))
         exact next_of (R := []) (k + 1) h (by omega) (by (repeat (first | exact sub_nil | refine sub_cons (by first | rfl | (simp; done)) ?_))) (.cons .here .nil))
      | (have e : shTo l (k + 1) = m.set k Z := by rw [hS, e1, if_neg (by simp only [isJp]; omega)]
         exact next_of (R := []) (k + 1) h (by omega) (by (repeat (first | exact sub_nil | refine sub_cons (by first | rfl | (simp; done)) ?_))) (by rw [e]; exact (.cons .here .nil)))
    · have e : shTo l (k + 1) = m := by rw [hS, shN, if_neg (by simp only [isJp]; omega), set_same hn]
      repeat' (first | (with_reducible first | refine aw_seq ?_ | refine rl_nil ?_ | refine aw_region ?_ | refine then_n ?_ | refine aw_block ?_ | refine then_exit ?_ | refine then_ret ?_ | refine in_n ?_ | refine in_ret ?_ | refine aw_exit ?_ | refine aw_ret ?_ | refine aw_skip ?_ | refine in_exit_eq rfl ?_) | ((with_reducible refine k_move ?_); refine rl_pure (pv_move rfl) rfl rfl rfl ?_) | ((with_reducible refine k_assign ?_); refine rl_pure (pv_assign rfl) rfl rfl rfl ?_) | ((with_reducible refine k_load ?_); refine rl_val (vv_load_vp (by rfl) by_memb by_bd (by rfl) by_bd) rfl rfl rfl ?_) | ((with_reducible refine k_fieldAddr ?_); refine rl_pure (pv_fieldAddr_vp rfl) rfl rfl rfl ?_) | ((with_reducible refine k_neq ?_); refine rl_pure (pv_neq rfl rfl) rfl rfl rfl ?_) | ((with_reducible refine k_lss ?_); refine rl_pure (pv_lss rfl rfl) rfl rfl rfl ?_) | ((with_reducible refine k_add ?_); refine rl_pure (pv_add_in rfl rfl (by omega)) rfl rfl rfl ?_) | ((with_reducible refine k_not ?_); refine rl_pure (pv_not rfl) rfl rfl rfl ?_) | ((with_reducible refine k_indexAddr ?_); refine rl_pure (pv_indexAddr_own (by rfl) by_memb rfl (by first | omega | (simp only [List.length_cons, List.length_nil, List.length_append, List.length_map, List.length_replicate, List.length_set, brs_len]; omega))) rfl rfl rfl ?_) | ((with_reducible refine k_nilCheck ?_); refine rl_pure (pv_nilCheck_vp rfl) rfl rfl rfl ?_) | ((with_reducible refine k_pick ?_); refine rl_pure (pv_pick_t rfl by_bd rfl) rfl rfl rfl ?_) | ((with_reducible refine k_guard ?_); refine rl_on_yes rfl rfl rfl by_bd rfl ?_) | ((with_reducible refine k_callv ?_); refine rl_op rfl (op_callF rfl rfl (isJump_fun _) rfl ?_)) | (((with_reducible refine k_guard ?_); first | refine rl_if_t rfl rfl rfl rfl ?_ ?_ | refine rl_if_f rfl rfl rfl rfl ?_ ?_) <;> intro hb <;> (have hc := hb) <;> (try simp only [decide_eq_true_eq, decide_eq_false_iff_not, Int.not_lt, Int.not_le, ne_eq, Bool.not_eq_true, Bool.not_eq_false, Decidable.not_not] at hc) <;> (try (exfalso; omega)) <;> (try (first | contradiction | (cases hc; done)))) | (((with_reducible refine k_cond ?_); refine aw_cond rfl ?_ ?_) <;> intro hb <;> (have hc := hb) <;> (try simp only [decide_eq_true_eq, decide_eq_false_iff_not, Int.not_lt, Int.not_le, ne_eq, Bool.not_eq_true, Bool.not_eq_false, Decidable.not_not] at hc) <;> (try (exfalso; omega)) <;> (try (first | contradiction | (cases hc; done)))))
      all_goals first
      | (exfalso; simp only [Bool.not_eq_false', decide_eq_true_eq] at hc; omega)
      | exact next_of (R := []) (k + 1) h (by omega) (by (repeat (first | exact sub_nil | refine sub_cons (by first | rfl | (simp; done)) ?_))) (by rw [e]; exact (.cons .here .nil))
  · have hk : k = l.length := by omega
    subst hk
    repeat' (first | (with_reducible first | refine aw_seq ?_ | refine rl_nil ?_ | refine aw_region ?_ | refine then_n ?_ | refine aw_block ?_ | refine then_exit ?_ | refine then_ret ?_ | refine in_n ?_ | refine in_ret ?_ | refine aw_exit ?_ | refine aw_ret ?_ | refine aw_skip ?_ | refine in_exit_eq rfl ?_) | ((with_reducible refine k_lss ?_); refine rl_pure (pv_lss rfl rfl) rfl rfl rfl ?_) | (((with_reducible refine k_cond ?_); refine aw_cond rfl ?_ ?_) <;> intro hb <;> (have hc := hb) <;> (try simp only [decide_eq_true_eq, decide_eq_false_iff_not, Int.not_lt, Int.not_le, ne_eq, Bool.not_eq_true, Bool.not_eq_false, Decidable.not_not] at hc) <;> (try (exfalso; omega)) <;> (try (first | contradiction | (cases hc; done)))))
    (first | refine ret_r (retok_pick (.cons .here .nil) (ret0 rfl  (List.Sublist.refl _) ⟨_, rfl, ?_⟩)) | refine ret_n (retok_pick (.cons .here .nil) (ret0 rfl  (List.Sublist.refl _) ⟨_, rfl, ?_⟩)))
    exact ⟨rfl, rfl⟩
end Go.Proofs.Ytobablbklkpchaa
