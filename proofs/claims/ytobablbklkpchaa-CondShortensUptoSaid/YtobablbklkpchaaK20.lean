import Derived.Test.YtobablbklkpchaaK14
set_option linter.unusedVariables false
set_option linter.unusedSimpArgs false
namespace Go.Proofs.Ytobablbklkpchaa
open Go Go.AX
set_option maxHeartbeats 8000000
set_option maxRecDepth 20000
attribute [local irreducible] AW RL OP PureV ValV HV DL Tri TriR Fun RetOk ResV
abbrev irow (q : Int) : List V := [int q]
/-- The instructions behind one, in order. -/
def nxt (at_ : Int) (i : Ins) : List Int :=
  if i.op = 32 then [] else if i.op = 31 then [at_ + 1 + i.k]
  else if 25 ≤ i.op ∧ i.op ≤ 30 then (if i.t = i.f then [at_ + 1 + i.t] else [min (at_ + 1 + i.t) (at_ + 1 + i.f), max (at_ + 1 + i.t) (at_ + 1 + i.f)])
  else [at_ + 1]
theorem nxt_mem (at_ : Int) (i : Ins) (q : Int) : (nxt at_ i).contains q = (fol at_ i).contains q := by
  unfold nxt fol
  repeat' split
  · rfl
  · rfl
  · rfl
  · rw [Bool.eq_iff_iff]
    simp only [List.contains_iff_mem, List.mem_cons, List.not_mem_nil, or_false]
    rcases Int.le_total i.t i.f with h | h
    · rw [Int.min_eq_left (by omega), Int.max_eq_right (by omega)]
    · rw [Int.min_eq_right (by omega), Int.max_eq_left (by omega)]; exact Or.comm
  · rfl
theorem next40 (L : List Ins) (n : Nat) (i : Ins) (hL : Code_ L) (hi : L[n]? = some i) : Fun Try.prog 40 [.ro (L.map Ins.cells), int n] (.ro ((nxt n i).map irow)) := by
  have hn : n < L.length := (List.getElem?_eq_some_iff.1 hi).1
  have hlen := hL.len
  have hs := hL.safe n i hi
  simp only [Safe] at hs
  have hr : (L.map Ins.cells)[n]? = some i.cells := by simp [hi]
  have hj := isBranch_fun i.op
  refine Fun.of (TriR.of (tri_of Try.func40 rfl Try.ntmps40 rfl fun j => ?_))
  repeat' (first | (with_reducible first | refine aw_seq ?_ | refine rl_nil ?_ | refine aw_region ?_ | refine then_n ?_ | refine aw_block ?_ | refine then_exit ?_ | refine then_ret ?_ | refine in_n ?_ | refine in_ret ?_ | refine aw_exit ?_ | refine aw_ret ?_ | refine aw_skip ?_ | refine in_exit_eq rfl ?_) | ((with_reducible refine k_move ?_); refine rl_pure (pv_move rfl) rfl rfl rfl ?_) | ((with_reducible refine k_assign ?_); refine rl_pure (pv_assign rfl) rfl rfl rfl ?_) | ((with_reducible refine k_load ?_); refine rl_val (vv_load_ro (by rfl) (by rfl) by_bd) rfl rfl rfl ?_) | ((with_reducible refine k_fieldAddr ?_); refine rl_pure (pv_fieldAddr_ro rfl) rfl rfl rfl ?_) | ((with_reducible refine k_eql ?_); refine rl_pure (pv_eql rfl rfl) rfl rfl rfl ?_) | ((with_reducible refine k_add ?_); refine rl_pure (pv_add_in rfl rfl (by omega)) rfl rfl rfl ?_) | ((with_reducible refine k_min ?_); refine rl_pure (pv_min2 rfl rfl) rfl rfl rfl ?_) | ((with_reducible refine k_max ?_); refine rl_pure (pv_max2 rfl rfl) rfl rfl rfl ?_) | ((with_reducible refine k_indexAddr ?_); refine rl_pure (pv_indexAddr_ro (by rfl) rfl (by omega) (by first | rfl | assumption) (by first | rfl | exact ins_len _ | exact prow_len _)) rfl rfl rfl ?_) | ((with_reducible refine k_buildSlice ?_); refine rl_op rfl (op_buildSlice_ro rfl rfl rfl (by rfl) (by rfl) (by rfl) (by rfl) rfl by_rows ?_)) | (with_reducible refine dl_nil by_app ?_) | ((with_reducible refine kd_move ?_); refine dl_pure (by assumption) (pv_move rfl) by_wants rfl rfl ?_) | ((with_reducible refine kd_assign ?_); refine dl_pure (by assumption) (pv_assign rfl) by_wants rfl rfl ?_) | ((with_reducible refine kd_fieldAddr ?_); refine dl_pure (by assumption) (pv_fieldAddr_ro rfl) by_wants rfl rfl ?_) | ((with_reducible refine kd_add ?_); refine dl_pure (by assumption) (pv_add_in rfl rfl (by omega)) by_wants rfl rfl ?_) | ((with_reducible refine kd_indexAddr ?_); refine dl_pure (by assumption) (pv_indexAddr_ro (by rfl) rfl (by omega) (by first | rfl | assumption) (by first | rfl | exact ins_len _ | exact prow_len _)) by_wants rfl rfl ?_) | ((with_reducible refine kd_load ?_); refine dl_take (by assumption) (hv_load_ro (by assumption) (by rfl) (by rfl) by_bd) by_wants rfl rfl ?_) | (refine aw_draw (id := 6) [(false, 0), (false, 1), (false, 2), (false, 3), (false, 4), (false, 5), (false, 6), (false, 7), (false, 8), (false, 9), (false, 10), (false, 11), (false, 12), (false, 13), (false, 14), (false, 15), (false, 16), (false, 17)] [] (by kernel_rfl) (by decide +kernel) (by decide) by_lit .nil by_nos fun jd hjd => ?_) | ((with_reducible refine k_callv ?_); refine rl_op rfl (op_callF rfl rfl (hj) rfl ?_)) | (((with_reducible refine k_cond ?_); refine aw_cond rfl ?_ ?_) <;> intro hb <;> (have hc := hb) <;> (try simp only [decide_eq_true_eq, decide_eq_false_iff_not, Int.not_lt, Int.not_le, ne_eq, Bool.not_eq_true, Bool.not_eq_false, Decidable.not_not] at hc) <;> (try (exfalso; omega)) <;> (try (first | contradiction | (cases hc; done)))))
  all_goals first
  | (refine ret_r (ret1 rfl (res_le (res_tmp rfl) le_nil_ro) (List.nil_sublist _) ⟨_, rfl, ?_⟩)
     exact ⟨by rw [nxt, if_pos (by omega)]; rfl, rfl⟩)
  | ((first | refine ret_r (ret1 rfl by_res (List.nil_sublist _) ⟨_, rfl, ?_⟩) | refine ret_n (ret1 rfl by_res (List.nil_sublist _) ⟨_, rfl, ?_⟩))
     refine ⟨?_, rfl⟩
     first
     | (rw [nxt, if_neg (by omega), if_pos (by omega)]; rfl)
     | (rw [nxt, if_neg (by omega), if_neg (by omega), if_pos (by simp at *; omega), if_neg (by omega)]; rfl)
     | (rw [nxt, if_neg (by omega), if_neg (by omega), if_pos (by simp at *; omega), if_pos (by omega)]; rfl)
     | (rw [nxt, if_neg (by omega), if_neg (by omega), if_neg (by simp at *; omega)]; rfl))
/-- A row of bools. -/
def brs (n : Nat) (B : Int → Bool) : List (List V) := (List.range n).map fun (q : Nat) => [bool (B (q : Int))]
theorem brs_len (n : Nat) (B : Int → Bool) : (brs n B).length = n := by simp [brs]
theorem brs_get {n : Nat} (B : Int → Bool) {q : Nat} (h : q < n) : (brs n B)[q]? = some [bool (B q)] := by simp [brs, h]
theorem brs_set {n : Nat} (B : Int → Bool) {q : Nat} : (brs n B).set q [bool true] = brs n fun k => B k || decide (k = q) := by
  apply List.ext_getElem?
  intro k
  rw [List.getElem?_set]
  split
  · rename_i e
    subst e
    rw [brs_len]
    split
    · rename_i h
      rw [brs_get _ h]; simp
    · rename_i h
      rw [List.getElem?_eq_none (by rw [brs_len]; omega)]
  · rename_i e
    by_cases h : k < n
    · rw [brs_get _ h, brs_get _ h]
      simp [show ¬ (k : Int) = (q : Int) by omega]
    · rw [List.getElem?_eq_none (by rw [brs_len]; omega), List.getElem?_eq_none (by rw [brs_len]; omega)]
theorem brs_cong {n : Nat} {B C : Int → Bool} (h : ∀ q, B q = C q) : brs n B = brs n C := by rw [show B = C from funext h]
theorem brs_rep (n : Nat) : List.replicate n [bool false] = brs n fun _ => false := by
  apply List.ext_getElem?
  intro k
  by_cases h : k < n
  · rw [brs_get _ h]; simp [h]
  · rw [List.getElem?_eq_none (by rw [List.length_replicate]; omega), List.getElem?_eq_none (by rw [brs_len]; omega)]
theorem st_brs {N : Nat} {j : J Try.prog N} {Q : Exit → Sl → List Ch → Prop} {K : Sl → List Ch → Prop} {s : Sl} {H H' : List Ch} {ty : TypeId} {pos : String} {after : Array Edge} {x y : Operand} {sv : Value} {n : Nat} {B : Int → Bool} {q : Int}
    (hx : s.ev x = some (.vp sv 1 q.toNat 0)) (hy : s.ev y = some (bool true)) (hu : Upd (.vec sv 4 1 (brs n B)) (.vec sv 4 1 (brs n fun k => B k || decide (k = q))) H H') (hq : 0 ≤ q ∧ q < (n : Int))
    (h : K s H') : OP j ⟨none, .store 4 x y, ty, pos, after, none⟩ K Q s H := by
  refine op_store_vp (E := 4) (rows := brs n B) (r := [bool (B q)]) hx hy (V.okc_or rfl) ?_ ?_ rfl (by decide) h
  · have e : (brs n B).set q.toNat (setAll [bool (B q)] 0 (bool true).cells) = brs n fun k => B k || decide (k = q) := by
      show (brs n B).set q.toNat [bool true] = _
      rw [brs_set, show ((q.toNat : Nat) : Int) = q by omega]
    rw [e]
    exact hu
  · rw [brs_get _ (by omega), show ((q.toNat : Nat) : Int) = q by omega]
theorem blkTo_cong {B C : Int → Bool} : ∀ k : Nat, (∀ q : Nat, q < k → B q = C q) → blkTo B k = blkTo C k
  | 0, _ => rfl
  | k + 1, h => by rw [blkTo, blkTo, h k (Nat.lt_succ_self _), blkTo_cong k fun q hq => h q (Nat.lt_succ_of_lt hq)]
theorem fol_range {L : List Ins} {n : Nat} {i : Ins} (hL : Code_ L) (hi : L[n]? = some i) : ∀ q ∈ fol n i, (n : Int) < q ∧ q < L.length := by
  have hs := hL.safe n i hi
  simp only [Safe] at hs
  have hn : n < L.length := (List.getElem?_eq_some_iff.1 hi).1
  have hlast : i.op ≠ 32 → n + 1 < L.length := fun h => by
    rcases Nat.lt_or_ge (n + 1) L.length with h1 | h1
    · exact h1
    · exact absurd (hL.last i (by rw [← hi]; congr 1; omega)) h
  intro q hq
  unfold fol at hq
  repeat' split at hq
  all_goals simp only [List.mem_cons, List.not_mem_nil, or_false] at hq
  all_goals first
  | exact hq.elim
  | (have := hlast (by omega); omega)
theorem nxt_range {L : List Ins} {n : Nat} {i : Ins} (hL : Code_ L) (hi : L[n]? = some i) : ∀ q ∈ nxt n i, (n : Int) < q ∧ q < L.length := fun q hq => by
  have := nxt_mem n i q
  rw [show (nxt n i).contains q = true from List.contains_iff_mem.2 hq] at this
  exact fol_range hL hi q (List.contains_iff_mem.1 this.symm)
theorem mor (a b : Bool) : (match a with | true => true | false => b) = (a || b) := by cases a <;> rfl
theorem blocks15 (L : List Ins) : Fun Try.prog 15 [.ro (L.map Ins.cells)] (.tup [.ro ((blkP L).map prow), int (chk L).2]) := by
  have hck := check9 L
  refine Fun.of (TriR.of (tri_of Try.func15 rfl Try.ntmps15 rfl fun j => ?_))
  repeat' (first | (with_reducible first | refine aw_seq ?_ | refine rl_nil ?_ | refine aw_region ?_ | refine then_n ?_ | refine aw_block ?_ | refine then_exit ?_ | refine then_ret ?_ | refine in_n ?_ | refine in_ret ?_ | refine aw_exit ?_ | refine aw_ret ?_ | refine aw_skip ?_ | refine in_exit_eq rfl ?_) | ((with_reducible refine k_move ?_); refine rl_pure (pv_move rfl) rfl rfl rfl ?_) | ((with_reducible refine k_assign ?_); refine rl_pure (pv_assign rfl) rfl rfl rfl ?_) | ((with_reducible refine k_neq ?_); refine rl_pure (pv_neq rfl rfl) rfl rfl rfl ?_) | ((with_reducible refine k_extract ?_); refine rl_pure (pv_extract rfl rfl) rfl rfl rfl ?_) | ((with_reducible refine k_len ?_); refine rl_pure (pv_len_ro' (by rfl) by_len) rfl rfl rfl ?_) | ((with_reducible refine k_callv ?_); refine rl_op rfl (op_callF rfl rfl (hck) rfl ?_)) | (((with_reducible refine k_cond ?_); refine aw_cond rfl ?_ ?_) <;> intro hb <;> (have hc := hb) <;> (try simp only [decide_eq_true_eq, decide_eq_false_iff_not, Int.not_lt, Int.not_le, ne_eq, Bool.not_eq_true, Bool.not_eq_false, Decidable.not_not] at hc) <;> (try (exfalso; omega)) <;> (try (first | contradiction | (cases hc; done)))))
  · refine ret_r (ret2 rfl (res_le (res_tmp rfl) le_nil_ro) (res_tmp rfl) (List.nil_sublist _) ⟨_, rfl, ?_⟩)
    exact ⟨by rw [blkP, if_neg (by omega)]; rfl, rfl⟩
  · have hL := chk_code (L := L) (by omega)
    have hlen := hL.len
    repeat' (first | (with_reducible first | refine aw_seq ?_ | refine rl_nil ?_ | refine aw_region ?_ | refine then_n ?_ | refine aw_block ?_ | refine then_exit ?_ | refine then_ret ?_ | refine in_n ?_ | refine in_ret ?_ | refine aw_exit ?_ | refine aw_ret ?_ | refine aw_skip ?_ | refine in_exit_eq rfl ?_) | ((with_reducible refine k_move ?_); refine rl_pure (pv_move rfl) rfl rfl rfl ?_) | ((with_reducible refine k_assign ?_); refine rl_pure (pv_assign rfl) rfl rfl rfl ?_) | ((with_reducible refine k_add ?_); refine rl_pure (pv_add_in rfl rfl (by omega)) rfl rfl rfl ?_) | ((with_reducible refine k_len ?_); refine rl_pure (pv_len_ro' (by rfl) by_len) rfl rfl rfl ?_) | ((with_reducible refine k_indexAddr ?_); refine rl_pure (pv_indexAddr_own (by rfl) by_memb rfl (by first | omega | (simp only [List.length_cons, List.length_nil, List.length_append, List.length_map, List.length_replicate, List.length_set, brs_len]; omega))) rfl rfl rfl ?_) | ((with_reducible refine k_makeSlice ?_); refine rl_op rfl (op_makeSlice rfl rfl rfl rfl by_bound by_bound rfl fun sv => ?_)))
    rw [show List.replicate (L.length + 1) [V.raw (.bool false)] = brs (L.length + 1) fun _ => false from brs_rep _]
    repeat' (first | (with_reducible first | refine aw_seq ?_ | refine rl_nil ?_ | refine aw_region ?_ | refine then_n ?_ | refine aw_block ?_ | refine then_exit ?_ | refine then_ret ?_ | refine in_n ?_ | refine in_ret ?_ | refine aw_exit ?_ | refine aw_ret ?_ | refine aw_skip ?_ | refine in_exit_eq rfl ?_) | ((with_reducible refine k_assign ?_); refine rl_pure (pv_assign rfl) rfl rfl rfl ?_) | ((with_reducible refine k_indexAddr ?_); refine rl_pure (pv_indexAddr_own (by rfl) by_memb rfl (by first | omega | (simp only [List.length_cons, List.length_nil, List.length_append, List.length_map, List.length_replicate, List.length_set, brs_len]; omega))) rfl rfl rfl ?_) | ((with_reducible refine k_store ?_); refine rl_op rfl (st_brs (by rfl) (by rfl) by_upd by_bound ?_)))
    refine aw_iter (α := Nat × (Int → Bool)) (fun q => [(0, .ro (L.map Ins.cells)), (6, .own sv), (7, int q.1)])
      (fun q => [.vec sv 4 1 (brs (L.length + 1) q.2)]) (fun q => q.1 ≤ L.length ∧ ∀ x, q.2 x = (begs L q.1 x || decide (x = (L.length : Int)))) (fun q => L.length - q.1)
      (0, _) ⟨Nat.zero_le _, fun x => ?_⟩ (by (repeat (first | exact sub_nil | refine sub_cons (by first | rfl | (simp; done)) ?_))) (.cons .here .nil) fun q hI => ?_
    · simp [begs]
      exact mor _ _
    obtain ⟨n, B⟩ := q
    dsimp only at hI ⊢
    obtain ⟨hn, hB⟩ := hI
    rcases Nat.lt_or_ge n L.length with h | h
    · obtain ⟨i, hi⟩ : ∃ i, L[n]? = some i := ⟨_, List.getElem?_eq_getElem h⟩
      have hr : (L.map Ins.cells)[n]? = some i.cells := by simp [hi]
      have hj := isBranch_fun i.op
      have hnx := next40 L n i hL hi
      have hbg := begs_succ hi
      have hrg := nxt_range hL hi
      have hff : (nxt n i).length ≤ 2 := by
        unfold nxt
        repeat' split
        all_goals simp
      by_cases hct : ctl i
      · simp only [hct, decide_true, Bool.true_and] at hbg
        repeat' (first | (with_reducible first | refine aw_seq ?_ | refine rl_nil ?_ | refine aw_region ?_ | refine then_n ?_ | refine aw_block ?_ | refine then_exit ?_ | refine then_ret ?_ | refine in_n ?_ | refine in_ret ?_ | refine aw_exit ?_ | refine aw_ret ?_ | refine aw_skip ?_ | refine in_exit_eq rfl ?_) | ((with_reducible refine k_move ?_); refine rl_pure (pv_move rfl) rfl rfl rfl ?_) | ((with_reducible refine k_assign ?_); refine rl_pure (pv_assign rfl) rfl rfl rfl ?_) | ((with_reducible refine k_load ?_); refine rl_val (vv_load_ro (by rfl) (by rfl) by_bd) rfl rfl rfl ?_) | ((with_reducible refine k_fieldAddr ?_); refine rl_pure (pv_fieldAddr_ro rfl) rfl rfl rfl ?_) | ((with_reducible refine k_eql ?_); refine rl_pure (pv_eql rfl rfl) rfl rfl rfl ?_) | ((with_reducible refine k_lss ?_); refine rl_pure (pv_lss rfl rfl) rfl rfl rfl ?_) | ((with_reducible refine k_add ?_); refine rl_pure (pv_add_in rfl rfl (by omega)) rfl rfl rfl ?_) | ((with_reducible refine k_len ?_); refine rl_pure (pv_len_ro' (by rfl) by_len) rfl rfl rfl ?_) | ((with_reducible refine k_indexAddr ?_); (first | refine rl_pure (pv_indexAddr_ro (by rfl) rfl (by omega) (by first | rfl | assumption) (by first | rfl | exact ins_len _ | exact prow_len _)) rfl rfl rfl ?_ | refine rl_pure (pv_indexAddr_own (by rfl) by_memb rfl (by first | omega | (simp only [List.length_cons, List.length_nil, List.length_append, List.length_map, List.length_replicate, List.length_set, brs_len]; omega))) rfl rfl rfl ?_)) | ((with_reducible refine k_pick ?_); (first | refine rl_pure (pv_pick_t rfl by_bd rfl) rfl rfl rfl ?_ | refine rl_pure (pv_pick_f rfl by_bd rfl) rfl rfl rfl ?_)) | ((with_reducible refine k_guard ?_); (first | refine rl_on_yes rfl rfl rfl by_bd rfl ?_ | refine rl_off_f rfl rfl rfl by_bd rfl ?_)) | ((with_reducible refine k_cond ?_); refine aw_cond_t rfl ?_) | ((with_reducible refine k_callv ?_); (first | refine rl_op rfl (op_callF rfl rfl (hj) rfl ?_) | refine rl_op rfl (op_callF rfl rfl (hnx) rfl ?_))) | ((with_reducible refine k_store ?_); refine rl_op rfl (st_brs (by rfl) (by rfl) by_upd by_bound ?_)) | (((with_reducible refine k_guard ?_); first | refine rl_if_t rfl rfl rfl rfl ?_ ?_ | refine rl_if_f rfl rfl rfl rfl ?_ ?_) <;> intro hb <;> (have hc := hb) <;> (try simp only [decide_eq_true_eq, decide_eq_false_iff_not, Int.not_lt, Int.not_le, ne_eq, Bool.not_eq_true, Bool.not_eq_false, Decidable.not_not] at hc) <;> (try (exfalso; omega)) <;> (try (first | contradiction | (cases hc; done)))) | (((with_reducible refine k_cond ?_); refine aw_cond rfl ?_ ?_) <;> intro hb <;> (have hc := hb) <;> (try simp only [decide_eq_true_eq, decide_eq_false_iff_not, Int.not_lt, Int.not_le, ne_eq, Bool.not_eq_true, Bool.not_eq_false, Decidable.not_not] at hc) <;> (try (exfalso; omega)) <;> (try (first | contradiction | (cases hc; done)))))
        all_goals first
        | (exfalso; simp only [decide_eq_false_iff_not] at hc; simp only [ctl] at hct; omega)
        | skip
        all_goals
          refine aw_iter (α := Nat × (Int → Bool)) (fun q => [(0, .ro (L.map Ins.cells)), (6, .own sv), (7, int n), (8, .ro ((nxt n i).map irow)), (9, int q.1)])
            (fun q => [.vec sv 4 1 (brs (L.length + 1) q.2)]) (fun q => q.1 ≤ (nxt n i).length ∧ ∀ x, q.2 x = ((begs L n x || decide (x = (L.length : Int))) || (decide (x = (n : Int) + 1) || ((nxt n i).take q.1).contains x))) (fun q => (nxt n i).length - q.1)
            (0, _) ⟨Nat.zero_le _, fun x => ?_⟩ (by (repeat (first | exact sub_nil | refine sub_cons (by first | rfl | (simp; done)) ?_))) (.cons .here .nil) fun q hI => ?_
          · simp [hB]
            exact mor _ _
          obtain ⟨k, C⟩ := q
          dsimp only at hI ⊢
          obtain ⟨hk, hC⟩ := hI
          rcases Nat.lt_or_ge k (nxt n i).length with h2 | h2
          · obtain ⟨y, hy⟩ : ∃ y, (nxt n i)[k]? = some y := ⟨_, List.getElem?_eq_getElem h2⟩
            have hr2 : ((nxt n i).map irow)[k]? = some (irow y) := by simp [hy]
            have hyr := hrg y (List.mem_of_getElem? hy)
            have ht : (nxt n i).take (k + 1) = (nxt n i).take k ++ [y] := by
              obtain ⟨_, rfl⟩ := List.getElem?_eq_some_iff.1 hy
              exact List.take_succ_eq_append_getElem h2
            repeat' (first | (with_reducible first | refine aw_seq ?_ | refine rl_nil ?_ | refine aw_region ?_ | refine then_n ?_ | refine aw_block ?_ | refine then_exit ?_ | refine then_ret ?_ | refine in_n ?_ | refine in_ret ?_ | refine aw_exit ?_ | refine aw_ret ?_ | refine aw_skip ?_ | refine in_exit_eq rfl ?_) | ((with_reducible refine k_move ?_); refine rl_pure (pv_move rfl) rfl rfl rfl ?_) | ((with_reducible refine k_assign ?_); refine rl_pure (pv_assign rfl) rfl rfl rfl ?_) | ((with_reducible refine k_load ?_); refine rl_val (vv_load_ro (by rfl) (by rfl) by_bd) rfl rfl rfl ?_) | ((with_reducible refine k_lss ?_); refine rl_pure (pv_lss rfl rfl) rfl rfl rfl ?_) | ((with_reducible refine k_add ?_); refine rl_pure (pv_add_in rfl rfl (by omega)) rfl rfl rfl ?_) | ((with_reducible refine k_len ?_); refine rl_pure (pv_len_ro' (by rfl) by_len) rfl rfl rfl ?_) | ((with_reducible refine k_indexAddr ?_); (first | refine rl_pure (pv_indexAddr_ro (by rfl) rfl (by omega) (by first | rfl | assumption) (by first | rfl | exact ins_len _ | exact prow_len _)) rfl rfl rfl ?_ | refine rl_pure (pv_indexAddr_own (by rfl) by_memb rfl (by first | omega | (simp only [List.length_cons, List.length_nil, List.length_append, List.length_map, List.length_replicate, List.length_set, brs_len]; omega))) rfl rfl rfl ?_)) | ((with_reducible refine k_store ?_); refine rl_op rfl (st_brs (by rfl) (by rfl) by_upd by_bound ?_)) | (((with_reducible refine k_cond ?_); refine aw_cond rfl ?_ ?_) <;> intro hb <;> (have hc := hb) <;> (try simp only [decide_eq_true_eq, decide_eq_false_iff_not, Int.not_lt, Int.not_le, ne_eq, Bool.not_eq_true, Bool.not_eq_false, Decidable.not_not] at hc) <;> (try (exfalso; omega)) <;> (try (first | contradiction | (cases hc; done)))))
            refine next_of (R := []) (k + 1, _) ⟨h2, fun x => ?_⟩ (by dsimp only; omega) (by (repeat (first | exact sub_nil | refine sub_cons (by first | rfl | (simp; done)) ?_))) (.cons .here .nil)
            dsimp only
            rw [hC, ht]
            refine (mor _ _).trans ?_
            simp [Bool.or_assoc]
          · repeat' (first | (with_reducible first | refine aw_seq ?_ | refine rl_nil ?_ | refine aw_region ?_ | refine then_n ?_ | refine aw_block ?_ | refine then_exit ?_ | refine then_ret ?_ | refine in_n ?_ | refine in_ret ?_ | refine aw_exit ?_ | refine aw_ret ?_ | refine aw_skip ?_ | refine in_exit_eq rfl ?_) | ((with_reducible refine k_move ?_); refine rl_pure (pv_move rfl) rfl rfl rfl ?_) | ((with_reducible refine k_assign ?_); refine rl_pure (pv_assign rfl) rfl rfl rfl ?_) | ((with_reducible refine k_lss ?_); refine rl_pure (pv_lss rfl rfl) rfl rfl rfl ?_) | ((with_reducible refine k_add ?_); refine rl_pure (pv_add_in rfl rfl (by omega)) rfl rfl rfl ?_) | ((with_reducible refine k_len ?_); refine rl_pure (pv_len_ro' (by rfl) by_len) rfl rfl rfl ?_) | (((with_reducible refine k_cond ?_); refine aw_cond rfl ?_ ?_) <;> intro hb <;> (have hc := hb) <;> (try simp only [decide_eq_true_eq, decide_eq_false_iff_not, Int.not_lt, Int.not_le, ne_eq, Bool.not_eq_true, Bool.not_eq_false, Decidable.not_not] at hc) <;> (try (exfalso; omega)) <;> (try (first | contradiction | (cases hc; done)))))
            rw [List.take_of_length_le h2] at hC
            refine next_of (R := []) (n + 1, C) ⟨h, fun x => ?_⟩ (by dsimp only; omega) (by (repeat (first | exact sub_nil | refine sub_cons (by first | rfl | (simp; done)) ?_))) (.cons .here .nil)
            dsimp only
            rw [hC, hbg, nxt_mem]
            simp only [Bool.or_assoc, Bool.or_comm, Bool.or_left_comm]
      · simp only [hct, decide_false, Bool.false_and, Bool.or_false] at hbg
        simp only [ctl] at hct
        repeat' (first | (with_reducible first | refine aw_seq ?_ | refine rl_nil ?_ | refine aw_region ?_ | refine then_n ?_ | refine aw_block ?_ | refine then_exit ?_ | refine then_ret ?_ | refine in_n ?_ | refine in_ret ?_ | refine aw_exit ?_ | refine aw_ret ?_ | refine aw_skip ?_ | refine in_exit_eq rfl ?_) | ((with_reducible refine k_move ?_); refine rl_pure (pv_move rfl) rfl rfl rfl ?_) | ((with_reducible refine k_assign ?_); refine rl_pure (pv_assign rfl) rfl rfl rfl ?_) | ((with_reducible refine k_load ?_); refine rl_val (vv_load_ro (by rfl) (by rfl) by_bd) rfl rfl rfl ?_) | ((with_reducible refine k_fieldAddr ?_); refine rl_pure (pv_fieldAddr_ro rfl) rfl rfl rfl ?_) | ((with_reducible refine k_eql ?_); refine rl_pure (pv_eql rfl rfl) rfl rfl rfl ?_) | ((with_reducible refine k_lss ?_); refine rl_pure (pv_lss rfl rfl) rfl rfl rfl ?_) | ((with_reducible refine k_add ?_); refine rl_pure (pv_add_in rfl rfl (by omega)) rfl rfl rfl ?_) | ((with_reducible refine k_len ?_); refine rl_pure (pv_len_ro' (by rfl) by_len) rfl rfl rfl ?_) | ((with_reducible refine k_indexAddr ?_); refine rl_pure (pv_indexAddr_ro (by rfl) rfl (by omega) (by first | rfl | assumption) (by first | rfl | exact ins_len _ | exact prow_len _)) rfl rfl rfl ?_) | ((with_reducible refine k_pick ?_); refine rl_pure (pv_pick_f rfl by_bd rfl) rfl rfl rfl ?_) | ((with_reducible refine k_guard ?_); refine rl_on_yes rfl rfl rfl by_bd rfl ?_) | ((with_reducible refine k_callv ?_); refine rl_op rfl (op_callF rfl rfl (hj) rfl ?_)) | (((with_reducible refine k_guard ?_); first | refine rl_if_t rfl rfl rfl rfl ?_ ?_ | refine rl_if_f rfl rfl rfl rfl ?_ ?_) <;> intro hb <;> (have hc := hb) <;> (try simp only [decide_eq_true_eq, decide_eq_false_iff_not, Int.not_lt, Int.not_le, ne_eq, Bool.not_eq_true, Bool.not_eq_false, Decidable.not_not] at hc) <;> (try (exfalso; omega)) <;> (try (first | contradiction | (cases hc; done)))) | (((with_reducible refine k_cond ?_); refine aw_cond rfl ?_ ?_) <;> intro hb <;> (have hc := hb) <;> (try simp only [decide_eq_true_eq, decide_eq_false_iff_not, Int.not_lt, Int.not_le, ne_eq, Bool.not_eq_true, Bool.not_eq_false, Decidable.not_not] at hc) <;> (try (exfalso; omega)) <;> (try (first | contradiction | (cases hc; done)))))
        all_goals first
        | (exfalso; simp only [decide_eq_true_eq] at hc; omega)
        | skip
        exact next_of (R := []) (n + 1, B) ⟨h, fun x => by dsimp only; rw [hB, hbg]⟩ (by dsimp only; omega) (by (repeat (first | exact sub_nil | refine sub_cons (by first | rfl | (simp; done)) ?_))) (.cons .here .nil)
    · have hn' : n = L.length := by omega
      subst hn'
      repeat' (first | (with_reducible first | refine aw_seq ?_ | refine rl_nil ?_ | refine aw_region ?_ | refine then_n ?_ | refine aw_block ?_ | refine then_exit ?_ | refine then_ret ?_ | refine in_n ?_ | refine in_ret ?_ | refine aw_exit ?_ | refine aw_ret ?_ | refine aw_skip ?_ | refine in_exit_eq rfl ?_) | ((with_reducible refine k_move ?_); refine rl_pure (pv_move rfl) rfl rfl rfl ?_) | ((with_reducible refine k_assign ?_); refine rl_pure (pv_assign rfl) rfl rfl rfl ?_) | ((with_reducible refine k_lss ?_); refine rl_pure (pv_lss rfl rfl) rfl rfl rfl ?_) | ((with_reducible refine k_len ?_); refine rl_pure (pv_len_ro' (by rfl) by_len) rfl rfl rfl ?_) | (((with_reducible refine k_cond ?_); refine aw_cond rfl ?_ ?_) <;> intro hb <;> (have hc := hb) <;> (try simp only [decide_eq_true_eq, decide_eq_false_iff_not, Int.not_lt, Int.not_le, ne_eq, Bool.not_eq_true, Bool.not_eq_false, Decidable.not_not] at hc) <;> (try (exfalso; omega)) <;> (try (first | contradiction | (cases hc; done)))))
      refine aw_nil_own 10 51 2 rfl ?_
      refine aw_iter (α := Nat × Value × List (Int × Int) × Int) (fun q => [(0, .ro (L.map Ins.cells)), (6, .own sv), (10, .own q.2.1), (11, int q.2.2.2), (12, int q.1)])
        (fun q => [.vec q.2.1 51 2 (q.2.2.1.map prow), .vec sv 4 1 (brs (L.length + 1) B)])
        (fun q => (1 ≤ q.1 ∧ q.1 ≤ L.length + 1) ∧ q.2.2.1.length < q.1 ∧ if q.1 ≤ L.length then blkTo (begs L L.length) q.1 = q.2.2.1 ++ [(q.2.2.2, (q.1 : Int) - 1)] else q.2.2.1 = blkTo (begs L L.length) L.length) (fun q => L.length + 1 - q.1)
        (1, _, [], 0) ⟨⟨by decide, by dsimp only; omega⟩, by decide, by rw [if_pos (by dsimp only; omega)]; simp [blkTo, begs_zero L]⟩ (by (repeat (first | exact sub_nil | refine sub_cons (by first | rfl | (simp; done)) ?_))) (.cons .here (.cons .here .nil)) fun q hI => ?_
      obtain ⟨k, so, out, fr⟩ := q
      dsimp only at hI ⊢
      obtain ⟨hk, hol, hO⟩ := hI
      rcases Nat.lt_or_ge L.length k with h2 | h2
      · rw [if_neg (by omega)] at hO
        refine aw_freeze (d := 10) rfl by_take ?_
        repeat' (first | (with_reducible first | refine aw_seq ?_ | refine rl_nil ?_ | refine aw_region ?_ | refine then_n ?_ | refine aw_block ?_ | refine then_exit ?_ | refine then_ret ?_ | refine in_n ?_ | refine in_ret ?_ | refine aw_exit ?_ | refine aw_ret ?_ | refine aw_skip ?_ | refine in_exit_eq rfl ?_) | ((with_reducible refine k_move ?_); refine rl_pure (pv_move rfl) rfl rfl rfl ?_) | ((with_reducible refine k_assign ?_); refine rl_pure (pv_assign rfl) rfl rfl rfl ?_) | ((with_reducible refine k_leq ?_); refine rl_pure (pv_leq rfl rfl) rfl rfl rfl ?_) | ((with_reducible refine k_len ?_); refine rl_pure (pv_len_ro' (by rfl) by_len) rfl rfl rfl ?_) | (((with_reducible refine k_cond ?_); refine aw_cond rfl ?_ ?_) <;> intro hb <;> (have hc := hb) <;> (try simp only [decide_eq_true_eq, decide_eq_false_iff_not, Int.not_lt, Int.not_le, ne_eq, Bool.not_eq_true, Bool.not_eq_false, Decidable.not_not] at hc) <;> (try (exfalso; omega)) <;> (try (first | contradiction | (cases hc; done)))))
        (first | refine ret_r (ret2 rfl by_res by_res (List.nil_sublist _) ⟨_, rfl, ?_⟩) | refine ret_n (ret2 rfl by_res by_res (List.nil_sublist _) ⟨_, rfl, ?_⟩))
        exact ⟨by rw [blkP, if_pos (by omega), show (chk L).2 = 0 by omega, hO]; rfl, rfl⟩
      · rw [if_pos h2] at hO
        have hg := brs_get (n := L.length + 1) B (q := k) (by omega)
        cases hBk : B k with
        | true =>
          rw [hBk] at hg
          repeat' (first | (with_reducible first | refine aw_seq ?_ | refine rl_nil ?_ | refine aw_region ?_ | refine then_n ?_ | refine aw_block ?_ | refine then_exit ?_ | refine then_ret ?_ | refine in_n ?_ | refine in_ret ?_ | refine aw_exit ?_ | refine aw_ret ?_ | refine aw_skip ?_ | refine in_exit_eq rfl ?_) | ((with_reducible refine k_move ?_); refine rl_pure (pv_move rfl) rfl rfl rfl ?_) | ((with_reducible refine k_load ?_); refine rl_val (vv_load_vp (by rfl) by_memb by_bd (by rfl) by_bd) rfl rfl rfl ?_) | ((with_reducible refine k_leq ?_); refine rl_pure (pv_leq rfl rfl) rfl rfl rfl ?_) | ((with_reducible refine k_sub ?_); refine rl_pure (pv_sub_in rfl rfl (by omega)) rfl rfl rfl ?_) | ((with_reducible refine k_len ?_); refine rl_pure (pv_len_ro' (by rfl) by_len) rfl rfl rfl ?_) | ((with_reducible refine k_indexAddr ?_); refine rl_pure (pv_indexAddr_own (by rfl) by_memb rfl (by first | omega | (simp only [List.length_cons, List.length_nil, List.length_append, List.length_map, List.length_replicate, List.length_set, brs_len]; omega))) rfl rfl rfl ?_) | ((with_reducible refine k_build ?_); refine rl_pure (pv_build_arr rfl by_fill (by rfl)) rfl rfl rfl ?_) | ((with_reducible refine k_buildSlice ?_); refine rl_op rfl (op_buildSlice_ro rfl rfl rfl (by rfl) (by rfl) (by rfl) (by rfl) rfl by_rows ?_)) | ((with_reducible refine k_cond ?_); refine aw_cond_t rfl ?_) | (((with_reducible refine k_cond ?_); refine aw_cond rfl ?_ ?_) <;> intro hb <;> (have hc := hb) <;> (try simp only [decide_eq_true_eq, decide_eq_false_iff_not, Int.not_lt, Int.not_le, ne_eq, Bool.not_eq_true, Bool.not_eq_false, Decidable.not_not] at hc) <;> (try (exfalso; omega)) <;> (try (first | contradiction | (cases hc; done)))))
          (first | refine rl_op rfl (op_append rfl .here rfl rfl rfl rfl (by intro r hr; rcases List.mem_singleton.1 hr with rfl; rfl) (by first | omega | (simp only [List.length_map, List.length_cons, List.length_nil]; omega)) rfl fun sv' => ?_) | (refine dl_op (by assumption) by_wants (op_append rfl .here rfl rfl rfl rfl (by intro r hr; rcases List.mem_singleton.1 hr with rfl; rfl) (by first | omega | (simp only [List.length_map, List.length_cons, List.length_nil]; omega)) rfl fun sv' => ?_); intro jd hjd))
          repeat' (first | (with_reducible first | refine aw_seq ?_ | refine rl_nil ?_ | refine aw_region ?_ | refine then_n ?_ | refine aw_block ?_ | refine then_exit ?_ | refine then_ret ?_ | refine in_n ?_ | refine in_ret ?_ | refine aw_exit ?_ | refine aw_ret ?_ | refine aw_skip ?_ | refine in_exit_eq rfl ?_) | ((with_reducible refine k_move ?_); refine rl_pure (pv_move rfl) rfl rfl rfl ?_) | ((with_reducible refine k_assign ?_); refine rl_pure (pv_assign rfl) rfl rfl rfl ?_) | ((with_reducible refine k_add ?_); refine rl_pure (pv_add_in rfl rfl (by omega)) rfl rfl rfl ?_))
          refine next_of (R := []) (k + 1, sv', out ++ [(fr, (k : Int) - 1)], (k : Int)) ⟨⟨by dsimp only; omega, by dsimp only; omega⟩, by simp; omega, ?_⟩ (by dsimp only; omega) (by (repeat (first | exact sub_nil | refine sub_cons (by first | rfl | (simp; done)) ?_))) ?_
          · dsimp only
            split
            · rename_i h3
              have hbt : begs L L.length k = true := by
                have := hB k
                rw [hBk] at this
                simpa [show ¬ (k : Int) = (L.length : Int) by omega] using this.symm
              rw [blkTo, if_pos hbt, hO, show ((k + 1 : Nat) : Int) - 1 = k by omega]
            · rw [← hO, show k = L.length by omega]
          · rw [List.map_append]
            exact (.cons .here (.cons .here .nil))
        | false =>
          rw [hBk] at hg
          have hkl : k ≠ L.length := fun e => by
            have := hB k
            rw [hBk, e] at this
            simp at this
          have hbt : begs L L.length k = false := by
            have := hB k
            rw [hBk] at this
            simpa [show ¬ (k : Int) = (L.length : Int) by omega] using this.symm
          repeat' (first | (with_reducible first | refine aw_seq ?_ | refine rl_nil ?_ | refine aw_region ?_ | refine then_n ?_ | refine aw_block ?_ | refine then_exit ?_ | refine then_ret ?_ | refine in_n ?_ | refine in_ret ?_ | refine aw_exit ?_ | refine aw_ret ?_ | refine aw_skip ?_ | refine in_exit_eq rfl ?_) | ((with_reducible refine k_move ?_); refine rl_pure (pv_move rfl) rfl rfl rfl ?_) | ((with_reducible refine k_assign ?_); refine rl_pure (pv_assign rfl) rfl rfl rfl ?_) | ((with_reducible refine k_load ?_); refine rl_val (vv_load_vp (by rfl) by_memb by_bd (by rfl) by_bd) rfl rfl rfl ?_) | ((with_reducible refine k_leq ?_); refine rl_pure (pv_leq rfl rfl) rfl rfl rfl ?_) | ((with_reducible refine k_add ?_); refine rl_pure (pv_add_in rfl rfl (by omega)) rfl rfl rfl ?_) | ((with_reducible refine k_len ?_); refine rl_pure (pv_len_ro' (by rfl) by_len) rfl rfl rfl ?_) | ((with_reducible refine k_indexAddr ?_); refine rl_pure (pv_indexAddr_own (by rfl) by_memb rfl (by first | omega | (simp only [List.length_cons, List.length_nil, List.length_append, List.length_map, List.length_replicate, List.length_set, brs_len]; omega))) rfl rfl rfl ?_) | ((with_reducible refine k_cond ?_); refine aw_cond_f rfl ?_) | (((with_reducible refine k_cond ?_); refine aw_cond rfl ?_ ?_) <;> intro hb <;> (have hc := hb) <;> (try simp only [decide_eq_true_eq, decide_eq_false_iff_not, Int.not_lt, Int.not_le, ne_eq, Bool.not_eq_true, Bool.not_eq_false, Decidable.not_not] at hc) <;> (try (exfalso; omega)) <;> (try (first | contradiction | (cases hc; done)))))
          refine next_of (R := []) (k + 1, so, out, fr) ⟨⟨by dsimp only; omega, by dsimp only; omega⟩, by dsimp only; omega, ?_⟩ (by dsimp only; omega) (by (repeat (first | exact sub_nil | refine sub_cons (by first | rfl | (simp; done)) ?_))) (.cons .here (.cons .here .nil))
          dsimp only
          rw [if_pos (by omega), blkTo, if_neg (by simp [hbt]), hO, show ((k + 1 : Nat) : Int) - 1 = k by omega]
          simp
end Go.Proofs.Ytobablbklkpchaa
