import Derived.Test.YtepmllodaoanmaaK37
set_option linter.unusedVariables false
set_option linter.unusedSimpArgs false
namespace Go.Proofs.Ytepmllodaoanmaa
open Go Go.AX
set_option maxHeartbeats 8000000
set_option maxRecDepth 20000
attribute [local irreducible] AW RL OP PureV ValV HV DL DX Tri TriR Fun RetOk ResV
def gOf (bs : List Int) : Nat → Int := fun i => bs.getD i 0
def bitL (V n : Nat) : List Int := (List.range n).map fun i => ((V / 2 ^ (n - 1 - i) % 2 : Nat) : Int)
/-- A list of bits. -/
def B01 (bs : List Int) : Prop := ∀ x ∈ bs, x = 0 ∨ x = 1
theorem bitL_len (V n : Nat) : (bitL V n).length = n := by simp [bitL]
theorem bitL_b (V n : Nat) : B01 (bitL V n) := fun x hx => by
  obtain ⟨i, _, rfl⟩ := List.mem_map.1 hx
  omega
theorem b01_app {a b : List Int} (ha : B01 a) (hb : B01 b) : B01 (a ++ b) := fun x hx => by
  rcases List.mem_append.1 hx with h | h
  · exact ha x h
  · exact hb x h
theorem gOf_bit {bs : List Int} (h : B01 bs) : Bit (gOf bs) := fun i => by
  unfold gOf
  rw [List.getD_eq_getElem?_getD]
  cases e : bs[i]? with
  | none => exact .inl rfl
  | some x => exact h x (List.mem_of_getElem? e)
theorem gOf_out {bs : List Int} {i : Nat} (h : bs.length ≤ i) : gOf bs i = 0 := by
  unfold gOf
  rw [List.getD_eq_getElem?_getD, List.getElem?_eq_none h]
  rfl
theorem gOf_app (bs : List Int) (V n : Nat) : putG (gOf bs) bs.length n V 0 = gOf (bs ++ bitL V n) := by
  funext i
  unfold putG
  rcases Nat.lt_or_ge i bs.length with h | h
  · rw [if_neg (by omega)]
    unfold gOf
    rw [List.getD_eq_getElem?_getD, List.getD_eq_getElem?_getD, List.getElem?_append_left h]
  · rcases Nat.lt_or_ge i (bs.length + n) with h2 | h2
    · rw [if_pos ⟨by omega, h2⟩]
      unfold gOf bitL
      rw [List.getD_eq_getElem?_getD, List.getElem?_append_right h, List.getElem?_map, List.getElem?_range (by omega)]
      simp only [Option.map_some, Option.getD_some]
      rw [show bs.length + n - 1 - i = n - 1 - (i - bs.length) by omega]
    · rw [if_neg (by omega), gOf_out h, gOf_out (by rw [List.length_append, bitL_len]; omega)]
theorem pad_succ (m : Nat) (g : Nat → Int) : padN (m + 1) g = padN m g ++ [byt g m] := by
  unfold padN
  rw [List.range_succ, List.map_append]
  rfl
theorem byt_zero {g : Nat → Int} {i : Nat} (h : ∀ k, 8 * i ≤ k → g k = 0) : byt g i = 0 := by
  unfold byt
  rw [h _ (by omega), h _ (by omega), h _ (by omega), h _ (by omega), h _ (by omega), h _ (by omega), h _ (by omega), h _ (by omega)]
  rfl
/-- A packer that has written some bits; where these are too many bytes it is full. -/
def PkS (p : Nat) (bs : List Int) (H : List Ch) : Prop := ∃ sv, ((bs.length + 7) / 8 ≤ 4000 ∧ H = [.box p 63 [.own sv, int bs.length, bool false], .vec sv 5 1 ((padN ((bs.length + 7) / 8) (gOf bs)).map br)]) ∨
  (4000 < (bs.length + 7) / 8 ∧ ∃ (rows : List (List V)) (at_ : Nat), rows.length ≤ 4100 ∧ at_ ≤ 32000 ∧ H = [.box p 63 [.own sv, int at_, bool true], .vec sv 5 1 rows])
theorem put63 (p : Nat) (bs : List Int) (n U : Nat) (hB : B01 bs) (hn : n ≤ 48) (hV : U < 2 ^ n) {H : List Ch} (hH : PkS p bs H) :
    TriR Try.prog 63 [ptr p, int n, int U] H fun v H' => v = .tup [] ∧ PkS p (bs ++ bitL U n) H' := by
  obtain ⟨sv, ⟨hl, rfl⟩ | ⟨hl, rows, at_, hrl, hat, rfl⟩⟩ := hH
  · have hg := gOf_bit hB
    have hL : (bs ++ bitL U n).length = bs.length + n := by rw [List.length_append, bitL_len]
    obtain ⟨L, hLe⟩ : ∃ L, bs.length = L := ⟨_, rfl⟩
    have hout : ∀ k, L ≤ k → gOf bs k = 0 := fun k hk => gOf_out (hLe ▸ hk)
    rw [hLe] at hl ⊢
    refine TriR.of (tri_of Try.func63 rfl Try.ntmps63 rfl fun j => ?_)
    refine aw_seq ?_
    repeat' (with_reducible first | refine aw_seq ?_ | refine rl_nil ?_ | refine aw_region ?_ | refine then_n ?_ | refine aw_block ?_ | refine then_exit ?_ | refine then_ret ?_ | refine in_n ?_ | refine in_ret ?_ | refine aw_exit ?_ | refine aw_ret ?_ | refine aw_skip ?_ | refine in_exit_eq rfl ?_ | refine awr_succ ?_)
    refine aw_iter (α := Nat × Value) (fun q => [(0, ptr p), (1, int n), (2, int U)])
      (fun q => [.vec q.2 5 1 ((padN q.1 (gOf bs)).map br), .box p 63 [.own q.2, int L, bool false]]) (fun q => (L + 7) / 8 ≤ q.1 ∧ q.1 ≤ (L + n + 7) / 8) (fun q => (L + n + 7) / 8 - q.1)
      ((L + 7) / 8, sv) ⟨Nat.le_refl _, by dsimp only; omega⟩ (by (repeat (first | exact sub_nil | refine sub_cons (by first | rfl | (simp; done)) ?_))) (.cons (.there .here) (.cons .here .nil)) fun q hI => ?_
    obtain ⟨m, sv1⟩ := q
    dsimp only at hI ⊢
    obtain ⟨hm1, hm2⟩ := hI
    have hpl := padN_len m (gOf bs)
    have hps := pad_succ m (gOf bs)
    rw [byt_zero fun k hk => hout k (by omega)] at hps
    have hLn : (bs ++ bitL U n).length = L + n := by rw [hL, hLe]
    repeat' (first | (with_reducible first | refine aw_seq ?_ | refine rl_nil ?_ | refine aw_region ?_ | refine then_n ?_ | refine aw_block ?_ | refine then_exit ?_ | refine then_ret ?_ | refine in_n ?_ | refine in_ret ?_ | refine aw_exit ?_ | refine aw_ret ?_ | refine aw_skip ?_ | refine in_exit_eq rfl ?_ | refine awr_succ ?_) | ((with_reducible refine k_move ?_); refine rl_pure (pv_move rfl) rfl rfl rfl ?_) | ((with_reducible refine k_load ?_); refine rl_val (vv_load_box (by rfl) by_memb (by rfl) by_bd) rfl rfl rfl ?_) | ((with_reducible refine k_fieldAddr ?_); refine rl_pure (pv_fieldAddr rfl) rfl rfl rfl ?_) | ((with_reducible refine k_store ?_); refine rl_op rfl (op_store_box (by rfl) (by rfl) (V.okc_or (by rfl)) by_upd (by rfl) (by first | exact Nat.le_of_ble_eq_true rfl | assumption) ?_)) | ((with_reducible refine k_gtr ?_); refine rl_pure (pv_gtr rfl rfl) rfl rfl rfl ?_) | ((with_reducible refine k_len ?_); refine rl_pure (pv_len_own' (by rfl) by_memb by_len) rfl rfl rfl ?_) | ((with_reducible refine k_nilCheck ?_); refine rl_pure (pv_nilCheck rfl) rfl rfl rfl ?_) | ((with_reducible refine k_buildSlice ?_); refine rl_op rfl (op_buildSlice_ro rfl rfl rfl (by rfl) (by rfl) (by rfl) (by rfl) rfl by_rows ?_)) | ((with_reducible refine k_pick ?_); refine rl_pure (pv_pick_f rfl by_bd rfl) rfl rfl rfl ?_) | ((with_reducible refine k_guard ?_); refine rl_on_yes rfl rfl rfl by_bd rfl ?_) | (with_reducible refine dl_nil by_app ?_) | ((with_reducible refine kd_move ?_); refine dl_pure (by assumption) (pv_move rfl) by_wants rfl rfl ?_) | ((with_reducible refine kd_fieldAddr ?_); refine dl_pure (by assumption) (pv_fieldAddr rfl) by_wants rfl rfl ?_) | ((with_reducible refine kd_lss ?_); refine dl_pure (by assumption) (pv_lss rfl rfl) by_wants rfl rfl ?_) | ((with_reducible refine kd_add ?_); refine dl_pure (by assumption) (pv_add_in rfl rfl (by omega)) by_wants rfl rfl ?_) | ((with_reducible refine kd_mul ?_); refine dl_pure (by assumption) (pv_mul_in rfl rfl (by omega)) by_wants rfl rfl ?_) | ((with_reducible refine kd_len ?_); refine dl_pure (by assumption) (pv_len_own' (by rfl) by_memj by_len) by_wants rfl rfl ?_) | ((with_reducible refine kd_nilCheck ?_); refine dl_pure (by assumption) (pv_nilCheck rfl) by_wants rfl rfl ?_) | ((with_reducible refine kd_load ?_); refine dl_take (by assumption) (hv_load_box (by assumption) (by rfl) by_mem0 (by rfl) by_bd) by_wants rfl rfl ?_) | (refine aw_draw (id := 0) [(false, 0), (false, 1), (false, 2), (false, 3), (false, 4), (false, 5), (false, 6), (false, 7), (false, 8), (false, 9), (false, 10), (false, 11), (false, 12)] [] (by kernel_rfl) (by decide +kernel) (by decide) by_lit .nil by_nos fun jd hjd => ?_) | (((with_reducible refine k_cond ?_); refine aw_cond rfl ?_ ?_) <;> ((fail_if_success (refine imp_known (by assumption) ?_)); (intro hb <;> (have hc := hb) <;> (try simp only [decide_eq_true_eq, decide_eq_false_iff_not, Int.not_lt, Int.not_le, ne_eq, Bool.not_eq_true, Bool.not_eq_false, Decidable.not_not] at hc) <;> (try (exfalso; omega)) <;> (try (exfalso; simp only [Bool.not_eq_eq_eq_not, Bool.not_true, Bool.not_false, decide_eq_true_eq, decide_eq_false_iff_not, ne_eq, Decidable.not_not, Int.not_lt, Int.not_le] at hc; omega)) <;> (try (first | contradiction | (cases hc; done))) <;> (try (first | exact absurd (hb.symm.trans (by assumption) : true = false) (by decide) | exact absurd (hb.symm.trans (by assumption) : false = true) (by decide)))))))
    · (first | refine rl_op rfl (op_append rfl .here rfl rfl rfl rfl (by first | (intro r hr; obtain ⟨_, _, rfl⟩ := List.mem_map.1 hr; rfl) | (simp; done) | (simp [V.cells]; done)) by_small rfl fun sv' => ?_) | (refine dl_op (by assumption) by_wants (op_append rfl .here rfl rfl rfl rfl (by first | (intro r hr; obtain ⟨_, _, rfl⟩ := List.mem_map.1 hr; rfl) | (simp; done) | (simp [V.cells]; done)) by_small rfl fun sv' => ?_); intro jd hjd))
      repeat' (first | (with_reducible first | refine aw_seq ?_ | refine rl_nil ?_ | refine aw_region ?_ | refine then_n ?_ | refine aw_block ?_ | refine then_exit ?_ | refine then_ret ?_ | refine in_n ?_ | refine in_ret ?_ | refine aw_exit ?_ | refine aw_ret ?_ | refine aw_skip ?_ | refine in_exit_eq rfl ?_ | refine awr_succ ?_) | ((with_reducible refine k_fieldAddr ?_); refine rl_pure (pv_fieldAddr rfl) rfl rfl rfl ?_) | ((with_reducible refine k_store ?_); refine rl_op rfl (op_store_box (by rfl) (by rfl) (V.okc_or (by rfl)) by_upd (by rfl) (by first | exact Nat.le_of_ble_eq_true rfl | assumption) ?_)) | ((with_reducible refine k_nilCheck ?_); refine rl_pure (pv_nilCheck rfl) rfl rfl rfl ?_))
      exact next_of (R := []) (m + 1, sv') ⟨by dsimp only; omega, by dsimp only; omega⟩ (by dsimp only; omega) (by (repeat (first | exact sub_nil | refine sub_cons (by first | rfl | (simp; done)) ?_))) (by rw [hps, List.map_append]; exact (.cons .here (.cons .here .nil)))
    · (first | refine ret_r (retok_pick (.cons (.there .here) (.cons .here .nil)) (ret0 rfl  (List.Sublist.refl _) ⟨_, rfl, ?_⟩)) | refine ret_n (retok_pick (.cons (.there .here) (.cons .here .nil)) (ret0 rfl  (List.Sublist.refl _) ⟨_, rfl, ?_⟩)))
      refine ⟨rfl, sv1, .inr ⟨by omega, (padN m (gOf bs)).map br, L, by rw [List.length_map]; omega, by omega, ?_⟩⟩
      rw [hb]
      rfl
    · have hm : m = (L + n + 7) / 8 := by omega
      refine aw_box_freeze 0 .here rfl .here ?_
      repeat' (first | ((with_reducible refine kd_move ?_); refine dl_pure (by assumption) (pv_move rfl) by_wants rfl rfl ?_) | ((with_reducible refine kd_fieldAddr ?_); refine dl_pure (by assumption) (pv_fieldAddr rfl) by_wants rfl rfl ?_) | ((with_reducible refine kd_nilCheck ?_); refine dl_pure (by assumption) (pv_nilCheck rfl) by_wants rfl rfl ?_) | ((with_reducible refine kd_load ?_); refine dl_take (by assumption) (hv_load_box (by assumption) (by rfl) by_mem0 (by rfl) by_bd) by_wants rfl rfl ?_) | (refine aw_draw (id := 4) [(false, 0), (false, 1), (false, 2), (false, 3), (false, 4), (false, 5), (false, 6), (false, 7), (false, 8), (false, 9), (true, 10), (false, 11), (false, 12), (false, 13), (false, 14), (false, 15)] [] (by kernel_rfl) (by decide +kernel) (by decide) by_lit .nil by_nos fun jd hjd => ?_))
      (first | refine rl_op rfl (op_callR rfl rfl .nil (Put87 m (gOf bs) L n U hg (by omega) hn (by omega) hV) rfl ?_) | refine dl_op (by assumption) by_wants (op_callR rfl rfl .nil (Put87 m (gOf bs) L n U hg (by omega) hn (by omega) hV) rfl ?_))
      rintro _ _ ⟨sv2, rfl, rfl⟩ jd hjd
      repeat' (first | (with_reducible first | refine aw_seq ?_ | refine rl_nil ?_ | refine aw_region ?_ | refine then_n ?_ | refine aw_block ?_ | refine then_exit ?_ | refine then_ret ?_ | refine in_n ?_ | refine in_ret ?_ | refine aw_exit ?_ | refine aw_ret ?_ | refine aw_skip ?_ | refine in_exit_eq rfl ?_ | refine awr_succ ?_) | ((with_reducible refine k_move ?_); refine rl_pure (pv_move rfl) rfl rfl rfl ?_) | ((with_reducible refine k_load ?_); refine rl_val (vv_load_box (by rfl) by_memb (by rfl) by_bd) rfl rfl rfl ?_) | ((with_reducible refine k_fieldAddr ?_); refine rl_pure (pv_fieldAddr rfl) rfl rfl rfl ?_) | ((with_reducible refine k_store ?_); refine rl_op rfl (op_store_box (by rfl) (by rfl) (V.okc_or (by rfl)) by_upd (by rfl) (by first | exact Nat.le_of_ble_eq_true rfl | assumption) ?_)) | ((with_reducible refine k_eql ?_); refine rl_pure (pv_eql rfl rfl) rfl rfl rfl ?_) | ((with_reducible refine k_add ?_); refine rl_pure (pv_add_in rfl rfl (by omega)) rfl rfl rfl ?_) | ((with_reducible refine k_nilCheck ?_); refine rl_pure (pv_nilCheck rfl) rfl rfl rfl ?_) | ((with_reducible refine k_cond ?_); refine aw_cond_t rfl ?_) | (with_reducible refine dl_nil by_app ?_) | ((with_reducible refine kd_move ?_); refine dl_pure (by assumption) (pv_move rfl) by_wants rfl rfl ?_) | ((with_reducible refine kd_assign ?_); refine dl_pure (by assumption) (pv_assign rfl) by_wants rfl rfl ?_) | ((with_reducible refine kd_extract ?_); refine dl_pure (by assumption) (pv_extract rfl rfl) by_wants rfl rfl ?_))
      (first | refine ret_r (retok_pick (.cons (.there .here) (.cons .here .nil)) (ret0 rfl  (List.Sublist.refl _) ⟨_, rfl, ?_⟩)) | refine ret_n (retok_pick (.cons (.there .here) (.cons .here .nil)) (ret0 rfl  (List.Sublist.refl _) ⟨_, rfl, ?_⟩)))
      refine ⟨rfl, sv2, .inl ⟨by omega, ?_⟩⟩
      rw [hLn, ← hm, ← gOf_app, hLe, hb, Int.natCast_add]
      rfl
  · refine TriR.of (tri_of Try.func63 rfl Try.ntmps63 rfl fun j => ?_)
    have hLn : (bs ++ bitL U n).length = bs.length + n := by rw [List.length_append, bitL_len]
    refine aw_seq ?_
    repeat' (with_reducible first | refine aw_seq ?_ | refine rl_nil ?_ | refine aw_region ?_ | refine then_n ?_ | refine aw_block ?_ | refine then_exit ?_ | refine then_ret ?_ | refine in_n ?_ | refine in_ret ?_ | refine aw_exit ?_ | refine aw_ret ?_ | refine aw_skip ?_ | refine in_exit_eq rfl ?_ | refine awr_succ ?_)
    refine aw_iter (α := List (List V) × Value) (fun q => [(0, ptr p), (1, int n), (2, int U)])
      (fun q => [.vec q.2 5 1 q.1, .box p 63 [.own q.2, int at_, bool true]]) (fun q => q.1.length ≤ 4100) (fun q => 4100 - q.1.length)
      (rows, sv) hrl (by (repeat (first | exact sub_nil | refine sub_cons (by first | rfl | (simp; done)) ?_))) (.cons (.there .here) (.cons .here .nil)) fun q hI => ?_
    obtain ⟨rs, sv1⟩ := q
    dsimp only at hI ⊢
    repeat' (first | (with_reducible first | refine aw_seq ?_ | refine rl_nil ?_ | refine aw_region ?_ | refine then_n ?_ | refine aw_block ?_ | refine then_exit ?_ | refine then_ret ?_ | refine in_n ?_ | refine in_ret ?_ | refine aw_exit ?_ | refine aw_ret ?_ | refine aw_skip ?_ | refine in_exit_eq rfl ?_ | refine awr_succ ?_) | ((with_reducible refine k_move ?_); refine rl_pure (pv_move rfl) rfl rfl rfl ?_) | ((with_reducible refine k_load ?_); refine rl_val (vv_load_box (by rfl) by_memb (by rfl) by_bd) rfl rfl rfl ?_) | ((with_reducible refine k_fieldAddr ?_); refine rl_pure (pv_fieldAddr rfl) rfl rfl rfl ?_) | ((with_reducible refine k_store ?_); refine rl_op rfl (op_store_box (by rfl) (by rfl) (V.okc_or (by rfl)) by_upd (by rfl) (by first | exact Nat.le_of_ble_eq_true rfl | assumption) ?_)) | ((with_reducible refine k_nilCheck ?_); refine rl_pure (pv_nilCheck rfl) rfl rfl rfl ?_) | ((with_reducible refine k_buildSlice ?_); refine rl_op rfl (op_buildSlice_ro rfl rfl rfl (by rfl) (by rfl) (by rfl) (by rfl) rfl by_rows ?_)) | ((with_reducible refine k_pick ?_); refine rl_pure (pv_pick_t rfl by_bd rfl) rfl rfl rfl ?_) | ((with_reducible refine k_guard ?_); refine rl_off_f rfl rfl rfl by_bd rfl ?_) | ((with_reducible refine k_cond ?_); refine aw_cond_t rfl ?_) | (with_reducible refine dl_nil by_app ?_) | ((with_reducible refine kd_move ?_); refine dl_pure (by assumption) (pv_move rfl) by_wants rfl rfl ?_) | ((with_reducible refine kd_fieldAddr ?_); refine dl_pure (by assumption) (pv_fieldAddr rfl) by_wants rfl rfl ?_) | ((with_reducible refine kd_lss ?_); refine dl_pure (by assumption) (pv_lss rfl rfl) by_wants rfl rfl ?_) | ((with_reducible refine kd_add ?_); refine dl_pure (by assumption) (pv_add_in rfl rfl (by omega)) by_wants rfl rfl ?_) | ((with_reducible refine kd_mul ?_); refine dl_pure (by assumption) (pv_mul_in rfl rfl (by omega)) by_wants rfl rfl ?_) | ((with_reducible refine kd_len ?_); refine dl_pure (by assumption) (pv_len_own' (by rfl) by_memj by_len) by_wants rfl rfl ?_) | ((with_reducible refine kd_nilCheck ?_); refine dl_pure (by assumption) (pv_nilCheck rfl) by_wants rfl rfl ?_) | ((with_reducible refine kd_load ?_); refine dl_take (by assumption) (hv_load_box (by assumption) (by rfl) by_mem0 (by rfl) by_bd) by_wants rfl rfl ?_) | (refine aw_draw (id := 0) [(false, 0), (false, 1), (false, 2), (false, 3), (false, 4), (false, 5), (false, 6), (false, 7), (false, 8), (false, 9), (false, 10), (false, 11), (false, 12)] [] (by kernel_rfl) (by decide +kernel) (by decide) by_lit .nil by_nos fun jd hjd => ?_) | (((with_reducible refine k_cond ?_); refine aw_cond rfl ?_ ?_) <;> ((fail_if_success (refine imp_known (by assumption) ?_)); (intro hb <;> (have hc := hb) <;> (try simp only [decide_eq_true_eq, decide_eq_false_iff_not, Int.not_lt, Int.not_le, ne_eq, Bool.not_eq_true, Bool.not_eq_false, Decidable.not_not] at hc) <;> (try (exfalso; omega)) <;> (try (exfalso; simp only [Bool.not_eq_eq_eq_not, Bool.not_true, Bool.not_false, decide_eq_true_eq, decide_eq_false_iff_not, ne_eq, Decidable.not_not, Int.not_lt, Int.not_le] at hc; omega)) <;> (try (first | contradiction | (cases hc; done))) <;> (try (first | exact absurd (hb.symm.trans (by assumption) : true = false) (by decide) | exact absurd (hb.symm.trans (by assumption) : false = true) (by decide)))))))
    · (first | refine rl_op rfl (op_append rfl .here rfl rfl rfl rfl (by first | (intro r hr; obtain ⟨_, _, rfl⟩ := List.mem_map.1 hr; rfl) | (simp; done) | (simp [V.cells]; done)) by_small rfl fun sv' => ?_) | (refine dl_op (by assumption) by_wants (op_append rfl .here rfl rfl rfl rfl (by first | (intro r hr; obtain ⟨_, _, rfl⟩ := List.mem_map.1 hr; rfl) | (simp; done) | (simp [V.cells]; done)) by_small rfl fun sv' => ?_); intro jd hjd))
      repeat' (first | (with_reducible first | refine aw_seq ?_ | refine rl_nil ?_ | refine aw_region ?_ | refine then_n ?_ | refine aw_block ?_ | refine then_exit ?_ | refine then_ret ?_ | refine in_n ?_ | refine in_ret ?_ | refine aw_exit ?_ | refine aw_ret ?_ | refine aw_skip ?_ | refine in_exit_eq rfl ?_ | refine awr_succ ?_) | ((with_reducible refine k_fieldAddr ?_); refine rl_pure (pv_fieldAddr rfl) rfl rfl rfl ?_) | ((with_reducible refine k_store ?_); refine rl_op rfl (op_store_box (by rfl) (by rfl) (V.okc_or (by rfl)) by_upd (by rfl) (by first | exact Nat.le_of_ble_eq_true rfl | assumption) ?_)) | ((with_reducible refine k_nilCheck ?_); refine rl_pure (pv_nilCheck rfl) rfl rfl rfl ?_))
      exact next_of (R := []) (rs ++ [[byte 0]], sv') (by simp only [List.length_append, List.length_cons, List.length_nil]; omega) (by simp only [List.length_append, List.length_cons, List.length_nil]; omega) (by (repeat (first | exact sub_nil | refine sub_cons (by first | rfl | (simp; done)) ?_))) (.cons .here (.cons .here .nil))
    · (first | refine ret_r (retok_pick (.cons (.there .here) (.cons .here .nil)) (ret0 rfl  (List.Sublist.refl _) ⟨_, rfl, ?_⟩)) | refine ret_n (retok_pick (.cons (.there .here) (.cons .here .nil)) (ret0 rfl  (List.Sublist.refl _) ⟨_, rfl, ?_⟩)))
      exact ⟨rfl, sv1, .inr ⟨by omega, rs, at_, hI, hat, rfl⟩⟩
/-- The same, with the state told by its parts. -/
def PkQ (bs : List Int) (at_ : Nat) (full : Bool) (rows : List (List V)) : Prop :=
  (full = false ∧ (bs.length + 7) / 8 ≤ 4000 ∧ at_ = bs.length ∧ rows = (padN ((bs.length + 7) / 8) (gOf bs)).map br) ∨ (full = true ∧ 4000 < (bs.length + 7) / 8 ∧ rows.length ≤ 4100 ∧ at_ ≤ 32000)
theorem pkQ_s {p : Nat} {bs : List Int} {at_ : Nat} {full : Bool} {rows : List (List V)} {sv : Value} (h : PkQ bs at_ full rows) : PkS p bs [.box p 63 [.own sv, int at_, bool full], .vec sv 5 1 rows] := by
  rcases h with ⟨rfl, h1, rfl, rfl⟩ | ⟨rfl, h1, h2, h3⟩
  · exact ⟨sv, .inl ⟨h1, rfl⟩⟩
  · exact ⟨sv, .inr ⟨h1, rows, at_, h2, h3, rfl⟩⟩
theorem pkS_q {p : Nat} {bs : List Int} {H : List Ch} (h : PkS p bs H) : ∃ (sv : Value) (at_ : Nat) (full : Bool) (rows : List (List V)), H = [.box p 63 [.own sv, int at_, bool full], .vec sv 5 1 rows] ∧ PkQ bs at_ full rows := by
  obtain ⟨sv, ⟨h1, rfl⟩ | ⟨h1, rows, at_, h2, h3, rfl⟩⟩ := h
  · exact ⟨sv, _, _, _, rfl, .inl ⟨rfl, h1, rfl, rfl⟩⟩
  · exact ⟨sv, _, _, _, rfl, .inr ⟨rfl, h1, h2, h3⟩⟩
theorem pkQ_full {bs cs : List Int} {at_ : Nat} {rows : List (List V)} (h : PkQ bs at_ true rows) : PkQ (bs ++ cs) at_ true rows := by
  rcases h with ⟨h1, _⟩ | ⟨_, h1, h2, h3⟩
  · cases h1
  · exact .inr ⟨rfl, by rw [List.length_append]; omega, h2, h3⟩
theorem put63Q (p : Nat) (bs : List Int) (n U : Nat) (hB : B01 bs) (hn : n ≤ 48) (hV : U < 2 ^ n) {sv : Value} {at_ : Nat} {full : Bool} {rows : List (List V)} (h : PkQ bs at_ full rows) :
    TriR Try.prog 63 [ptr p, int n, int U] [.box p 63 [.own sv, int at_, bool full], .vec sv 5 1 rows] fun v H' => v = .tup [] ∧ ∃ (sv' : Value) (at' : Nat) (full' : Bool) (rows' : List (List V)), H' = [.box p 63 [.own sv', int at', bool full'], .vec sv' 5 1 rows'] ∧ PkQ (bs ++ bitL U n) at' full' rows' :=
  TriR.of (Tri.mono (TriR.tri (put63 p bs n U hB hn hV (pkQ_s h))) fun ae H' ⟨v, h1, h2, h3⟩ => ⟨v, h1, h2, pkS_q h3⟩)
end Go.Proofs.Ytepmllodaoanmaa
