import Derived.Test.YtobablbklkpchaaK2
set_option linter.unusedVariables false
set_option linter.unusedSimpArgs false
namespace Go.Proofs.Ytobablbklkpchaa
open Go Go.AX
set_option maxHeartbeats 2000000
attribute [local irreducible] AW RL OP PureV ValV HV DL Tri TriR Fun RetOk ResV
/-- The small machine: A, X, the cells; dead: the run has ended. -/
structure M where
  (a x : Int) (c : Nat → Int) (dead : Bool)
def mcells (real : Int) (rows : List (List V)) (m : M) : List V :=
  [int m.a, int m.x, int (m.c 0), int (m.c 1), int (m.c 2), int (m.c 3), int (m.c 4), int (m.c 5), int (m.c 6), int (m.c 7), int (m.c 8), int (m.c 9), int (m.c 10), int (m.c 11), int (m.c 12), int (m.c 13), int (m.c 14), int (m.c 15), int real, .ro rows, bool m.dead]
def rcells (real : Int) (rows : List (List V)) (m : M) (taken : Bool) : List V :=
  [int m.a, int m.x, int (m.c 0), int (m.c 1), int (m.c 2), int (m.c 3), int (m.c 4), int (m.c 5), int (m.c 6), int (m.c 7), int (m.c 8), int (m.c 9), int (m.c 10), int (m.c 11), int (m.c 12), int (m.c 13), int (m.c 14), int (m.c 15), int real, .ro rows, bool m.dead, bool taken]
abbrev brow (b : Int) : List V := [byte b]
abbrev Bytes (data : List Int) : Prop := ∀ b ∈ data, 0 ≤ b ∧ b ≤ 255
def acc (l : List Int) : Int := l.foldl (fun v b => 256 * v + b) 0
theorem acc_snoc (l : List Int) (b : Int) : acc (l ++ [b]) = 256 * acc l + b := by simp [acc]
theorem acc_from : ∀ (l : List Int) (v : Int), Bytes l → 0 ≤ v → 0 ≤ l.foldl (fun v b => 256 * v + b) v ∧ l.foldl (fun v b => 256 * v + b) v < (v + 1) * (256 : Int) ^ l.length
  | [], v, _, hv => by simp; omega
  | b :: l, v, hb, hv => by
    have h2 := hb b (List.mem_cons_self ..)
    have h1 := acc_from l (256 * v + b) (fun y hy => hb y (List.mem_cons_of_mem _ hy)) (by omega)
    simp only [List.foldl_cons, List.length_cons]
    refine ⟨h1.1, Int.lt_of_lt_of_le h1.2 ?_⟩
    rw [Int.pow_succ, Int.mul_comm ((256 : Int) ^ l.length) 256, ← Int.mul_assoc]
    exact Int.mul_le_mul_of_nonneg_right (by omega) (Int.pow_nonneg (by omega))
theorem acc_bound (l : List Int) (h : Bytes l) : 0 ≤ acc l ∧ acc l < (256 : Int) ^ l.length := by
  have := acc_from l 0 h (Int.le_refl _)
  simpa [acc] using this
theorem acc_small {l : List Int} (h : Bytes l) (h4 : l.length ≤ 4) : 0 ≤ acc l ∧ acc l < 4294967296 := by
  have := acc_bound l h
  refine ⟨this.1, Int.lt_of_lt_of_le this.2 ?_⟩
  have : l.length = 0 ∨ l.length = 1 ∨ l.length = 2 ∨ l.length = 3 ∨ l.length = 4 := by omega
  rcases this with h | h | h | h | h <;> rw [h] <;> decide
def loadN (data : List Int) (at_ n : Int) : Option Int :=
  if (data.length : Int) - n < at_ then none else some (acc ((data.drop at_.toNat).take n.toNat))
theorem shl_or (v b : Int) (hv : 0 ≤ v) (hv2 : v < 4294967296) (h0 : 0 ≤ b) (h1 : b ≤ 255) : ior .i64 (ishl .i64 v 8) b = 256 * v + b := by
  obtain ⟨v, rfl⟩ := Int.eq_ofNat_of_zero_le hv
  obtain ⟨b, rfl⟩ := Int.eq_ofNat_of_zero_le h0
  have e1 : ishl .i64 (v : Int) 8 = ((256 * v : Nat) : Int) := by
    show IntKind.i64.wrap ((v : Int) * 2 ^ (8 : Nat)) = _
    rw [IntWalk.i64_in _ (by omega)]
    omega
  rw [e1, ior_nat _ _ (by omega) (by omega)]
  have := Nat.two_pow_add_eq_or_of_lt (i := 8) (b := b) (by omega) v
  rw [show (256 * v ||| b) = 256 * v + b from this.symm]
  omega
theorem load51 (b : Nat) (real : Int) (data : List Int) (m : M) (at_ n : Int) (hd : Bytes data) (hdl : data.length ≤ 1000000) (h0 : 0 ≤ at_ ∧ at_ ≤ 1099511627776) (hn : 0 < n ∧ n ≤ 4) :
    TriR Try.prog 51 [.raw (.pointer (some ⟨b, 0, none⟩)), int at_, int n] [.box b 58 (mcells real (data.map brow) m)] fun v H' =>
      v = int ((loadN data at_ n).getD 0) ∧ H' = [.box b 58 (mcells real (data.map brow) { m with dead := m.dead || (loadN data at_ n).isNone })] := by
  refine TriR.of (tri_of Try.func51 rfl Try.ntmps51 rfl fun j => ?_)
  repeat' (first | (with_reducible first | refine aw_seq ?_ | refine rl_nil ?_ | refine aw_region ?_ | refine then_n ?_ | refine aw_block ?_ | refine then_exit ?_ | refine then_ret ?_ | refine in_n ?_ | refine in_ret ?_ | refine aw_exit ?_ | refine aw_ret ?_ | refine aw_skip ?_ | refine in_exit_eq rfl ?_) | ((with_reducible refine k_move ?_); refine rl_pure (pv_move rfl) rfl rfl rfl ?_) | ((with_reducible refine k_assign ?_); refine rl_pure (pv_assign rfl) rfl rfl rfl ?_) | ((with_reducible refine k_load ?_); refine rl_val (vv_load_box (by rfl) by_memb (by rfl) by_bd) rfl rfl rfl ?_) | ((with_reducible refine k_fieldAddr ?_); refine rl_pure (pv_fieldAddr rfl) rfl rfl rfl ?_) | ((with_reducible refine k_store ?_); refine rl_op rfl (op_store_box (by rfl) (by rfl) (V.okc_or (by rfl)) by_upd (by rfl) (by first | exact Nat.le_of_ble_eq_true rfl | assumption) ?_)) | ((with_reducible refine k_lss ?_); refine rl_pure (pv_lss rfl rfl) rfl rfl rfl ?_) | ((with_reducible refine k_gtr ?_); refine rl_pure (pv_gtr rfl rfl) rfl rfl rfl ?_) | ((with_reducible refine k_add ?_); refine rl_pure (pv_add_in rfl rfl (by omega)) rfl rfl rfl ?_) | ((with_reducible refine k_sub ?_); refine rl_pure (pv_sub_in rfl rfl (by omega)) rfl rfl rfl ?_) | ((with_reducible refine k_len ?_); refine rl_pure (pv_len_ro' (by rfl) by_len) rfl rfl rfl ?_) | ((with_reducible refine k_nilCheck ?_); refine rl_pure (pv_nilCheck rfl) rfl rfl rfl ?_) | ((with_reducible refine k_slice ?_); refine rl_pure (pv_slice_ro (by rfl) rfl rfl by_bound (by first | (intro r hr; simp at hr; done) | (intro r hr; obtain ⟨_, _, rfl⟩ := List.mem_map.1 hr; rfl) | exact ins_len _)) rfl rfl rfl ?_) | ((with_reducible refine k_pick ?_); refine rl_pure (pv_pick_f rfl by_bd rfl) rfl rfl rfl ?_) | ((with_reducible refine k_guard ?_); refine rl_on_yes rfl rfl rfl by_bd rfl ?_) | (((with_reducible refine k_guard ?_); first | refine rl_if_t rfl rfl rfl rfl ?_ ?_ | refine rl_if_f rfl rfl rfl rfl ?_ ?_) <;> intro hb <;> (have hc := hb) <;> (try simp only [decide_eq_true_eq, decide_eq_false_iff_not, Int.not_lt, Int.not_le, ne_eq, Bool.not_eq_true, Bool.not_eq_false, Decidable.not_not] at hc) <;> (try (exfalso; omega)) <;> (try (first | contradiction | (cases hc; done)))) | (((with_reducible refine k_cond ?_); refine aw_cond rfl ?_ ?_) <;> intro hb <;> (have hc := hb) <;> (try simp only [decide_eq_true_eq, decide_eq_false_iff_not, Int.not_lt, Int.not_le, ne_eq, Bool.not_eq_true, Bool.not_eq_false, Decidable.not_not] at hc) <;> (try (exfalso; omega)) <;> (try (first | contradiction | (cases hc; done)))))
  · (first | refine ret_r (retok_pick (.cons .here .nil) (ret1 rfl by_res (List.Sublist.refl _) ⟨_, rfl, ?_⟩)) | refine ret_n (retok_pick (.cons .here .nil) (ret1 rfl by_res (List.Sublist.refl _) ⟨_, rfl, ?_⟩)))
    have e : loadN data at_ n = none := by rw [loadN, if_pos (by omega)]
    rw [e]
    refine ⟨rfl, ?_⟩
    simp only [Option.isNone_none, Bool.or_true]
    rfl
  · have e : loadN data at_ n = some (acc ((data.drop at_.toNat).take n.toNat)) := by rw [loadN, if_neg (by omega)]
    rw [e]
    have hR : ((data.map brow).drop at_.toNat).take ((at_ + n).toNat - at_.toNat) = ((data.drop at_.toNat).take n.toNat).map brow := by
      rw [show (at_ + n).toNat - at_.toNat = n.toNat by omega]
      simp [List.map_drop, List.map_take]
    have hS : ((data.drop at_.toNat).take n.toNat).length = n.toNat := by
      simp only [List.length_take, List.length_drop]; omega
    have hB : Bytes ((data.drop at_.toNat).take n.toNat) := fun y hy => hd y (List.mem_of_mem_drop (List.mem_of_mem_take hy))
    generalize (data.drop at_.toNat).take n.toNat = S at hR hS hB
    have hRl : (((data.map brow).drop at_.toNat).take ((at_ + n).toNat - at_.toNat)).length = S.length := by rw [hR, List.length_map]
    refine aw_iter (α := Nat) (fun i => [(34, .ro (((data.map brow).drop at_.toNat).take ((at_ + n).toNat - at_.toNat))), (35, int (((data.map brow).drop at_.toNat).take ((at_ + n).toNat - at_.toNat)).length), (36, int i), (7, int (acc (S.take i)))])
      (fun i => [.box b 58 (mcells real (data.map brow) m)]) (fun i => i ≤ S.length) (fun i => S.length - i) 0 (Nat.zero_le _) (by (repeat (first | exact sub_nil | refine sub_cons (by first | rfl | (simp; done)) ?_))) (.cons .here .nil) fun i hi => ?_
    have hts : 0 ≤ acc (S.take i) ∧ acc (S.take i) < 4294967296 := acc_small (fun y hy => hB y (List.mem_of_mem_take hy)) (by simp only [List.length_take]; omega)
    rcases Nat.lt_or_ge i S.length with h | h
    · obtain ⟨y, hy⟩ : ∃ y, S[i]? = some y := ⟨_, List.getElem?_eq_getElem h⟩
      have hr : (((data.map brow).drop at_.toNat).take ((at_ + n).toNat - at_.toNat))[i]? = some (brow y) := by rw [hR]; simp [hy]
      have hyb := hB y (List.mem_of_getElem? hy)
      have ha : S.take (i + 1) = S.take i ++ [y] := by
        obtain ⟨_, rfl⟩ := List.getElem?_eq_some_iff.1 hy
        exact List.take_succ_eq_append_getElem h
      repeat' (first | (with_reducible first | refine aw_seq ?_ | refine rl_nil ?_ | refine aw_region ?_ | refine then_n ?_ | refine aw_block ?_ | refine then_exit ?_ | refine then_ret ?_ | refine in_n ?_ | refine in_ret ?_ | refine aw_exit ?_ | refine aw_ret ?_ | refine aw_skip ?_ | refine in_exit_eq rfl ?_) | ((with_reducible refine k_move ?_); refine rl_pure (pv_move rfl) rfl rfl rfl ?_) | ((with_reducible refine k_assign ?_); refine rl_pure (pv_assign rfl) rfl rfl rfl ?_) | ((with_reducible refine k_load ?_); refine rl_val (vv_load_ro (by rfl) (by rfl) by_bd) rfl rfl rfl ?_) | ((with_reducible refine k_lss ?_); refine rl_pure (pv_lss rfl rfl) rfl rfl rfl ?_) | ((with_reducible refine k_add ?_); refine rl_pure (pv_add_in rfl rfl (by omega)) rfl rfl rfl ?_) | ((with_reducible refine k_indexAddr ?_); refine rl_pure (pv_indexAddr_ro (by rfl) rfl (by omega) (by first | rfl | assumption) (by first | rfl | exact ins_len _)) rfl rfl rfl ?_) | ((with_reducible refine k_or ?_); refine rl_pure (pv_or rfl rfl) rfl rfl rfl ?_) | ((with_reducible refine k_shl ?_); refine rl_pure (pv_shl rfl rfl (by omega)) rfl rfl rfl ?_) | ((with_reducible refine k_convert ?_); refine rl_pure (pv_convert_in rfl (by first | rfl | exact IntWalk.i64_in _ (by omega) | exact IntWalk.u8_in _ (by omega) | exact IntWalk.u32_in _ (by omega))) rfl rfl rfl ?_) | (((with_reducible refine k_cond ?_); refine aw_cond rfl ?_ ?_) <;> intro hb <;> (have hc := hb) <;> (try simp only [decide_eq_true_eq, decide_eq_false_iff_not, Int.not_lt, Int.not_le, ne_eq, Bool.not_eq_true, Bool.not_eq_false, Decidable.not_not] at hc) <;> (try (exfalso; omega)) <;> (try (first | contradiction | (cases hc; done)))))
      refine next_of (R := []) (i + 1) (by omega) (by omega) ?_ (.cons .here .nil)
      rw [ha, acc_snoc, ← shl_or _ _ hts.1 (by omega) hyb.1 hyb.2]
      (repeat (first | exact sub_nil | refine sub_cons (by first | rfl | (simp; done)) ?_))
    · repeat' (first | (with_reducible first | refine aw_seq ?_ | refine rl_nil ?_ | refine aw_region ?_ | refine then_n ?_ | refine aw_block ?_ | refine then_exit ?_ | refine then_ret ?_ | refine in_n ?_ | refine in_ret ?_ | refine aw_exit ?_ | refine aw_ret ?_ | refine aw_skip ?_ | refine in_exit_eq rfl ?_) | ((with_reducible refine k_move ?_); refine rl_pure (pv_move rfl) rfl rfl rfl ?_) | ((with_reducible refine k_assign ?_); refine rl_pure (pv_assign rfl) rfl rfl rfl ?_) | ((with_reducible refine k_lss ?_); refine rl_pure (pv_lss rfl rfl) rfl rfl rfl ?_) | (((with_reducible refine k_cond ?_); refine aw_cond rfl ?_ ?_) <;> intro hb <;> (have hc := hb) <;> (try simp only [decide_eq_true_eq, decide_eq_false_iff_not, Int.not_lt, Int.not_le, ne_eq, Bool.not_eq_true, Bool.not_eq_false, Decidable.not_not] at hc) <;> (try (exfalso; omega)) <;> (try (first | contradiction | (cases hc; done)))))
      (first | refine ret_r (retok_pick (.cons .here .nil) (ret1 rfl by_res (List.Sublist.refl _) ⟨_, rfl, ?_⟩)) | refine ret_n (retok_pick (.cons .here .nil) (ret1 rfl by_res (List.Sublist.refl _) ⟨_, rfl, ?_⟩)))
      rw [List.take_of_length_le h]
      exact ⟨rfl, by simp only [Option.isNone_some, Bool.or_false]⟩
end Go.Proofs.Ytobablbklkpchaa
