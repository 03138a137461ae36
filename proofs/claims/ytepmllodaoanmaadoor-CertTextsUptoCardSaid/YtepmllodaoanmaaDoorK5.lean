import Derived.Test.YtepmllodaoanmaaDoorK4
import Derived.Test.YtepmllodaoanmaaDoorK1
set_option linter.unusedVariables false
set_option linter.unusedSimpArgs false
namespace Go.Proofs.YtepmllodaoanmaaDoor
open Go Go.AX
set_option maxHeartbeats 8000000
set_option maxRecDepth 20000
attribute [local irreducible] AW RL RLI OP PureV ValV HV DL Tri TriR Fun RetOk ResV
theorem acc11 (A c : List Int) (nm : ByteArray) (hA : U8 A) (hc : U8 c) : strOfNums A ++ (⟨#[44, 32]⟩ : ByteArray) ++ nm ++ (⟨#[63]⟩ : ByteArray) ++ ((⟨#[32]⟩ : ByteArray) ++ strOfNums c) = strOfNums (A ++ [44, 32] ++ (nums nm ++ ([63] ++ (32 :: c)))) := by
  rw [← strOf_nums (_ ++ _)]
  congr 1
  simp only [nums_append, nums_strOf A hA, nums_strOf c hc]
  simp [nums]
theorem acc10 (A c : List Int) (nm : ByteArray) (hA : U8 A) (hc : U8 c) : strOfNums A ++ (⟨#[44, 32]⟩ : ByteArray) ++ nm ++ ((⟨#[32]⟩ : ByteArray) ++ strOfNums c) = strOfNums (A ++ [44, 32] ++ (nums nm ++ ([] ++ (32 :: c)))) := by
  rw [← strOf_nums (_ ++ _)]
  congr 1
  simp only [nums_append, nums_strOf A hA, nums_strOf c hc]
  simp [nums]
theorem acc01 (A c : List Int) (nm : ByteArray) (hA : U8 A) (hc : U8 c) : strOfNums A ++ nm ++ (⟨#[63]⟩ : ByteArray) ++ ((⟨#[32]⟩ : ByteArray) ++ strOfNums c) = strOfNums (A ++ [] ++ (nums nm ++ ([63] ++ (32 :: c)))) := by
  rw [← strOf_nums (_ ++ _)]
  congr 1
  simp only [nums_append, nums_strOf A hA, nums_strOf c hc]
  simp [nums]
theorem acc00 (A c : List Int) (nm : ByteArray) (hA : U8 A) (hc : U8 c) : strOfNums A ++ nm ++ ((⟨#[32]⟩ : ByteArray) ++ strOfNums c) = strOfNums (A ++ [] ++ (nums nm ++ ([] ++ (32 :: c)))) := by
  rw [← strOf_nums (_ ++ _)]
  congr 1
  simp only [nums_append, nums_strOf A hA, nums_strOf c hc]
  simp [nums]
theorem end_str (A : List Int) (hA : U8 A) : strOfNums A ++ (⟨#[125]⟩ : ByteArray) = strOfNums (A ++ [125]) := by
  rw [← strOf_nums (_ ++ _)]
  congr 1
  simp only [nums_append, nums_strOf A hA]
  simp [nums]
theorem lit_str {a : List UInt8} {b : List Int} (h : a.map (fun x => (x.toNat : Int)) = b) : (⟨a.toArray⟩ : ByteArray) = strOfNums b := by
  apply nums_inj
  rw [nums_strOf b (by intro v hv; rw [← h] at hv; obtain ⟨x, _, rfl⟩ := List.mem_map.1 hv; have := x.toNat_lt; omega)]
  exact h
theorem one_str2 (hi : Int) : (⟨#[111, 110, 101, 40]⟩ : ByteArray) ++ itoaT hi ++ (⟨#[41]⟩ : ByteArray) = strOfNums (w3 ++ (40 :: (itx hi ++ [41]))) := by
  rw [← strOf_nums (_ ++ _)]
  congr 1
  simp only [nums_append, nums_itx]
  simp [nums, w3]
theorem print25 : ∀ (n : Nat) (t : Typ), t.cnt ≤ n → n ≤ 100 → okT t = true → FunI 25 [.agg t.cells] (str (strOfNums (txtT t))) := by
  intro n
  induction n with
  | zero => intro t h; have := cnt_eq t; omega
  | succ n ih =>
    intro t hcn hn hok
    have hce := cnt_eq t
    have hlen := txtT_len _ t (Nat.le_refl _) hok
    obtain ⟨a0, a1, a2, a3, a4, a5, a6, a7⟩ := w_u8
    have hkid : ∀ x ∈ t.l, FunI 25 [.agg x.cells] (str (strOfNums (txtT x))) := fun x hx => ih x (by have := cntL_mem hx; omega) (by omega) (okT_kid hok x hx)
    have hklen : ∀ x ∈ t.l, (txtT x).length + 20 ≤ 100 * x.cnt := fun x hx => txtT_len _ x (Nat.le_refl _) (okT_kid hok x hx)
    clear ih
    rw [txtT_eq] at hlen ⊢
    have hs : ∀ a b : ByteArray, (a ++ b).size = a.size + b.size := fun a b => ByteArray.size_append
    have hd2 : (ByteArray.mk #[41]).size = 1 := rfl
    have hd3 : (ByteArray.mk #[32]).size = 1 := rfl
    have hd4 : (ByteArray.mk #[44, 32]).size = 2 := rfl
    have hd5 : (ByteArray.mk #[63]).size = 1 := rfl
    have hd6 : (ByteArray.mk #[125]).size = 1 := rfl
    have q1 : (ByteArray.mk #[110, 117, 109, 98, 101, 114]).size = 6 := rfl
    have q2 : (ByteArray.mk #[98, 121, 116, 101, 115]).size = 5 := rfl
    have q3 : (ByteArray.mk #[111, 110, 101, 40]).size = 4 := rfl
    have q6 : (ByteArray.mk #[108, 105, 115, 116]).size = 4 := rfl
    have e1 : (⟨#[110, 117, 109, 98, 101, 114]⟩ : ByteArray) = strOfNums w1 := rfl
    have e2 : (⟨#[98, 121, 116, 101, 115]⟩ : ByteArray) = strOfNums w2 := rfl
    have e6 : (⟨#[108, 105, 115, 116]⟩ : ByteArray) = strOfNums w6 := rfl
    rcases okT_cls hok with hk | hk | hk | hk | hk | hk | hk | hk
    · rw [if_pos hk.1]
      rw [cells_eq, hk.1]
      refine TriR.of (tri_of Tryd.func25 rfl Tryd.ntmps25 rfl fun j => ?_)
      repeat' (first | (with_reducible first | refine aw_seq ?_ | refine rl_nil ?_ | refine aw_region ?_ | refine then_n ?_ | refine aw_block ?_ | refine then_exit ?_ | refine then_ret ?_ | refine in_n ?_ | refine in_ret ?_ | refine aw_exit ?_ | refine aw_ret ?_ | refine aw_skip ?_ | refine in_exit_eq rfl ?_ | refine awr_succ ?_) | ((with_reducible refine k_assign ?_); refine rl_pure (pv_assign rfl) rfl rfl rfl ?_) | ((with_reducible refine k_load ?_); refine rl_val (vv_load_box (by rfl) by_memb (by rfl) by_bd) rfl rfl rfl ?_) | ((with_reducible refine k_fieldAddr ?_); refine rl_pure (pv_fieldAddr rfl) rfl rfl rfl ?_) | ((with_reducible refine k_box ?_); refine rl_op rfl (op_box rfl (V.okc_or (by rfl)) rfl fun b => ?_)) | ((with_reducible refine k_eql ?_); refine rl_pure (pv_eql rfl rfl) rfl rfl rfl ?_) | ((with_reducible refine k_cond ?_); refine aw_cond_t rfl ?_))
      (first | refine ret_r (retok_pick (.cons (.there .here) .nil) (ret1 rfl by_res (List.Sublist.refl _) ⟨_, rfl, ?_⟩)) | refine ret_n (retok_pick (.cons (.there .here) .nil) (ret1 rfl by_res (List.Sublist.refl _) ⟨_, rfl, ?_⟩)))
      exact ⟨rfl, rfl⟩
    · rw [if_neg (by omega), if_neg (by omega), if_neg (by omega), if_neg (by omega), if_neg (by omega), if_neg (by omega), if_neg (by omega)]
      rw [cells_eq, hk.1]
      refine TriR.of (tri_of Tryd.func25 rfl Tryd.ntmps25 rfl fun j => ?_)
      repeat' (first | (with_reducible first | refine aw_seq ?_ | refine rl_nil ?_ | refine aw_region ?_ | refine then_n ?_ | refine aw_block ?_ | refine then_exit ?_ | refine then_ret ?_ | refine in_n ?_ | refine in_ret ?_ | refine aw_exit ?_ | refine aw_ret ?_ | refine aw_skip ?_ | refine in_exit_eq rfl ?_ | refine awr_succ ?_) | ((with_reducible refine k_assign ?_); refine rl_pure (pv_assign rfl) rfl rfl rfl ?_) | ((with_reducible refine k_load ?_); refine rl_val (vv_load_box (by rfl) by_memb (by rfl) by_bd) rfl rfl rfl ?_) | ((with_reducible refine k_fieldAddr ?_); refine rl_pure (pv_fieldAddr rfl) rfl rfl rfl ?_) | ((with_reducible refine k_box ?_); refine rl_op rfl (op_box rfl (V.okc_or (by rfl)) rfl fun b => ?_)) | ((with_reducible refine k_eql ?_); refine rl_pure (pv_eql rfl rfl) rfl rfl rfl ?_) | ((with_reducible refine k_cond ?_); (first | refine aw_cond_t rfl ?_ | refine aw_cond_f rfl ?_)))
      (first | refine ret_r (retok_pick (.cons (.there .here) .nil) (ret1 rfl by_res (List.Sublist.refl _) ⟨_, rfl, ?_⟩)) | refine ret_n (retok_pick (.cons (.there .here) .nil) (ret1 rfl by_res (List.Sublist.refl _) ⟨_, rfl, ?_⟩)))
      exact ⟨rfl, rfl⟩
    · have i1 : I64 t.lo := by constructor <;> omega
      have i2 : I64 t.hi := by constructor <;> omega
      have hb := ranged49 t i1 i2
      have zb := strOf_size (bnd t.lo t.hi)
      have lb := bnd_len t.lo t.hi i1 i2
      rw [if_neg (by omega), if_pos hk.1, ← strOf_append a1 (bnd_u8 _ _), ← e1]
      rw [cells_eq, hk.1] at hb ⊢
      refine TriR.of (tri_of Tryd.func25 rfl Tryd.ntmps25 rfl fun j => ?_)
      repeat' (first | (with_reducible first | refine aw_seq ?_ | refine rl_nil ?_ | refine aw_region ?_ | refine then_n ?_ | refine aw_block ?_ | refine then_exit ?_ | refine then_ret ?_ | refine in_n ?_ | refine in_ret ?_ | refine aw_exit ?_ | refine aw_ret ?_ | refine aw_skip ?_ | refine in_exit_eq rfl ?_ | refine awr_succ ?_) | ((with_reducible refine k_assign ?_); refine rl_pure (pv_assign rfl) rfl rfl rfl ?_) | ((with_reducible refine k_load ?_); (first | refine rl_val (vv_load_box (by rfl) by_memb (by rfl) by_bd) rfl rfl rfl ?_ | refine rl_val (vv_load_box_whole (by rfl) by_memb (by rfl) (by first | rfl | exact tcells_len _)) rfl rfl rfl ?_)) | ((with_reducible refine k_fieldAddr ?_); refine rl_pure (pv_fieldAddr rfl) rfl rfl rfl ?_) | ((with_reducible refine k_box ?_); refine rl_op rfl (op_box rfl (V.okc_or (by rfl)) rfl fun b => ?_)) | ((with_reducible refine k_eql ?_); refine rl_pure (pv_eql rfl rfl) rfl rfl rfl ?_) | ((with_reducible refine k_add ?_); refine rl_pure (pv_str_add rfl rfl by_bound) rfl rfl rfl ?_) | ((with_reducible refine k_cond ?_); (first | refine aw_cond_t rfl ?_ | refine aw_cond_f rfl ?_)) | ((with_reducible refine k_callv ?_); refine rl_op rfl (op_callK rfl rfl hb by_take rfl ?_)))
      (first | refine ret_r (retok_pick (.cons (.there .here) .nil) (ret1 rfl by_res (List.Sublist.refl _) ⟨_, rfl, ?_⟩)) | refine ret_n (retok_pick (.cons (.there .here) .nil) (ret1 rfl by_res (List.Sublist.refl _) ⟨_, rfl, ?_⟩)))
      exact ⟨rfl, rfl⟩
    · have i1 : I64 t.lo := by constructor <;> omega
      have i2 : I64 t.hi := by constructor <;> omega
      have hb := ranged49 t i1 i2
      have zb := strOf_size (bnd t.lo t.hi)
      have lb := bnd_len t.lo t.hi i1 i2
      rw [if_neg (by omega), if_neg (by omega), if_pos hk.1, ← strOf_append a2 (bnd_u8 _ _), ← e2]
      rw [cells_eq, hk.1] at hb ⊢
      refine TriR.of (tri_of Tryd.func25 rfl Tryd.ntmps25 rfl fun j => ?_)
      repeat' (first | (with_reducible first | refine aw_seq ?_ | refine rl_nil ?_ | refine aw_region ?_ | refine then_n ?_ | refine aw_block ?_ | refine then_exit ?_ | refine then_ret ?_ | refine in_n ?_ | refine in_ret ?_ | refine aw_exit ?_ | refine aw_ret ?_ | refine aw_skip ?_ | refine in_exit_eq rfl ?_ | refine awr_succ ?_) | ((with_reducible refine k_assign ?_); refine rl_pure (pv_assign rfl) rfl rfl rfl ?_) | ((with_reducible refine k_load ?_); (first | refine rl_val (vv_load_box (by rfl) by_memb (by rfl) by_bd) rfl rfl rfl ?_ | refine rl_val (vv_load_box_whole (by rfl) by_memb (by rfl) (by first | rfl | exact tcells_len _)) rfl rfl rfl ?_)) | ((with_reducible refine k_fieldAddr ?_); refine rl_pure (pv_fieldAddr rfl) rfl rfl rfl ?_) | ((with_reducible refine k_box ?_); refine rl_op rfl (op_box rfl (V.okc_or (by rfl)) rfl fun b => ?_)) | ((with_reducible refine k_eql ?_); refine rl_pure (pv_eql rfl rfl) rfl rfl rfl ?_) | ((with_reducible refine k_add ?_); refine rl_pure (pv_str_add rfl rfl by_bound) rfl rfl rfl ?_) | ((with_reducible refine k_cond ?_); (first | refine aw_cond_t rfl ?_ | refine aw_cond_f rfl ?_)) | ((with_reducible refine k_callv ?_); refine rl_op rfl (op_callK rfl rfl hb by_take rfl ?_)))
      (first | refine ret_r (retok_pick (.cons (.there .here) .nil) (ret1 rfl by_res (List.Sublist.refl _) ⟨_, rfl, ?_⟩)) | refine ret_n (retok_pick (.cons (.there .here) .nil) (ret1 rfl by_res (List.Sublist.refl _) ⟨_, rfl, ?_⟩)))
      exact ⟨rfl, rfl⟩
    · have i2 : I64 t.hi := by constructor <;> omega
      have gi := number50 t.hi i2
      have li := itoaT_len t.hi i2
      have s1 := hs ⟨#[111, 110, 101, 40]⟩ (itoaT t.hi)
      rw [if_neg (by omega), if_neg (by omega), if_neg (by omega), if_pos hk.1, ← one_str2]
      rw [cells_eq, hk.1]
      refine TriR.of (tri_of Tryd.func25 rfl Tryd.ntmps25 rfl fun j => ?_)
      repeat' (first | (with_reducible first | refine aw_seq ?_ | refine rl_nil ?_ | refine aw_region ?_ | refine then_n ?_ | refine aw_block ?_ | refine then_exit ?_ | refine then_ret ?_ | refine in_n ?_ | refine in_ret ?_ | refine aw_exit ?_ | refine aw_ret ?_ | refine aw_skip ?_ | refine in_exit_eq rfl ?_ | refine awr_succ ?_) | ((with_reducible refine k_assign ?_); refine rl_pure (pv_assign rfl) rfl rfl rfl ?_) | ((with_reducible refine k_load ?_); refine rl_val (vv_load_box (by rfl) by_memb (by rfl) by_bd) rfl rfl rfl ?_) | ((with_reducible refine k_fieldAddr ?_); refine rl_pure (pv_fieldAddr rfl) rfl rfl rfl ?_) | ((with_reducible refine k_box ?_); refine rl_op rfl (op_box rfl (V.okc_or (by rfl)) rfl fun b => ?_)) | ((with_reducible refine k_eql ?_); refine rl_pure (pv_eql rfl rfl) rfl rfl rfl ?_) | ((with_reducible refine k_add ?_); refine rl_pure (pv_str_add rfl rfl by_bound) rfl rfl rfl ?_) | ((with_reducible refine k_cond ?_); (first | refine aw_cond_t rfl ?_ | refine aw_cond_f rfl ?_)) | ((with_reducible refine k_callv ?_); refine rl_op rfl (op_callK rfl rfl gi by_take rfl ?_)))
      (first | refine ret_r (retok_pick (.cons (.there .here) .nil) (ret1 rfl by_res (List.Sublist.refl _) ⟨_, rfl, ?_⟩)) | refine ret_n (retok_pick (.cons (.there .here) .nil) (ret1 rfl by_res (List.Sublist.refl _) ⟨_, rfl, ?_⟩)))
      exact ⟨rfl, rfl⟩
    · have hnm := okT_nm hok (.inl hk.1)
      have hpu : ∀ x ∈ t.l.map prt1, U8 x := by rw [← prtT_eq]; exact prtT_u8 t.l
      have uW : U8 [114, 111, 119, 123] := by show ∀ v ∈ _, _; decide
      rw [if_neg (by omega), if_neg (by omega), if_neg (by omega), if_neg (by omega), if_neg (by omega), if_pos hk.1, prtT_eq, show w4 ++ (123 :: (jn2 (t.l.map prt1) ++ [125])) = [114, 111, 119, 123] ++ jn2 (t.l.map prt1) ++ [125] by rw [List.append_assoc]; rfl, ← end_str _ (u8_app uW (jn2_u8 hpu))]
      rw [cells_eq, hk.1]
      refine TriR.of (tri_of Tryd.func25 rfl Tryd.ntmps25 rfl fun j => ?_)
      repeat' (first | (with_reducible first | refine aw_seq ?_ | refine rl_nil ?_ | refine aw_region ?_ | refine then_n ?_ | refine aw_block ?_ | refine then_exit ?_ | refine then_ret ?_ | refine in_n ?_ | refine in_ret ?_ | refine aw_exit ?_ | refine aw_ret ?_ | refine aw_skip ?_ | refine in_exit_eq rfl ?_ | refine awr_succ ?_) | ((with_reducible refine k_assign ?_); refine rl_pure (pv_assign rfl) rfl rfl rfl ?_) | ((with_reducible refine k_load ?_); refine rl_val (vv_load_box (by rfl) by_memb (by rfl) by_bd) rfl rfl rfl ?_) | ((with_reducible refine k_fieldAddr ?_); refine rl_pure (pv_fieldAddr rfl) rfl rfl rfl ?_) | ((with_reducible refine k_box ?_); refine rl_op rfl (op_box rfl (V.okc_or (by rfl)) rfl fun b => ?_)) | ((with_reducible refine k_eql ?_); refine rl_pure (pv_eql rfl rfl) rfl rfl rfl ?_) | ((with_reducible refine k_cond ?_); refine aw_cond_f rfl ?_))
      refine aw_iter (α := Nat) (fun q => [(1, ptr b), (3, str (strOfNums ([114, 111, 119, 123] ++ jn2 ((t.l.take q).map prt1)))), (4, int q)]) (fun q => [.box b 24 [int 4, str t.name, int t.lo, int t.hi, bool t.opt, .ro (t.l.map Typ.cells)], kpc])
        (fun q => q ≤ t.l.length) (fun q => t.l.length - q) 0 (Nat.zero_le _) (by (repeat (first | exact sub_nil | refine sub_cons (by first | rfl | (simp; done)) ?_))) (.cons .here (.cons .here .nil)) fun i hI => ?_
      have hml : (t.l.take i).length ≤ 20 := by rw [List.length_take]; omega
      have hpu2 : ∀ x ∈ (t.l.take i).map prt1, U8 x := fun x hx => by
        obtain ⟨y, hy, rfl⟩ := List.mem_map.1 hx
        exact hpu _ (List.mem_map.2 ⟨y, List.mem_of_mem_take hy, rfl⟩)
      have uA : U8 ([114, 111, 119, 123] ++ jn2 ((t.l.take i).map prt1)) := u8_app uW (jn2_u8 hpu2)
      have hs2 := prt_sum (t.l.take i) fun x hx => ⟨hklen x (List.mem_of_mem_take hx), hnm x (List.mem_of_mem_take hx)⟩
      have hj2 := jn2_len ((t.l.take i).map prt1)
      have zA := strOf_size ([114, 111, 119, 123] ++ jn2 ((t.l.take i).map prt1))
      rw [List.length_append] at zA
      simp only [List.length_cons, List.length_nil] at zA
      by_cases hlt : i < t.l.length
      · obtain ⟨x, hx⟩ : ∃ x, t.l[i]? = some x := ⟨_, List.getElem?_eq_getElem hlt⟩
        have hxm := List.mem_of_getElem? hx
        have hkx := hkid x hxm
        have hxl := hklen x hxm
        have hxc := cntL_take hx
        have hxn := hnm x hxm
        have zx := strOf_size (txtT x)
        have htk : jn2 ((t.l.take (i + 1)).map prt1) = jn2 ((t.l.take i).map prt1) ++ (if i = 0 then [] else [44, 32]) ++ prt1 x := by
          rw [List.take_add_one, hx, List.map_append]
          show jn2 (_ ++ [prt1 x]) = _
          rw [jn2_snoc, List.length_map, List.length_take, Nat.min_eq_left hI]
        have hrow : (t.l.map Typ.cells)[(i : Int).toNat]? = some x.cells := by rw [Int.toNat_natCast, List.getElem?_map, hx]; rfl
        rw [cells_eq] at hrow hkx
        have s5 := hs ⟨#[32]⟩ (strOfNums (txtT x))
        by_cases i0 : i = 0
        · rw [if_pos i0] at htk
          have s2 := hs (strOfNums ([114, 111, 119, 123] ++ jn2 ((t.l.take i).map prt1))) x.name
          cases ho : x.opt with
          | true =>
            rw [ho] at hrow hkx
            have hp : prt1 x = nums x.name ++ ([63] ++ (32 :: txtT x)) := by unfold prt1; rw [ho]; rfl
            have s3 := hs ((strOfNums ([114, 111, 119, 123] ++ jn2 ((t.l.take i).map prt1))) ++ x.name) ⟨#[63]⟩
            have hfin := acc01 ([114, 111, 119, 123] ++ jn2 ((t.l.take i).map prt1)) (txtT x) x.name uA (txtT_u8 x)
            rw [← hp, List.append_assoc, List.append_assoc, ← List.append_assoc (jn2 _), ← htk] at hfin
            repeat' (first | (with_reducible first | refine aw_seq ?_ | refine rl_nil ?_ | refine aw_region ?_ | refine then_n ?_ | refine aw_block ?_ | refine then_exit ?_ | refine then_ret ?_ | refine in_n ?_ | refine in_ret ?_ | refine aw_exit ?_ | refine aw_ret ?_ | refine aw_skip ?_ | refine in_exit_eq rfl ?_ | refine awr_succ ?_) | ((with_reducible refine k_move ?_); refine rl_pure (pv_move rfl) rfl rfl rfl ?_) | ((with_reducible refine k_assign ?_); refine rl_pure (pv_assign rfl) rfl rfl rfl ?_) | ((with_reducible refine k_load ?_); (first | refine rl_val (vv_load_ro (by rfl) (by rfl) by_bd) rfl rfl rfl ?_ | refine rl_val (vv_load_ro_whole (by rfl) (by rfl) (by first | rfl | exact tcells_len _)) rfl rfl rfl ?_ | refine rl_val (vv_load_box (by rfl) by_memb (by rfl) by_bd) rfl rfl rfl ?_)) | ((with_reducible refine k_fieldAddr ?_); (first | refine rl_pure (pv_fieldAddr rfl) rfl rfl rfl ?_ | refine rl_pure (pv_fieldAddr_ro rfl) rfl rfl rfl ?_)) | ((with_reducible refine k_lss ?_); refine rl_pure (pv_lss rfl rfl) rfl rfl rfl ?_) | ((with_reducible refine k_gtr ?_); refine rl_pure (pv_gtr rfl rfl) rfl rfl rfl ?_) | ((with_reducible refine k_add ?_); (first | refine rl_pure (pv_add_in rfl rfl (by omega)) rfl rfl rfl ?_ | refine rl_pure (pv_str_add rfl rfl by_bound) rfl rfl rfl ?_)) | ((with_reducible refine k_len ?_); refine rl_pure (pv_len_ro' (by rfl) by_len) rfl rfl rfl ?_) | ((with_reducible refine k_indexAddr ?_); refine rl_pure (pv_indexAddr_ro (by rfl) rfl (by omega) (by first | rfl | assumption) (by first | rfl | exact tcells_len _)) rfl rfl rfl ?_) | ((with_reducible refine k_cond ?_); refine aw_cond_t rfl ?_) | ((with_reducible refine k_callv ?_); refine rl_op rfl (op_callK rfl rfl hkx by_take rfl ?_)) | (((with_reducible refine k_cond ?_); refine aw_cond rfl ?_ ?_) <;> ((fail_if_success (refine imp_known (by assumption) ?_)); (intro hb <;> (have hc := hb) <;> (try simp only [decide_eq_true_eq, decide_eq_false_iff_not, Int.not_lt, Int.not_le, ne_eq, Bool.not_eq_true, Bool.not_eq_false, Decidable.not_not] at hc) <;> (try (exfalso; omega)) <;> (try (exfalso; simp only [Bool.not_eq_eq_eq_not, Bool.not_true, Bool.not_false, decide_eq_true_eq, decide_eq_false_iff_not, ne_eq, Decidable.not_not, Int.not_lt, Int.not_le] at hc; omega)) <;> (try (first | contradiction | (cases hc; done))) <;> (try (first | exact absurd (hb.symm.trans (by assumption) : true = false) (by decide) | exact absurd (hb.symm.trans (by assumption) : false = true) (by decide)))))))
            rw [hfin]
            exact next_of (R := []) (i + 1) hlt (by omega) (by (repeat (first | exact sub_nil | refine sub_cons (by first | rfl | (simp; done)) ?_))) (.cons .here (.cons .here .nil))
          | false =>
            rw [ho] at hrow hkx
            have hp : prt1 x = nums x.name ++ ([] ++ (32 :: txtT x)) := by unfold prt1; rw [ho]; rfl
            have hfin := acc00 ([114, 111, 119, 123] ++ jn2 ((t.l.take i).map prt1)) (txtT x) x.name uA (txtT_u8 x)
            rw [← hp, List.append_assoc, List.append_assoc, ← List.append_assoc (jn2 _), ← htk] at hfin
            repeat' (first | (with_reducible first | refine aw_seq ?_ | refine rl_nil ?_ | refine aw_region ?_ | refine then_n ?_ | refine aw_block ?_ | refine then_exit ?_ | refine then_ret ?_ | refine in_n ?_ | refine in_ret ?_ | refine aw_exit ?_ | refine aw_ret ?_ | refine aw_skip ?_ | refine in_exit_eq rfl ?_ | refine awr_succ ?_) | ((with_reducible refine k_move ?_); refine rl_pure (pv_move rfl) rfl rfl rfl ?_) | ((with_reducible refine k_assign ?_); refine rl_pure (pv_assign rfl) rfl rfl rfl ?_) | ((with_reducible refine k_load ?_); (first | refine rl_val (vv_load_ro (by rfl) (by rfl) by_bd) rfl rfl rfl ?_ | refine rl_val (vv_load_ro_whole (by rfl) (by rfl) (by first | rfl | exact tcells_len _)) rfl rfl rfl ?_ | refine rl_val (vv_load_box (by rfl) by_memb (by rfl) by_bd) rfl rfl rfl ?_)) | ((with_reducible refine k_fieldAddr ?_); (first | refine rl_pure (pv_fieldAddr rfl) rfl rfl rfl ?_ | refine rl_pure (pv_fieldAddr_ro rfl) rfl rfl rfl ?_)) | ((with_reducible refine k_lss ?_); refine rl_pure (pv_lss rfl rfl) rfl rfl rfl ?_) | ((with_reducible refine k_gtr ?_); refine rl_pure (pv_gtr rfl rfl) rfl rfl rfl ?_) | ((with_reducible refine k_add ?_); (first | refine rl_pure (pv_add_in rfl rfl (by omega)) rfl rfl rfl ?_ | refine rl_pure (pv_str_add rfl rfl by_bound) rfl rfl rfl ?_)) | ((with_reducible refine k_len ?_); refine rl_pure (pv_len_ro' (by rfl) by_len) rfl rfl rfl ?_) | ((with_reducible refine k_indexAddr ?_); refine rl_pure (pv_indexAddr_ro (by rfl) rfl (by omega) (by first | rfl | assumption) (by first | rfl | exact tcells_len _)) rfl rfl rfl ?_) | ((with_reducible refine k_cond ?_); refine aw_cond_f rfl ?_) | ((with_reducible refine k_callv ?_); refine rl_op rfl (op_callK rfl rfl hkx by_take rfl ?_)) | (((with_reducible refine k_cond ?_); refine aw_cond rfl ?_ ?_) <;> ((fail_if_success (refine imp_known (by assumption) ?_)); (intro hb <;> (have hc := hb) <;> (try simp only [decide_eq_true_eq, decide_eq_false_iff_not, Int.not_lt, Int.not_le, ne_eq, Bool.not_eq_true, Bool.not_eq_false, Decidable.not_not] at hc) <;> (try (exfalso; omega)) <;> (try (exfalso; simp only [Bool.not_eq_eq_eq_not, Bool.not_true, Bool.not_false, decide_eq_true_eq, decide_eq_false_iff_not, ne_eq, Decidable.not_not, Int.not_lt, Int.not_le] at hc; omega)) <;> (try (first | contradiction | (cases hc; done))) <;> (try (first | exact absurd (hb.symm.trans (by assumption) : true = false) (by decide) | exact absurd (hb.symm.trans (by assumption) : false = true) (by decide)))))))
            rw [hfin]
            exact next_of (R := []) (i + 1) hlt (by omega) (by (repeat (first | exact sub_nil | refine sub_cons (by first | rfl | (simp; done)) ?_))) (.cons .here (.cons .here .nil))
        · rw [if_neg i0] at htk
          have s1 := hs (strOfNums ([114, 111, 119, 123] ++ jn2 ((t.l.take i).map prt1))) ⟨#[44, 32]⟩
          have s2 := hs ((strOfNums ([114, 111, 119, 123] ++ jn2 ((t.l.take i).map prt1))) ++ ⟨#[44, 32]⟩) x.name
          cases ho : x.opt with
          | true =>
            rw [ho] at hrow hkx
            have hp : prt1 x = nums x.name ++ ([63] ++ (32 :: txtT x)) := by unfold prt1; rw [ho]; rfl
            have s3 := hs (((strOfNums ([114, 111, 119, 123] ++ jn2 ((t.l.take i).map prt1))) ++ ⟨#[44, 32]⟩) ++ x.name) ⟨#[63]⟩
            have hfin := acc11 ([114, 111, 119, 123] ++ jn2 ((t.l.take i).map prt1)) (txtT x) x.name uA (txtT_u8 x)
            rw [← hp, List.append_assoc, List.append_assoc, ← List.append_assoc (jn2 _), ← htk] at hfin
            repeat' (first | (with_reducible first | refine aw_seq ?_ | refine rl_nil ?_ | refine aw_region ?_ | refine then_n ?_ | refine aw_block ?_ | refine then_exit ?_ | refine then_ret ?_ | refine in_n ?_ | refine in_ret ?_ | refine aw_exit ?_ | refine aw_ret ?_ | refine aw_skip ?_ | refine in_exit_eq rfl ?_ | refine awr_succ ?_) | ((with_reducible refine k_move ?_); refine rl_pure (pv_move rfl) rfl rfl rfl ?_) | ((with_reducible refine k_assign ?_); refine rl_pure (pv_assign rfl) rfl rfl rfl ?_) | ((with_reducible refine k_load ?_); (first | refine rl_val (vv_load_ro (by rfl) (by rfl) by_bd) rfl rfl rfl ?_ | refine rl_val (vv_load_ro_whole (by rfl) (by rfl) (by first | rfl | exact tcells_len _)) rfl rfl rfl ?_ | refine rl_val (vv_load_box (by rfl) by_memb (by rfl) by_bd) rfl rfl rfl ?_)) | ((with_reducible refine k_fieldAddr ?_); (first | refine rl_pure (pv_fieldAddr rfl) rfl rfl rfl ?_ | refine rl_pure (pv_fieldAddr_ro rfl) rfl rfl rfl ?_)) | ((with_reducible refine k_lss ?_); refine rl_pure (pv_lss rfl rfl) rfl rfl rfl ?_) | ((with_reducible refine k_gtr ?_); refine rl_pure (pv_gtr rfl rfl) rfl rfl rfl ?_) | ((with_reducible refine k_add ?_); (first | refine rl_pure (pv_add_in rfl rfl (by omega)) rfl rfl rfl ?_ | refine rl_pure (pv_str_add rfl rfl by_bound) rfl rfl rfl ?_)) | ((with_reducible refine k_len ?_); refine rl_pure (pv_len_ro' (by rfl) by_len) rfl rfl rfl ?_) | ((with_reducible refine k_indexAddr ?_); refine rl_pure (pv_indexAddr_ro (by rfl) rfl (by omega) (by first | rfl | assumption) (by first | rfl | exact tcells_len _)) rfl rfl rfl ?_) | ((with_reducible refine k_cond ?_); refine aw_cond_t rfl ?_) | ((with_reducible refine k_callv ?_); refine rl_op rfl (op_callK rfl rfl hkx by_take rfl ?_)) | (((with_reducible refine k_cond ?_); refine aw_cond rfl ?_ ?_) <;> ((fail_if_success (refine imp_known (by assumption) ?_)); (intro hb <;> (have hc := hb) <;> (try simp only [decide_eq_true_eq, decide_eq_false_iff_not, Int.not_lt, Int.not_le, ne_eq, Bool.not_eq_true, Bool.not_eq_false, Decidable.not_not] at hc) <;> (try (exfalso; omega)) <;> (try (exfalso; simp only [Bool.not_eq_eq_eq_not, Bool.not_true, Bool.not_false, decide_eq_true_eq, decide_eq_false_iff_not, ne_eq, Decidable.not_not, Int.not_lt, Int.not_le] at hc; omega)) <;> (try (first | contradiction | (cases hc; done))) <;> (try (first | exact absurd (hb.symm.trans (by assumption) : true = false) (by decide) | exact absurd (hb.symm.trans (by assumption) : false = true) (by decide)))))))
            rw [hfin]
            exact next_of (R := []) (i + 1) hlt (by omega) (by (repeat (first | exact sub_nil | refine sub_cons (by first | rfl | (simp; done)) ?_))) (.cons .here (.cons .here .nil))
          | false =>
            rw [ho] at hrow hkx
            have hp : prt1 x = nums x.name ++ ([] ++ (32 :: txtT x)) := by unfold prt1; rw [ho]; rfl
            have hfin := acc10 ([114, 111, 119, 123] ++ jn2 ((t.l.take i).map prt1)) (txtT x) x.name uA (txtT_u8 x)
            rw [← hp, List.append_assoc, List.append_assoc, ← List.append_assoc (jn2 _), ← htk] at hfin
            repeat' (first | (with_reducible first | refine aw_seq ?_ | refine rl_nil ?_ | refine aw_region ?_ | refine then_n ?_ | refine aw_block ?_ | refine then_exit ?_ | refine then_ret ?_ | refine in_n ?_ | refine in_ret ?_ | refine aw_exit ?_ | refine aw_ret ?_ | refine aw_skip ?_ | refine in_exit_eq rfl ?_ | refine awr_succ ?_) | ((with_reducible refine k_move ?_); refine rl_pure (pv_move rfl) rfl rfl rfl ?_) | ((with_reducible refine k_assign ?_); refine rl_pure (pv_assign rfl) rfl rfl rfl ?_) | ((with_reducible refine k_load ?_); (first | refine rl_val (vv_load_ro (by rfl) (by rfl) by_bd) rfl rfl rfl ?_ | refine rl_val (vv_load_ro_whole (by rfl) (by rfl) (by first | rfl | exact tcells_len _)) rfl rfl rfl ?_ | refine rl_val (vv_load_box (by rfl) by_memb (by rfl) by_bd) rfl rfl rfl ?_)) | ((with_reducible refine k_fieldAddr ?_); (first | refine rl_pure (pv_fieldAddr rfl) rfl rfl rfl ?_ | refine rl_pure (pv_fieldAddr_ro rfl) rfl rfl rfl ?_)) | ((with_reducible refine k_lss ?_); refine rl_pure (pv_lss rfl rfl) rfl rfl rfl ?_) | ((with_reducible refine k_gtr ?_); refine rl_pure (pv_gtr rfl rfl) rfl rfl rfl ?_) | ((with_reducible refine k_add ?_); (first | refine rl_pure (pv_add_in rfl rfl (by omega)) rfl rfl rfl ?_ | refine rl_pure (pv_str_add rfl rfl by_bound) rfl rfl rfl ?_)) | ((with_reducible refine k_len ?_); refine rl_pure (pv_len_ro' (by rfl) by_len) rfl rfl rfl ?_) | ((with_reducible refine k_indexAddr ?_); refine rl_pure (pv_indexAddr_ro (by rfl) rfl (by omega) (by first | rfl | assumption) (by first | rfl | exact tcells_len _)) rfl rfl rfl ?_) | ((with_reducible refine k_cond ?_); refine aw_cond_f rfl ?_) | ((with_reducible refine k_callv ?_); refine rl_op rfl (op_callK rfl rfl hkx by_take rfl ?_)) | (((with_reducible refine k_cond ?_); refine aw_cond rfl ?_ ?_) <;> ((fail_if_success (refine imp_known (by assumption) ?_)); (intro hb <;> (have hc := hb) <;> (try simp only [decide_eq_true_eq, decide_eq_false_iff_not, Int.not_lt, Int.not_le, ne_eq, Bool.not_eq_true, Bool.not_eq_false, Decidable.not_not] at hc) <;> (try (exfalso; omega)) <;> (try (exfalso; simp only [Bool.not_eq_eq_eq_not, Bool.not_true, Bool.not_false, decide_eq_true_eq, decide_eq_false_iff_not, ne_eq, Decidable.not_not, Int.not_lt, Int.not_le] at hc; omega)) <;> (try (first | contradiction | (cases hc; done))) <;> (try (first | exact absurd (hb.symm.trans (by assumption) : true = false) (by decide) | exact absurd (hb.symm.trans (by assumption) : false = true) (by decide)))))))
            rw [hfin]
            exact next_of (R := []) (i + 1) hlt (by omega) (by (repeat (first | exact sub_nil | refine sub_cons (by first | rfl | (simp; done)) ?_))) (.cons .here (.cons .here .nil))
      · have hti : t.l.take i = t.l := List.take_of_length_le (by omega)
        rw [hti] at zA hs2 hj2 ⊢
        repeat' (first | (with_reducible first | refine aw_seq ?_ | refine rl_nil ?_ | refine aw_region ?_ | refine then_n ?_ | refine aw_block ?_ | refine then_exit ?_ | refine then_ret ?_ | refine in_n ?_ | refine in_ret ?_ | refine aw_exit ?_ | refine aw_ret ?_ | refine aw_skip ?_ | refine in_exit_eq rfl ?_ | refine awr_succ ?_) | ((with_reducible refine k_move ?_); refine rl_pure (pv_move rfl) rfl rfl rfl ?_) | ((with_reducible refine k_assign ?_); refine rl_pure (pv_assign rfl) rfl rfl rfl ?_) | ((with_reducible refine k_load ?_); refine rl_val (vv_load_box (by rfl) by_memb (by rfl) by_bd) rfl rfl rfl ?_) | ((with_reducible refine k_fieldAddr ?_); refine rl_pure (pv_fieldAddr rfl) rfl rfl rfl ?_) | ((with_reducible refine k_lss ?_); refine rl_pure (pv_lss rfl rfl) rfl rfl rfl ?_) | ((with_reducible refine k_add ?_); refine rl_pure (pv_str_add rfl rfl by_bound) rfl rfl rfl ?_) | ((with_reducible refine k_len ?_); refine rl_pure (pv_len_ro' (by rfl) by_len) rfl rfl rfl ?_) | (((with_reducible refine k_cond ?_); refine aw_cond rfl ?_ ?_) <;> ((fail_if_success (refine imp_known (by assumption) ?_)); (intro hb <;> (have hc := hb) <;> (try simp only [decide_eq_true_eq, decide_eq_false_iff_not, Int.not_lt, Int.not_le, ne_eq, Bool.not_eq_true, Bool.not_eq_false, Decidable.not_not] at hc) <;> (try (exfalso; omega)) <;> (try (exfalso; simp only [Bool.not_eq_eq_eq_not, Bool.not_true, Bool.not_false, decide_eq_true_eq, decide_eq_false_iff_not, ne_eq, Decidable.not_not, Int.not_lt, Int.not_le] at hc; omega)) <;> (try (first | contradiction | (cases hc; done))) <;> (try (first | exact absurd (hb.symm.trans (by assumption) : true = false) (by decide) | exact absurd (hb.symm.trans (by assumption) : false = true) (by decide)))))))
        (first | refine ret_r (retok_pick (.cons (.there .here) .nil) (ret1 rfl by_res (List.Sublist.refl _) ⟨_, rfl, ?_⟩)) | refine ret_n (retok_pick (.cons (.there .here) .nil) (ret1 rfl by_res (List.Sublist.refl _) ⟨_, rfl, ?_⟩)))
        exact ⟨rfl, rfl⟩
    · have hnm := okT_nm hok (.inr hk.1)
      have hpu : ∀ x ∈ t.l.map prt1, U8 x := by rw [← prtT_eq]; exact prtT_u8 t.l
      have uW : U8 [99, 104, 111, 105, 99, 101, 123] := by show ∀ v ∈ _, _; decide
      rw [if_neg (by omega), if_neg (by omega), if_neg (by omega), if_neg (by omega), if_neg (by omega), if_neg (by omega), if_pos hk.1, prtT_eq, show w5 ++ (123 :: (jn2 (t.l.map prt1) ++ [125])) = [99, 104, 111, 105, 99, 101, 123] ++ jn2 (t.l.map prt1) ++ [125] by rw [List.append_assoc]; rfl, ← end_str _ (u8_app uW (jn2_u8 hpu))]
      rw [cells_eq, hk.1]
      refine TriR.of (tri_of Tryd.func25 rfl Tryd.ntmps25 rfl fun j => ?_)
      repeat' (first | (with_reducible first | refine aw_seq ?_ | refine rl_nil ?_ | refine aw_region ?_ | refine then_n ?_ | refine aw_block ?_ | refine then_exit ?_ | refine then_ret ?_ | refine in_n ?_ | refine in_ret ?_ | refine aw_exit ?_ | refine aw_ret ?_ | refine aw_skip ?_ | refine in_exit_eq rfl ?_ | refine awr_succ ?_) | ((with_reducible refine k_assign ?_); refine rl_pure (pv_assign rfl) rfl rfl rfl ?_) | ((with_reducible refine k_load ?_); refine rl_val (vv_load_box (by rfl) by_memb (by rfl) by_bd) rfl rfl rfl ?_) | ((with_reducible refine k_fieldAddr ?_); refine rl_pure (pv_fieldAddr rfl) rfl rfl rfl ?_) | ((with_reducible refine k_box ?_); refine rl_op rfl (op_box rfl (V.okc_or (by rfl)) rfl fun b => ?_)) | ((with_reducible refine k_eql ?_); refine rl_pure (pv_eql rfl rfl) rfl rfl rfl ?_) | ((with_reducible refine k_cond ?_); (first | refine aw_cond_t rfl ?_ | refine aw_cond_f rfl ?_)))
      refine aw_iter (α := Nat) (fun q => [(1, ptr b), (3, str (strOfNums ([99, 104, 111, 105, 99, 101, 123] ++ jn2 ((t.l.take q).map prt1)))), (4, int q)]) (fun q => [.box b 24 [int 5, str t.name, int t.lo, int t.hi, bool t.opt, .ro (t.l.map Typ.cells)], kpc])
        (fun q => q ≤ t.l.length) (fun q => t.l.length - q) 0 (Nat.zero_le _) (by (repeat (first | exact sub_nil | refine sub_cons (by first | rfl | (simp; done)) ?_))) (.cons .here (.cons .here .nil)) fun i hI => ?_
      have hml : (t.l.take i).length ≤ 20 := by rw [List.length_take]; omega
      have hpu2 : ∀ x ∈ (t.l.take i).map prt1, U8 x := fun x hx => by
        obtain ⟨y, hy, rfl⟩ := List.mem_map.1 hx
        exact hpu _ (List.mem_map.2 ⟨y, List.mem_of_mem_take hy, rfl⟩)
      have uA : U8 ([99, 104, 111, 105, 99, 101, 123] ++ jn2 ((t.l.take i).map prt1)) := u8_app uW (jn2_u8 hpu2)
      have hs2 := prt_sum (t.l.take i) fun x hx => ⟨hklen x (List.mem_of_mem_take hx), hnm x (List.mem_of_mem_take hx)⟩
      have hj2 := jn2_len ((t.l.take i).map prt1)
      have zA := strOf_size ([99, 104, 111, 105, 99, 101, 123] ++ jn2 ((t.l.take i).map prt1))
      rw [List.length_append] at zA
      simp only [List.length_cons, List.length_nil] at zA
      by_cases hlt : i < t.l.length
      · obtain ⟨x, hx⟩ : ∃ x, t.l[i]? = some x := ⟨_, List.getElem?_eq_getElem hlt⟩
        have hxm := List.mem_of_getElem? hx
        have hkx := hkid x hxm
        have hxl := hklen x hxm
        have hxc := cntL_take hx
        have hxn := hnm x hxm
        have zx := strOf_size (txtT x)
        have htk : jn2 ((t.l.take (i + 1)).map prt1) = jn2 ((t.l.take i).map prt1) ++ (if i = 0 then [] else [44, 32]) ++ prt1 x := by
          rw [List.take_add_one, hx, List.map_append]
          show jn2 (_ ++ [prt1 x]) = _
          rw [jn2_snoc, List.length_map, List.length_take, Nat.min_eq_left hI]
        have hrow : (t.l.map Typ.cells)[(i : Int).toNat]? = some x.cells := by rw [Int.toNat_natCast, List.getElem?_map, hx]; rfl
        rw [cells_eq] at hrow hkx
        have s5 := hs ⟨#[32]⟩ (strOfNums (txtT x))
        by_cases i0 : i = 0
        · rw [if_pos i0] at htk
          have s2 := hs (strOfNums ([99, 104, 111, 105, 99, 101, 123] ++ jn2 ((t.l.take i).map prt1))) x.name
          cases ho : x.opt with
          | true =>
            rw [ho] at hrow hkx
            have hp : prt1 x = nums x.name ++ ([63] ++ (32 :: txtT x)) := by unfold prt1; rw [ho]; rfl
            have s3 := hs ((strOfNums ([99, 104, 111, 105, 99, 101, 123] ++ jn2 ((t.l.take i).map prt1))) ++ x.name) ⟨#[63]⟩
            have hfin := acc01 ([99, 104, 111, 105, 99, 101, 123] ++ jn2 ((t.l.take i).map prt1)) (txtT x) x.name uA (txtT_u8 x)
            rw [← hp, List.append_assoc, List.append_assoc, ← List.append_assoc (jn2 _), ← htk] at hfin
            repeat' (first | (with_reducible first | refine aw_seq ?_ | refine rl_nil ?_ | refine aw_region ?_ | refine then_n ?_ | refine aw_block ?_ | refine then_exit ?_ | refine then_ret ?_ | refine in_n ?_ | refine in_ret ?_ | refine aw_exit ?_ | refine aw_ret ?_ | refine aw_skip ?_ | refine in_exit_eq rfl ?_ | refine awr_succ ?_) | ((with_reducible refine k_move ?_); refine rl_pure (pv_move rfl) rfl rfl rfl ?_) | ((with_reducible refine k_assign ?_); refine rl_pure (pv_assign rfl) rfl rfl rfl ?_) | ((with_reducible refine k_load ?_); (first | refine rl_val (vv_load_ro (by rfl) (by rfl) by_bd) rfl rfl rfl ?_ | refine rl_val (vv_load_ro_whole (by rfl) (by rfl) (by first | rfl | exact tcells_len _)) rfl rfl rfl ?_ | refine rl_val (vv_load_box (by rfl) by_memb (by rfl) by_bd) rfl rfl rfl ?_)) | ((with_reducible refine k_fieldAddr ?_); (first | refine rl_pure (pv_fieldAddr rfl) rfl rfl rfl ?_ | refine rl_pure (pv_fieldAddr_ro rfl) rfl rfl rfl ?_)) | ((with_reducible refine k_lss ?_); refine rl_pure (pv_lss rfl rfl) rfl rfl rfl ?_) | ((with_reducible refine k_gtr ?_); refine rl_pure (pv_gtr rfl rfl) rfl rfl rfl ?_) | ((with_reducible refine k_add ?_); (first | refine rl_pure (pv_add_in rfl rfl (by omega)) rfl rfl rfl ?_ | refine rl_pure (pv_str_add rfl rfl by_bound) rfl rfl rfl ?_)) | ((with_reducible refine k_len ?_); refine rl_pure (pv_len_ro' (by rfl) by_len) rfl rfl rfl ?_) | ((with_reducible refine k_indexAddr ?_); refine rl_pure (pv_indexAddr_ro (by rfl) rfl (by omega) (by first | rfl | assumption) (by first | rfl | exact tcells_len _)) rfl rfl rfl ?_) | ((with_reducible refine k_cond ?_); refine aw_cond_t rfl ?_) | ((with_reducible refine k_callv ?_); refine rl_op rfl (op_callK rfl rfl hkx by_take rfl ?_)) | (((with_reducible refine k_cond ?_); refine aw_cond rfl ?_ ?_) <;> ((fail_if_success (refine imp_known (by assumption) ?_)); (intro hb <;> (have hc := hb) <;> (try simp only [decide_eq_true_eq, decide_eq_false_iff_not, Int.not_lt, Int.not_le, ne_eq, Bool.not_eq_true, Bool.not_eq_false, Decidable.not_not] at hc) <;> (try (exfalso; omega)) <;> (try (exfalso; simp only [Bool.not_eq_eq_eq_not, Bool.not_true, Bool.not_false, decide_eq_true_eq, decide_eq_false_iff_not, ne_eq, Decidable.not_not, Int.not_lt, Int.not_le] at hc; omega)) <;> (try (first | contradiction | (cases hc; done))) <;> (try (first | exact absurd (hb.symm.trans (by assumption) : true = false) (by decide) | exact absurd (hb.symm.trans (by assumption) : false = true) (by decide)))))))
            rw [hfin]
            exact next_of (R := []) (i + 1) hlt (by omega) (by (repeat (first | exact sub_nil | refine sub_cons (by first | rfl | (simp; done)) ?_))) (.cons .here (.cons .here .nil))
          | false =>
            rw [ho] at hrow hkx
            have hp : prt1 x = nums x.name ++ ([] ++ (32 :: txtT x)) := by unfold prt1; rw [ho]; rfl
            have hfin := acc00 ([99, 104, 111, 105, 99, 101, 123] ++ jn2 ((t.l.take i).map prt1)) (txtT x) x.name uA (txtT_u8 x)
            rw [← hp, List.append_assoc, List.append_assoc, ← List.append_assoc (jn2 _), ← htk] at hfin
            repeat' (first | (with_reducible first | refine aw_seq ?_ | refine rl_nil ?_ | refine aw_region ?_ | refine then_n ?_ | refine aw_block ?_ | refine then_exit ?_ | refine then_ret ?_ | refine in_n ?_ | refine in_ret ?_ | refine aw_exit ?_ | refine aw_ret ?_ | refine aw_skip ?_ | refine in_exit_eq rfl ?_ | refine awr_succ ?_) | ((with_reducible refine k_move ?_); refine rl_pure (pv_move rfl) rfl rfl rfl ?_) | ((with_reducible refine k_assign ?_); refine rl_pure (pv_assign rfl) rfl rfl rfl ?_) | ((with_reducible refine k_load ?_); (first | refine rl_val (vv_load_ro (by rfl) (by rfl) by_bd) rfl rfl rfl ?_ | refine rl_val (vv_load_ro_whole (by rfl) (by rfl) (by first | rfl | exact tcells_len _)) rfl rfl rfl ?_ | refine rl_val (vv_load_box (by rfl) by_memb (by rfl) by_bd) rfl rfl rfl ?_)) | ((with_reducible refine k_fieldAddr ?_); (first | refine rl_pure (pv_fieldAddr rfl) rfl rfl rfl ?_ | refine rl_pure (pv_fieldAddr_ro rfl) rfl rfl rfl ?_)) | ((with_reducible refine k_lss ?_); refine rl_pure (pv_lss rfl rfl) rfl rfl rfl ?_) | ((with_reducible refine k_gtr ?_); refine rl_pure (pv_gtr rfl rfl) rfl rfl rfl ?_) | ((with_reducible refine k_add ?_); (first | refine rl_pure (pv_add_in rfl rfl (by omega)) rfl rfl rfl ?_ | refine rl_pure (pv_str_add rfl rfl by_bound) rfl rfl rfl ?_)) | ((with_reducible refine k_len ?_); refine rl_pure (pv_len_ro' (by rfl) by_len) rfl rfl rfl ?_) | ((with_reducible refine k_indexAddr ?_); refine rl_pure (pv_indexAddr_ro (by rfl) rfl (by omega) (by first | rfl | assumption) (by first | rfl | exact tcells_len _)) rfl rfl rfl ?_) | ((with_reducible refine k_cond ?_); refine aw_cond_f rfl ?_) | ((with_reducible refine k_callv ?_); refine rl_op rfl (op_callK rfl rfl hkx by_take rfl ?_)) | (((with_reducible refine k_cond ?_); refine aw_cond rfl ?_ ?_) <;> ((fail_if_success (refine imp_known (by assumption) ?_)); (intro hb <;> (have hc := hb) <;> (try simp only [decide_eq_true_eq, decide_eq_false_iff_not, Int.not_lt, Int.not_le, ne_eq, Bool.not_eq_true, Bool.not_eq_false, Decidable.not_not] at hc) <;> (try (exfalso; omega)) <;> (try (exfalso; simp only [Bool.not_eq_eq_eq_not, Bool.not_true, Bool.not_false, decide_eq_true_eq, decide_eq_false_iff_not, ne_eq, Decidable.not_not, Int.not_lt, Int.not_le] at hc; omega)) <;> (try (first | contradiction | (cases hc; done))) <;> (try (first | exact absurd (hb.symm.trans (by assumption) : true = false) (by decide) | exact absurd (hb.symm.trans (by assumption) : false = true) (by decide)))))))
            rw [hfin]
            exact next_of (R := []) (i + 1) hlt (by omega) (by (repeat (first | exact sub_nil | refine sub_cons (by first | rfl | (simp; done)) ?_))) (.cons .here (.cons .here .nil))
        · rw [if_neg i0] at htk
          have s1 := hs (strOfNums ([99, 104, 111, 105, 99, 101, 123] ++ jn2 ((t.l.take i).map prt1))) ⟨#[44, 32]⟩
          have s2 := hs ((strOfNums ([99, 104, 111, 105, 99, 101, 123] ++ jn2 ((t.l.take i).map prt1))) ++ ⟨#[44, 32]⟩) x.name
          cases ho : x.opt with
          | true =>
            rw [ho] at hrow hkx
            have hp : prt1 x = nums x.name ++ ([63] ++ (32 :: txtT x)) := by unfold prt1; rw [ho]; rfl
            have s3 := hs (((strOfNums ([99, 104, 111, 105, 99, 101, 123] ++ jn2 ((t.l.take i).map prt1))) ++ ⟨#[44, 32]⟩) ++ x.name) ⟨#[63]⟩
            have hfin := acc11 ([99, 104, 111, 105, 99, 101, 123] ++ jn2 ((t.l.take i).map prt1)) (txtT x) x.name uA (txtT_u8 x)
            rw [← hp, List.append_assoc, List.append_assoc, ← List.append_assoc (jn2 _), ← htk] at hfin
            repeat' (first | (with_reducible first | refine aw_seq ?_ | refine rl_nil ?_ | refine aw_region ?_ | refine then_n ?_ | refine aw_block ?_ | refine then_exit ?_ | refine then_ret ?_ | refine in_n ?_ | refine in_ret ?_ | refine aw_exit ?_ | refine aw_ret ?_ | refine aw_skip ?_ | refine in_exit_eq rfl ?_ | refine awr_succ ?_) | ((with_reducible refine k_move ?_); refine rl_pure (pv_move rfl) rfl rfl rfl ?_) | ((with_reducible refine k_assign ?_); refine rl_pure (pv_assign rfl) rfl rfl rfl ?_) | ((with_reducible refine k_load ?_); (first | refine rl_val (vv_load_ro (by rfl) (by rfl) by_bd) rfl rfl rfl ?_ | refine rl_val (vv_load_ro_whole (by rfl) (by rfl) (by first | rfl | exact tcells_len _)) rfl rfl rfl ?_ | refine rl_val (vv_load_box (by rfl) by_memb (by rfl) by_bd) rfl rfl rfl ?_)) | ((with_reducible refine k_fieldAddr ?_); (first | refine rl_pure (pv_fieldAddr rfl) rfl rfl rfl ?_ | refine rl_pure (pv_fieldAddr_ro rfl) rfl rfl rfl ?_)) | ((with_reducible refine k_lss ?_); refine rl_pure (pv_lss rfl rfl) rfl rfl rfl ?_) | ((with_reducible refine k_gtr ?_); refine rl_pure (pv_gtr rfl rfl) rfl rfl rfl ?_) | ((with_reducible refine k_add ?_); (first | refine rl_pure (pv_add_in rfl rfl (by omega)) rfl rfl rfl ?_ | refine rl_pure (pv_str_add rfl rfl by_bound) rfl rfl rfl ?_)) | ((with_reducible refine k_len ?_); refine rl_pure (pv_len_ro' (by rfl) by_len) rfl rfl rfl ?_) | ((with_reducible refine k_indexAddr ?_); refine rl_pure (pv_indexAddr_ro (by rfl) rfl (by omega) (by first | rfl | assumption) (by first | rfl | exact tcells_len _)) rfl rfl rfl ?_) | ((with_reducible refine k_cond ?_); refine aw_cond_t rfl ?_) | ((with_reducible refine k_callv ?_); refine rl_op rfl (op_callK rfl rfl hkx by_take rfl ?_)) | (((with_reducible refine k_cond ?_); refine aw_cond rfl ?_ ?_) <;> ((fail_if_success (refine imp_known (by assumption) ?_)); (intro hb <;> (have hc := hb) <;> (try simp only [decide_eq_true_eq, decide_eq_false_iff_not, Int.not_lt, Int.not_le, ne_eq, Bool.not_eq_true, Bool.not_eq_false, Decidable.not_not] at hc) <;> (try (exfalso; omega)) <;> (try (exfalso; simp only [Bool.not_eq_eq_eq_not, Bool.not_true, Bool.not_false, decide_eq_true_eq, decide_eq_false_iff_not, ne_eq, Decidable.not_not, Int.not_lt, Int.not_le] at hc; omega)) <;> (try (first | contradiction | (cases hc; done))) <;> (try (first | exact absurd (hb.symm.trans (by assumption) : true = false) (by decide) | exact absurd (hb.symm.trans (by assumption) : false = true) (by decide)))))))
            rw [hfin]
            exact next_of (R := []) (i + 1) hlt (by omega) (by (repeat (first | exact sub_nil | refine sub_cons (by first | rfl | (simp; done)) ?_))) (.cons .here (.cons .here .nil))
          | false =>
            rw [ho] at hrow hkx
            have hp : prt1 x = nums x.name ++ ([] ++ (32 :: txtT x)) := by unfold prt1; rw [ho]; rfl
            have hfin := acc10 ([99, 104, 111, 105, 99, 101, 123] ++ jn2 ((t.l.take i).map prt1)) (txtT x) x.name uA (txtT_u8 x)
            rw [← hp, List.append_assoc, List.append_assoc, ← List.append_assoc (jn2 _), ← htk] at hfin
            repeat' (first | (with_reducible first | refine aw_seq ?_ | refine rl_nil ?_ | refine aw_region ?_ | refine then_n ?_ | refine aw_block ?_ | refine then_exit ?_ | refine then_ret ?_ | refine in_n ?_ | refine in_ret ?_ | refine aw_exit ?_ | refine aw_ret ?_ | refine aw_skip ?_ | refine in_exit_eq rfl ?_ | refine awr_succ ?_) | ((with_reducible refine k_move ?_); refine rl_pure (pv_move rfl) rfl rfl rfl ?_) | ((with_reducible refine k_assign ?_); refine rl_pure (pv_assign rfl) rfl rfl rfl ?_) | ((with_reducible refine k_load ?_); (first | refine rl_val (vv_load_ro (by rfl) (by rfl) by_bd) rfl rfl rfl ?_ | refine rl_val (vv_load_ro_whole (by rfl) (by rfl) (by first | rfl | exact tcells_len _)) rfl rfl rfl ?_ | refine rl_val (vv_load_box (by rfl) by_memb (by rfl) by_bd) rfl rfl rfl ?_)) | ((with_reducible refine k_fieldAddr ?_); (first | refine rl_pure (pv_fieldAddr rfl) rfl rfl rfl ?_ | refine rl_pure (pv_fieldAddr_ro rfl) rfl rfl rfl ?_)) | ((with_reducible refine k_lss ?_); refine rl_pure (pv_lss rfl rfl) rfl rfl rfl ?_) | ((with_reducible refine k_gtr ?_); refine rl_pure (pv_gtr rfl rfl) rfl rfl rfl ?_) | ((with_reducible refine k_add ?_); (first | refine rl_pure (pv_add_in rfl rfl (by omega)) rfl rfl rfl ?_ | refine rl_pure (pv_str_add rfl rfl by_bound) rfl rfl rfl ?_)) | ((with_reducible refine k_len ?_); refine rl_pure (pv_len_ro' (by rfl) by_len) rfl rfl rfl ?_) | ((with_reducible refine k_indexAddr ?_); refine rl_pure (pv_indexAddr_ro (by rfl) rfl (by omega) (by first | rfl | assumption) (by first | rfl | exact tcells_len _)) rfl rfl rfl ?_) | ((with_reducible refine k_cond ?_); refine aw_cond_f rfl ?_) | ((with_reducible refine k_callv ?_); refine rl_op rfl (op_callK rfl rfl hkx by_take rfl ?_)) | (((with_reducible refine k_cond ?_); refine aw_cond rfl ?_ ?_) <;> ((fail_if_success (refine imp_known (by assumption) ?_)); (intro hb <;> (have hc := hb) <;> (try simp only [decide_eq_true_eq, decide_eq_false_iff_not, Int.not_lt, Int.not_le, ne_eq, Bool.not_eq_true, Bool.not_eq_false, Decidable.not_not] at hc) <;> (try (exfalso; omega)) <;> (try (exfalso; simp only [Bool.not_eq_eq_eq_not, Bool.not_true, Bool.not_false, decide_eq_true_eq, decide_eq_false_iff_not, ne_eq, Decidable.not_not, Int.not_lt, Int.not_le] at hc; omega)) <;> (try (first | contradiction | (cases hc; done))) <;> (try (first | exact absurd (hb.symm.trans (by assumption) : true = false) (by decide) | exact absurd (hb.symm.trans (by assumption) : false = true) (by decide)))))))
            rw [hfin]
            exact next_of (R := []) (i + 1) hlt (by omega) (by (repeat (first | exact sub_nil | refine sub_cons (by first | rfl | (simp; done)) ?_))) (.cons .here (.cons .here .nil))
      · have hti : t.l.take i = t.l := List.take_of_length_le (by omega)
        rw [hti] at zA hs2 hj2 ⊢
        repeat' (first | (with_reducible first | refine aw_seq ?_ | refine rl_nil ?_ | refine aw_region ?_ | refine then_n ?_ | refine aw_block ?_ | refine then_exit ?_ | refine then_ret ?_ | refine in_n ?_ | refine in_ret ?_ | refine aw_exit ?_ | refine aw_ret ?_ | refine aw_skip ?_ | refine in_exit_eq rfl ?_ | refine awr_succ ?_) | ((with_reducible refine k_move ?_); refine rl_pure (pv_move rfl) rfl rfl rfl ?_) | ((with_reducible refine k_assign ?_); refine rl_pure (pv_assign rfl) rfl rfl rfl ?_) | ((with_reducible refine k_load ?_); refine rl_val (vv_load_box (by rfl) by_memb (by rfl) by_bd) rfl rfl rfl ?_) | ((with_reducible refine k_fieldAddr ?_); refine rl_pure (pv_fieldAddr rfl) rfl rfl rfl ?_) | ((with_reducible refine k_lss ?_); refine rl_pure (pv_lss rfl rfl) rfl rfl rfl ?_) | ((with_reducible refine k_add ?_); refine rl_pure (pv_str_add rfl rfl by_bound) rfl rfl rfl ?_) | ((with_reducible refine k_len ?_); refine rl_pure (pv_len_ro' (by rfl) by_len) rfl rfl rfl ?_) | (((with_reducible refine k_cond ?_); refine aw_cond rfl ?_ ?_) <;> ((fail_if_success (refine imp_known (by assumption) ?_)); (intro hb <;> (have hc := hb) <;> (try simp only [decide_eq_true_eq, decide_eq_false_iff_not, Int.not_lt, Int.not_le, ne_eq, Bool.not_eq_true, Bool.not_eq_false, Decidable.not_not] at hc) <;> (try (exfalso; omega)) <;> (try (exfalso; simp only [Bool.not_eq_eq_eq_not, Bool.not_true, Bool.not_false, decide_eq_true_eq, decide_eq_false_iff_not, ne_eq, Decidable.not_not, Int.not_lt, Int.not_le] at hc; omega)) <;> (try (first | contradiction | (cases hc; done))) <;> (try (first | exact absurd (hb.symm.trans (by assumption) : true = false) (by decide) | exact absurd (hb.symm.trans (by assumption) : false = true) (by decide)))))))
        (first | refine ret_r (retok_pick (.cons (.there .here) .nil) (ret1 rfl by_res (List.Sublist.refl _) ⟨_, rfl, ?_⟩)) | refine ret_n (retok_pick (.cons (.there .here) .nil) (ret1 rfl by_res (List.Sublist.refl _) ⟨_, rfl, ?_⟩)))
        exact ⟨rfl, rfl⟩
    · have i1 : I64 t.lo := by constructor <;> omega
      have i2 : I64 t.hi := by constructor <;> omega
      have hb := ranged49 t i1 i2
      have zb := strOf_size (bnd t.lo t.hi)
      have lb := bnd_len t.lo t.hi i1 i2
      obtain ⟨x, hx⟩ : ∃ x, t.l[0]? = some x := ⟨_, List.getElem?_eq_getElem (by omega)⟩
      have hxm := List.mem_of_getElem? hx
      have hkx := hkid x hxm
      have hxl := hklen x hxm
      have hxc := cntL_mem hxm
      have zx := strOf_size (txtT x)
      have e0 : hdT t.l = txtT x := by
        match hl : t.l, hx with
        | y :: ys, hx => simp at hx; subst hx; rw [hdT]
      have s1 := hs ⟨#[108, 105, 115, 116]⟩ (strOfNums (bnd t.lo t.hi))
      have s2 := hs (⟨#[108, 105, 115, 116]⟩ ++ strOfNums (bnd t.lo t.hi)) ⟨#[32]⟩
      have hrow : (t.l.map Typ.cells)[(0 : Int).toNat]? = some x.cells := by rw [List.getElem?_map]; show Option.map _ t.l[0]? = _; rw [hx]; rfl
      rw [if_neg (by omega), if_neg (by omega), if_neg (by omega), if_neg (by omega), if_pos hk.1, e0, ← list_str _ _ _ a6 (bnd_u8 _ _) (txtT_u8 x), ← e6]
      rw [cells_eq, hk.1] at hb ⊢
      refine TriR.of (tri_of Tryd.func25 rfl Tryd.ntmps25 rfl fun j => ?_)
      repeat' (first | (with_reducible first | refine aw_seq ?_ | refine rl_nil ?_ | refine aw_region ?_ | refine then_n ?_ | refine aw_block ?_ | refine then_exit ?_ | refine then_ret ?_ | refine in_n ?_ | refine in_ret ?_ | refine aw_exit ?_ | refine aw_ret ?_ | refine aw_skip ?_ | refine in_exit_eq rfl ?_ | refine awr_succ ?_) | ((with_reducible refine k_assign ?_); refine rl_pure (pv_assign rfl) rfl rfl rfl ?_) | ((with_reducible refine k_load ?_); refine rl_val (vv_load_box (by rfl) by_memb (by rfl) by_bd) rfl rfl rfl ?_) | ((with_reducible refine k_fieldAddr ?_); refine rl_pure (pv_fieldAddr rfl) rfl rfl rfl ?_) | ((with_reducible refine k_box ?_); refine rl_op rfl (op_box rfl (V.okc_or (by rfl)) rfl fun b => ?_)) | ((with_reducible refine k_eql ?_); refine rl_pure (pv_eql rfl rfl) rfl rfl rfl ?_) | ((with_reducible refine k_cond ?_); (first | refine aw_cond_t rfl ?_ | refine aw_cond_f rfl ?_)) | (with_reducible refine dl_nil by_app ?_) | ((with_reducible refine kd_assign ?_); refine dl_pure (by assumption) (pv_assign rfl) by_wants rfl rfl ?_) | ((with_reducible refine kd_fieldAddr ?_); refine dl_pure (by assumption) (pv_fieldAddr rfl) by_wants rfl rfl ?_) | ((with_reducible refine kd_add ?_); refine dl_pure (by assumption) (pv_str_add rfl rfl by_bound) by_wants rfl rfl ?_) | ((with_reducible refine kd_indexAddr ?_); refine dl_pure (by assumption) (pv_indexAddr_ro (by rfl) rfl (by omega) (by first | rfl | assumption) (by first | rfl | exact tcells_len _)) by_wants rfl rfl ?_) | ((with_reducible refine kd_load ?_); (first | refine dl_take (by assumption) (hv_load_ro_whole (by assumption) (by rfl) (by rfl) (by first | rfl | exact tcells_len _)) by_wants rfl rfl ?_ | refine dl_take (by assumption) (hv_load_box (by assumption) (by rfl) by_mem0 (by rfl) by_bd) by_wants rfl rfl ?_ | refine dl_take (by assumption) (hv_load_box_whole (by assumption) (by rfl) by_mem0 (by rfl) (by first | rfl | exact tcells_len _)) by_wants rfl rfl ?_)) | (refine aw_draw (id := 11) [(false, 0), (false, 4), (false, 5), (false, 6), (false, 7), (true, 1), (false, 2), (false, 3), (true, 8), (false, 9), (false, 10)] _ (by kernel_rfl) (by decide +kernel) (by decide) by_lit (.cons (.there .here) .nil) by_nos fun jd hjd => ?_) | ((with_reducible refine kd_callv ?_); (first | (refine dl_op (by assumption) by_wants (op_callK rfl rfl hb by_take rfl ?_); intro jd hjd) | (refine dl_op (by assumption) by_wants (op_callK rfl rfl hkx by_take rfl ?_); intro jd hjd))))
      (first | refine ret_r (retok_pick (.cons .here .nil) (ret1 rfl by_res (List.Sublist.refl _) ⟨_, rfl, ?_⟩)) | refine ret_n (retok_pick (.cons .here .nil) (ret1 rfl by_res (List.Sublist.refl _) ⟨_, rfl, ?_⟩)))
      exact ⟨rfl, rfl⟩
end Go.Proofs.YtepmllodaoanmaaDoor

set_option linter.unusedVariables false
set_option linter.unusedSimpArgs false
namespace Go.Proofs.YtepmllodaoanmaaDoor
open Go Go.AX
set_option maxHeartbeats 8000000
set_option maxRecDepth 20000
attribute [local irreducible] AW RL RLI OP PureV ValV HV DL Tri TriR Fun RetOk ResV
theorem quo_str (a : List Int) (ha : U8 a) : (⟨#[39]⟩ : ByteArray) ++ strOfNums a ++ (⟨#[39]⟩ : ByteArray) = strOfNums (39 :: (a ++ [39])) := by
  rw [← strOf_nums (_ ++ _)]
  congr 1
  simp only [nums_append, nums_strOf a ha]
  all_goals simp [nums]
theorem num_str (n : Int) : (⟨#[35]⟩ : ByteArray) ++ itoaT n = strOfNums (35 :: itx n) := by
  rw [← strOf_nums (_ ++ _)]
  congr 1
  all_goals simp only [nums_append, nums_itx]
  all_goals simp [nums]
theorem named_str (nm : ByteArray) (c : List Int) (hc : U8 c) : nm ++ (⟨#[32]⟩ : ByteArray) ++ strOfNums c = strOfNums (nums nm ++ (32 :: c)) := by
  rw [← strOf_nums (_ ++ _)]
  congr 1
  simp only [nums_append, nums_strOf c hc]
  all_goals simp [nums]
theorem rowd_str (b : List Int) (hb : U8 b) : (⟨#[123]⟩ : ByteArray) ++ strOfNums b ++ (⟨#[125]⟩ : ByteArray) = strOfNums (123 :: (b ++ [125])) := by
  rw [← strOf_nums (_ ++ _)]
  congr 1
  simp only [nums_append, nums_strOf b hb]
  all_goals simp [nums]
theorem listd_str (b : List Int) (hb : U8 b) : (⟨#[91]⟩ : ByteArray) ++ strOfNums b ++ (⟨#[93]⟩ : ByteArray) = strOfNums (91 :: (b ++ [93])) := by
  rw [← strOf_nums (_ ++ _)]
  congr 1
  simp only [nums_append, nums_strOf b hb]
  all_goals simp [nums]
theorem itx_str (n : Int) : itoaT n = strOfNums (itx n) := (strOf_nums _).symm
theorem told26 : ∀ (n : Nat) (t : Typ) (d : Dat), t.wt ≤ n → n ≤ 1048576 → d.wt ≤ 32768 → d.ok → okT t = true → fitT t d = true → FunI 26 [.agg t.cells, .agg d.cells] (str (strOfNums (txtD t d))) := by
  intro n
  induction n with
  | zero => intro t d h; have := wt_eq t; omega
  | succ n ih =>
    intro t d hw hn hdw hdok hok hf
    have hwe := wt_eq t
    have hdwe := dwt_eq d
    have hdl := wtD_len d.l
    have hdo := (dok_eq d).1 hdok
    have hlen := txtD_len _ t d (Nat.le_refl _) hok hf
    have hkid : ∀ (i : Nat) x (k : Nat) u, t.l[i]? = some x → d.l[k]? = some u → fitT x u = true → FunI 26 [.agg x.cells, .agg u.cells] (str (strOfNums (txtD x u))) ∧ (txtD x u).length + 20 ≤ 50 * u.wt ∧ u.wt ≤ wtD d.l ∧ u.ok := fun i x k u hx hu hfu =>
      ⟨ih x u (by have := wtL_take hx; omega) (by omega) (by have := wtD_take hu; omega) (okD_mem.1 hdo.2 u (List.mem_of_getElem? hu)) (okT_kid hok x (List.mem_of_getElem? hx)) hfu,
        txtD_len _ x u (Nat.le_refl _) (okT_kid hok x (List.mem_of_getElem? hx)) hfu, by have := wtD_take hu; omega, okD_mem.1 hdo.2 u (List.mem_of_getElem? hu)⟩
    clear ih
    have hs : ∀ a b : ByteArray, (a ++ b).size = a.size + b.size := fun a b => ByteArray.size_append
    have hd1 : (ByteArray.mk #[39]).size = 1 := rfl
    have hd2 : (ByteArray.mk #[35]).size = 1 := rfl
    have hd3 : (ByteArray.mk #[32]).size = 1 := rfl
    have hd4 : (ByteArray.mk #[123]).size = 1 := rfl
    have hd5 : (ByteArray.mk #[125]).size = 1 := rfl
    have hd6 : (ByteArray.mk #[91]).size = 1 := rfl
    have hd7 : (ByteArray.mk #[93]).size = 1 := rfl
    rw [fitT_eq, Bool.and_eq_true] at hf
    obtain ⟨hf0, hf⟩ := hf
    rw [txtD_eq] at hlen ⊢
    rcases okT_cls hok with hk | hk | hk | hk | hk | hk | hk | hk
    · rw [if_pos hk.1]
      have gf := format51 (decide (d.n = 1))
      have ef : (if decide (d.n = 1) = true then wT else wF) = (if d.n = 1 then wT else wF) := by by_cases h : d.n = 1 <;> simp [h]
      rw [ef] at gf
      rw [cells_eq t, dcells_eq d, hk.1]
      refine TriR.of (tri_of Tryd.func26 rfl Tryd.ntmps26 rfl fun j => ?_)
      repeat' (first | (with_reducible first | refine aw_seq ?_ | refine rl_nil ?_ | refine aw_region ?_ | refine then_n ?_ | refine aw_block ?_ | refine then_exit ?_ | refine then_ret ?_ | refine in_n ?_ | refine in_ret ?_ | refine aw_exit ?_ | refine aw_ret ?_ | refine aw_skip ?_ | refine in_exit_eq rfl ?_ | refine awr_succ ?_) | ((with_reducible refine k_assign ?_); refine rl_pure (pv_assign rfl) rfl rfl rfl ?_) | ((with_reducible refine k_load ?_); refine rl_val (vv_load_box (by rfl) by_memb (by rfl) by_bd) rfl rfl rfl ?_) | ((with_reducible refine k_fieldAddr ?_); refine rl_pure (pv_fieldAddr rfl) rfl rfl rfl ?_) | ((with_reducible refine k_box ?_); refine rl_op rfl (op_box rfl (V.okc_or (by rfl)) rfl fun b => ?_)) | ((with_reducible refine k_eql ?_); refine rl_pure (pv_eql rfl rfl) rfl rfl rfl ?_) | ((with_reducible refine k_cond ?_); refine aw_cond_t rfl ?_) | ((with_reducible refine k_callv ?_); refine rl_op rfl (op_callF rfl rfl (gf) rfl ?_)))
      (first | refine ret_r (retok_pick (.cons (.there (.there .here)) .nil) (ret1 rfl by_res (List.Sublist.refl _) ⟨_, rfl, ?_⟩)) | refine ret_n (retok_pick (.cons (.there (.there .here)) .nil) (ret1 rfl by_res (List.Sublist.refl _) ⟨_, rfl, ?_⟩)))
      exact ⟨rfl, rfl⟩
    · rw [if_neg (by omega), if_neg (by omega), if_neg (by omega), if_neg (by omega), if_neg (by omega), if_neg (by omega), if_neg (by omega)]
      rw [cells_eq t, dcells_eq d, hk.1]
      refine TriR.of (tri_of Tryd.func26 rfl Tryd.ntmps26 rfl fun j => ?_)
      repeat' (first | (with_reducible first | refine aw_seq ?_ | refine rl_nil ?_ | refine aw_region ?_ | refine then_n ?_ | refine aw_block ?_ | refine then_exit ?_ | refine then_ret ?_ | refine in_n ?_ | refine in_ret ?_ | refine aw_exit ?_ | refine aw_ret ?_ | refine aw_skip ?_ | refine in_exit_eq rfl ?_ | refine awr_succ ?_) | ((with_reducible refine k_assign ?_); refine rl_pure (pv_assign rfl) rfl rfl rfl ?_) | ((with_reducible refine k_load ?_); refine rl_val (vv_load_box (by rfl) by_memb (by rfl) by_bd) rfl rfl rfl ?_) | ((with_reducible refine k_fieldAddr ?_); refine rl_pure (pv_fieldAddr rfl) rfl rfl rfl ?_) | ((with_reducible refine k_box ?_); refine rl_op rfl (op_box rfl (V.okc_or (by rfl)) rfl fun b => ?_)) | ((with_reducible refine k_eql ?_); refine rl_pure (pv_eql rfl rfl) rfl rfl rfl ?_) | ((with_reducible refine k_cond ?_); refine aw_cond_f rfl ?_))
      (first | refine ret_r (retok_pick (.cons (.there (.there .here)) .nil) (ret1 rfl by_res (List.Sublist.refl _) ⟨_, rfl, ?_⟩)) | refine ret_n (retok_pick (.cons (.there (.there .here)) .nil) (ret1 rfl by_res (List.Sublist.refl _) ⟨_, rfl, ?_⟩)))
      exact ⟨rfl, rfl⟩
    · rw [if_neg (by omega), if_pos (by omega)] at hf
      have hf := of_decide_eq_true hf
      have gi := itoa44' d.n (by constructor <;> omega)
      rw [if_neg (by omega), if_pos hk.1, ← itx_str]
      rw [cells_eq t, dcells_eq d, hk.1]
      refine TriR.of (tri_of Tryd.func26 rfl Tryd.ntmps26 rfl fun j => ?_)
      repeat' (first | (with_reducible first | refine aw_seq ?_ | refine rl_nil ?_ | refine aw_region ?_ | refine then_n ?_ | refine aw_block ?_ | refine then_exit ?_ | refine then_ret ?_ | refine in_n ?_ | refine in_ret ?_ | refine aw_exit ?_ | refine aw_ret ?_ | refine aw_skip ?_ | refine in_exit_eq rfl ?_ | refine awr_succ ?_) | ((with_reducible refine k_assign ?_); refine rl_pure (pv_assign rfl) rfl rfl rfl ?_) | ((with_reducible refine k_load ?_); refine rl_val (vv_load_box (by rfl) by_memb (by rfl) by_bd) rfl rfl rfl ?_) | ((with_reducible refine k_fieldAddr ?_); refine rl_pure (pv_fieldAddr rfl) rfl rfl rfl ?_) | ((with_reducible refine k_box ?_); refine rl_op rfl (op_box rfl (V.okc_or (by rfl)) rfl fun b => ?_)) | ((with_reducible refine k_eql ?_); refine rl_pure (pv_eql rfl rfl) rfl rfl rfl ?_) | ((with_reducible refine k_cond ?_); (first | refine aw_cond_t rfl ?_ | refine aw_cond_f rfl ?_)) | ((with_reducible refine k_callv ?_); refine rl_op rfl (op_callK rfl rfl gi by_take rfl ?_)))
      (first | refine ret_r (retok_pick (.cons (.there (.there .here)) .nil) (ret1 rfl by_res (List.Sublist.refl _) ⟨_, rfl, ?_⟩)) | refine ret_n (retok_pick (.cons (.there (.there .here)) .nil) (ret1 rfl by_res (List.Sublist.refl _) ⟨_, rfl, ?_⟩)))
      exact ⟨rfl, rfl⟩
    · have gh := hex52 d.b hdo.1.1 hdo.1.2.1
      have zh := strOf_size (hexL d.b)
      rw [hexL_len] at zh
      have s1 := hs ⟨#[39]⟩ (strOfNums (hexL d.b))
      rw [if_neg (by omega), if_neg (by omega), if_pos hk.1, ← quo_str _ (hexL_u8 hdo.1.1)]
      rw [cells_eq t, dcells_eq d, hk.1]
      refine TriR.of (tri_of Tryd.func26 rfl Tryd.ntmps26 rfl fun j => ?_)
      repeat' (first | (with_reducible first | refine aw_seq ?_ | refine rl_nil ?_ | refine aw_region ?_ | refine then_n ?_ | refine aw_block ?_ | refine then_exit ?_ | refine then_ret ?_ | refine in_n ?_ | refine in_ret ?_ | refine aw_exit ?_ | refine aw_ret ?_ | refine aw_skip ?_ | refine in_exit_eq rfl ?_ | refine awr_succ ?_) | ((with_reducible refine k_assign ?_); refine rl_pure (pv_assign rfl) rfl rfl rfl ?_) | ((with_reducible refine k_load ?_); refine rl_val (vv_load_box (by rfl) by_memb (by rfl) by_bd) rfl rfl rfl ?_) | ((with_reducible refine k_fieldAddr ?_); refine rl_pure (pv_fieldAddr rfl) rfl rfl rfl ?_) | ((with_reducible refine k_box ?_); refine rl_op rfl (op_box rfl (V.okc_or (by rfl)) rfl fun b => ?_)) | ((with_reducible refine k_eql ?_); refine rl_pure (pv_eql rfl rfl) rfl rfl rfl ?_) | ((with_reducible refine k_add ?_); refine rl_pure (pv_str_add rfl rfl by_bound) rfl rfl rfl ?_) | ((with_reducible refine k_cond ?_); (first | refine aw_cond_t rfl ?_ | refine aw_cond_f rfl ?_)) | ((with_reducible refine k_callv ?_); refine rl_op rfl (op_callF rfl rfl (gh) rfl ?_)))
      (first | refine ret_r (retok_pick (.cons (.there (.there .here)) .nil) (ret1 rfl by_res (List.Sublist.refl _) ⟨_, rfl, ?_⟩)) | refine ret_n (retok_pick (.cons (.there (.there .here)) .nil) (ret1 rfl by_res (List.Sublist.refl _) ⟨_, rfl, ?_⟩)))
      exact ⟨rfl, rfl⟩
    · rw [if_neg (by omega), if_pos (by omega)] at hf
      have hf := of_decide_eq_true hf
      have gi := itoa44' d.n (by constructor <;> omega)
      have li := itoaT_len d.n (by constructor <;> omega)
      rw [if_neg (by omega), if_neg (by omega), if_neg (by omega), if_pos hk.1, ← num_str]
      rw [cells_eq t, dcells_eq d, hk.1]
      refine TriR.of (tri_of Tryd.func26 rfl Tryd.ntmps26 rfl fun j => ?_)
      repeat' (first | (with_reducible first | refine aw_seq ?_ | refine rl_nil ?_ | refine aw_region ?_ | refine then_n ?_ | refine aw_block ?_ | refine then_exit ?_ | refine then_ret ?_ | refine in_n ?_ | refine in_ret ?_ | refine aw_exit ?_ | refine aw_ret ?_ | refine aw_skip ?_ | refine in_exit_eq rfl ?_ | refine awr_succ ?_) | ((with_reducible refine k_assign ?_); refine rl_pure (pv_assign rfl) rfl rfl rfl ?_) | ((with_reducible refine k_load ?_); refine rl_val (vv_load_box (by rfl) by_memb (by rfl) by_bd) rfl rfl rfl ?_) | ((with_reducible refine k_fieldAddr ?_); refine rl_pure (pv_fieldAddr rfl) rfl rfl rfl ?_) | ((with_reducible refine k_box ?_); refine rl_op rfl (op_box rfl (V.okc_or (by rfl)) rfl fun b => ?_)) | ((with_reducible refine k_eql ?_); refine rl_pure (pv_eql rfl rfl) rfl rfl rfl ?_) | ((with_reducible refine k_add ?_); refine rl_pure (pv_str_add rfl rfl by_bound) rfl rfl rfl ?_) | ((with_reducible refine k_cond ?_); (first | refine aw_cond_t rfl ?_ | refine aw_cond_f rfl ?_)) | ((with_reducible refine k_callv ?_); refine rl_op rfl (op_callK rfl rfl gi by_take rfl ?_)))
      (first | refine ret_r (retok_pick (.cons (.there (.there .here)) .nil) (ret1 rfl by_res (List.Sublist.refl _) ⟨_, rfl, ?_⟩)) | refine ret_n (retok_pick (.cons (.there (.there .here)) .nil) (ret1 rfl by_res (List.Sublist.refl _) ⟨_, rfl, ?_⟩)))
      exact ⟨rfl, rfl⟩
    · rw [if_neg (by omega), if_neg (by omega), if_neg (by omega), if_pos (by omega)] at hf
      simp only [Bool.and_eq_true, decide_eq_true_eq] at hf
      have hnm := okT_nm hok (.inl hk.1)
      have hru := rowD_u8 t.l d.l hdo.2
      have hsum := rowD_sum t.l d.l (fun x hx u hu => txtD_len _ x u (Nat.le_refl _) (okT_kid hok x hx) hu) hnm hf.2
      have hj2 := jn2_len (rowD t.l d.l)
      have htot := tot_strOf (rowD t.l d.l)
      have zj := strOf_size (jn2 (rowD t.l d.l))
      rw [if_neg (by omega), if_neg (by omega), if_neg (by omega), if_neg (by omega), if_pos hk.1, ← rowd_str _ (jn2_u8 hru)]
      rw [cells_eq t, dcells_eq d, hk.1]
      refine TriR.of (tri_of Tryd.func26 rfl Tryd.ntmps26 rfl fun j => ?_)
      repeat' (first | (with_reducible first | refine aw_seq ?_ | refine rl_nil ?_ | refine aw_region ?_ | refine then_n ?_ | refine aw_block ?_ | refine then_exit ?_ | refine then_ret ?_ | refine in_n ?_ | refine in_ret ?_ | refine aw_exit ?_ | refine aw_ret ?_ | refine aw_skip ?_ | refine in_exit_eq rfl ?_ | refine awr_succ ?_) | ((with_reducible refine k_move ?_); refine rl_pure (pv_move rfl) rfl rfl rfl ?_) | ((with_reducible refine k_assign ?_); refine rl_pure (pv_assign rfl) rfl rfl rfl ?_) | ((with_reducible refine k_load ?_); refine rl_val (vv_load_box (by rfl) by_memb (by rfl) by_bd) rfl rfl rfl ?_) | ((with_reducible refine k_fieldAddr ?_); refine rl_pure (pv_fieldAddr rfl) rfl rfl rfl ?_) | ((with_reducible refine k_box ?_); refine rl_op rfl (op_box rfl (V.okc_or (by rfl)) rfl fun b => ?_)) | ((with_reducible refine k_eql ?_); refine rl_pure (pv_eql rfl rfl) rfl rfl rfl ?_) | ((with_reducible refine k_len ?_); refine rl_pure (pv_len_ro' (by rfl) by_len) rfl rfl rfl ?_) | ((with_reducible refine k_cond ?_); (first | refine aw_cond_t rfl ?_ | refine aw_cond_f rfl ?_)))
      revert b
      intro bd
      refine aw_nil_own 5 9 1 rfl ?_
      refine aw_iter (α := Nat × Value) (fun q => [(2, ptr b), (5, .own q.2), (61, .ro (d.l.map Dat.cells)), (62, int d.l.length), (63, int q.1)]) (fun q => [.vec q.2 9 1 (((rowD (t.l.take q.1) (d.l.take q.1)).map strOfNums).map rS), .box b 24 [int 4, str t.name, int t.lo, int t.hi, bool t.opt, .ro (t.l.map Typ.cells)], kpc])
        (fun q => q.1 ≤ d.l.length) (fun q => d.l.length - q.1) (0, .slice none 0 0) (Nat.zero_le _) (by (repeat (first | exact sub_nil | refine sub_cons (by first | rfl | (simp; done)) ?_))) (.cons .here (.cons (.there .here) (.cons (.there .here) .nil))) fun q hI => ?_
      obtain ⟨i, sv⟩ := q
      dsimp only at hI ⊢
      by_cases hlt : i < d.l.length
      · obtain ⟨u, hu⟩ : ∃ u, d.l[i]? = some u := ⟨_, List.getElem?_eq_getElem hlt⟩
        obtain ⟨x, hx⟩ : ∃ x, t.l[i]? = some x := ⟨_, List.getElem?_eq_getElem (by omega)⟩
        have hrd : (d.l.map Dat.cells)[(i : Int).toNat]? = some u.cells := by rw [Int.toNat_natCast, List.getElem?_map, hu]; rfl
        have hrt : (t.l.map Typ.cells)[(i : Int).toNat]? = some x.cells := by rw [Int.toNat_natCast, List.getElem?_map, hx]; rfl
        have hxn := hnm x (List.mem_of_getElem? hx)
        have hfg := fun h => fitRow_get hf.2 hx hu h
        have htk := rowD_take hx hu
        have hml : (rowD (t.l.take i) (d.l.take i)).length ≤ 20 := Nat.le_trans (rowD_len _ _) (by rw [List.length_take]; omega)
        cases hus : u.set with
        | true =>
          have hfu := hfg hus
          obtain ⟨hkx, hxl, hxw, hxo⟩ := hkid i x i u hx hu hfu
          have zx := strOf_size (txtD x u)
          have s1 := hs x.name ⟨#[32]⟩
          have hp : prtD x u = [nums x.name ++ (32 :: txtD x u)] := by unfold prtD; rw [if_pos hus]
          rw [hp] at htk
          have htk2 : ((rowD (t.l.take (i + 1)) (d.l.take (i + 1))).map strOfNums).map rS = ((rowD (t.l.take i) (d.l.take i)).map strOfNums).map rS ++ [[str (strOfNums (nums x.name ++ (32 :: txtD x u)))]] := by rw [htk, List.map_append, List.map_append]; rfl
          rw [dcells_eq u, hus] at hrd hkx
          rw [cells_eq x] at hrt hkx
          repeat' (first | (with_reducible first | refine aw_seq ?_ | refine rl_nil ?_ | refine aw_region ?_ | refine then_n ?_ | refine aw_block ?_ | refine then_exit ?_ | refine then_ret ?_ | refine in_n ?_ | refine in_ret ?_ | refine aw_exit ?_ | refine aw_ret ?_ | refine aw_skip ?_ | refine in_exit_eq rfl ?_ | refine awr_succ ?_) | ((with_reducible refine k_move ?_); refine rl_pure (pv_move rfl) rfl rfl rfl ?_) | ((with_reducible refine k_assign ?_); refine rl_pure (pv_assign rfl) rfl rfl rfl ?_) | ((with_reducible refine k_load ?_); (first | refine rl_val (vv_load_ro_whole (by rfl) (by rfl) (by first | rfl | exact tcells_len _ | exact dcells_len _)) rfl rfl rfl ?_ | refine rl_val (vv_load_box (by rfl) by_memb (by rfl) by_bd) rfl rfl rfl ?_)) | ((with_reducible refine k_fieldAddr ?_); refine rl_pure (pv_fieldAddr rfl) rfl rfl rfl ?_) | ((with_reducible refine k_store ?_); refine rl_op rfl (op_store_box_whole (by rfl) (by rfl) (V.okc_or (by rfl)) by_upd (by first | rfl | exact tcells_len _ | exact dcells_len _) (by first | rfl | exact tcells_len _ | exact dcells_len _) ?_)) | ((with_reducible refine k_alloc ?_); refine rl_op rfl (op_alloc (by decide) rfl fun b => ?_)) | ((with_reducible refine k_lss ?_); refine rl_pure (pv_lss rfl rfl) rfl rfl rfl ?_) | ((with_reducible refine k_indexAddr ?_); refine rl_pure (pv_indexAddr_ro (by rfl) rfl (by omega) (by first | rfl | assumption) (by first | rfl | exact tcells_len _ | exact dcells_len _)) rfl rfl rfl ?_) | ((with_reducible refine k_cond ?_); refine aw_cond_t rfl ?_) | ((with_reducible refine kd_move ?_); refine dl_pure (by assumption) (pv_move rfl) by_wants rfl rfl ?_) | ((with_reducible refine kd_fieldAddr ?_); (first | refine dl_pure (by assumption) (pv_fieldAddr rfl) by_wants rfl rfl ?_ | refine dl_pure (by assumption) (pv_fieldAddr_ro rfl) by_wants rfl rfl ?_)) | ((with_reducible refine kd_add ?_); refine dl_pure (by assumption) (pv_str_add rfl rfl by_bound) by_wants rfl rfl ?_) | ((with_reducible refine kd_indexAddr ?_); refine dl_pure (by assumption) (pv_indexAddr_ro (by rfl) rfl (by omega) (by first | rfl | assumption) (by first | rfl | exact tcells_len _ | exact dcells_len _)) by_wants rfl rfl ?_) | ((with_reducible refine kd_buildSlice ?_); (refine dl_op (by assumption) by_wants (op_buildSlice_ro rfl rfl rfl (by rfl) (by rfl) (by rfl) (by rfl) rfl by_rows ?_); intro jd hjd)) | ((with_reducible refine kd_load ?_); (first | refine dl_take (by assumption) (hv_load_ro (by assumption) (by rfl) (by rfl) by_bd) by_wants rfl rfl ?_ | refine dl_take (by assumption) (hv_load_ro_whole (by assumption) (by rfl) (by rfl) (by first | rfl | exact tcells_len _ | exact dcells_len _)) by_wants rfl rfl ?_ | refine dl_take (by assumption) (hv_load_box (by assumption) (by rfl) by_mem0 (by rfl) by_bd) by_wants rfl rfl ?_ | refine dl_take (by assumption) (hv_load_box_whole (by assumption) (by rfl) by_mem0 (by rfl) (by first | rfl | exact tcells_len _ | exact dcells_len _)) by_wants rfl rfl ?_)) | (refine aw_draw (id := 18) [(false, 0), (false, 1), (false, 2), (false, 3), (false, 4), (false, 5), (false, 6), (false, 7), (false, 8), (false, 9), (false, 10), (false, 11), (false, 12), (false, 13), (true, 14), (false, 15), (true, 16), (true, 17), (false, 18)] _ (by kernel_rfl) (by decide +kernel) (by decide) by_lit (.cons (.there (.there (.there .here))) (.cons (.there .here) .nil)) by_nos fun jd hjd => ?_) | ((with_reducible refine kd_callv ?_); (refine dl_op (by assumption) by_wants (op_callK rfl rfl hkx by_take rfl ?_); intro jd hjd)) | (((with_reducible refine k_cond ?_); refine aw_cond rfl ?_ ?_) <;> ((fail_if_success (refine imp_known (by assumption) ?_)); (intro hb <;> (have hc := hb) <;> (try simp only [decide_eq_true_eq, decide_eq_false_iff_not, Int.not_lt, Int.not_le, ne_eq, Bool.not_eq_true, Bool.not_eq_false, Decidable.not_not] at hc) <;> (try (exfalso; omega)) <;> (try (exfalso; simp only [Bool.not_eq_eq_eq_not, Bool.not_true, Bool.not_false, decide_eq_true_eq, decide_eq_false_iff_not, ne_eq, Decidable.not_not, Int.not_lt, Int.not_le] at hc; omega)) <;> (try (first | contradiction | (cases hc; done))) <;> (try (first | exact absurd (hb.symm.trans (by assumption) : true = false) (by decide) | exact absurd (hb.symm.trans (by assumption) : false = true) (by decide)))))))
          (first | refine rl_op rfl (op_append rfl (.there .here) rfl rfl rfl rfl (by first | (intro r hr; obtain ⟨_, _, rfl⟩ := List.mem_map.1 hr; rfl) | (simp; done) | (simp [V.cells]; done)) by_small rfl fun sv' => ?_) | (refine dl_op (by assumption) by_wants (op_append rfl (.there .here) rfl rfl rfl rfl (by first | (intro r hr; obtain ⟨_, _, rfl⟩ := List.mem_map.1 hr; rfl) | (simp; done) | (simp [V.cells]; done)) by_small rfl fun sv' => ?_); intro jd hjd))
          repeat' (first | (with_reducible first | refine aw_seq ?_ | refine rl_nil ?_ | refine aw_region ?_ | refine then_n ?_ | refine aw_block ?_ | refine then_exit ?_ | refine then_ret ?_ | refine in_n ?_ | refine in_ret ?_ | refine aw_exit ?_ | refine aw_ret ?_ | refine aw_skip ?_ | refine in_exit_eq rfl ?_ | refine awr_succ ?_) | ((with_reducible refine k_move ?_); refine rl_pure (pv_move rfl) rfl rfl rfl ?_) | ((with_reducible refine k_add ?_); refine rl_pure (pv_add_in rfl rfl (by omega)) rfl rfl rfl ?_) | (with_reducible refine dl_nil by_app ?_) | ((with_reducible refine kd_assign ?_); refine dl_pure (by assumption) (pv_assign rfl) by_wants rfl rfl ?_))
          rw [named_str _ _ (txtD_u8 x u hxo), ← htk2]
          exact next_of (R := [_]) (i + 1, sv') hlt (by dsimp only; omega) (by (repeat (first | exact sub_nil | refine sub_cons (by first | rfl | (simp; done)) ?_))) (.cons .here (.cons (.there (.there .here)) (.cons .here .nil)))
        | false =>
          have hp : prtD x u = [] := by unfold prtD; rw [if_neg (by rw [hus]; decide)]
          rw [hp, List.append_nil] at htk
          rw [dcells_eq u, hus] at hrd
          repeat' (first | (with_reducible first | refine aw_seq ?_ | refine rl_nil ?_ | refine aw_region ?_ | refine then_n ?_ | refine aw_block ?_ | refine then_exit ?_ | refine then_ret ?_ | refine in_n ?_ | refine in_ret ?_ | refine aw_exit ?_ | refine aw_ret ?_ | refine aw_skip ?_ | refine in_exit_eq rfl ?_ | refine awr_succ ?_) | ((with_reducible refine k_move ?_); refine rl_pure (pv_move rfl) rfl rfl rfl ?_) | ((with_reducible refine k_assign ?_); refine rl_pure (pv_assign rfl) rfl rfl rfl ?_) | ((with_reducible refine k_load ?_); (first | refine rl_val (vv_load_ro_whole (by rfl) (by rfl) (by first | rfl | exact tcells_len _ | exact dcells_len _)) rfl rfl rfl ?_ | refine rl_val (vv_load_box (by rfl) by_memb (by rfl) by_bd) rfl rfl rfl ?_)) | ((with_reducible refine k_fieldAddr ?_); refine rl_pure (pv_fieldAddr rfl) rfl rfl rfl ?_) | ((with_reducible refine k_store ?_); refine rl_op rfl (op_store_box_whole (by rfl) (by rfl) (V.okc_or (by rfl)) by_upd (by first | rfl | exact tcells_len _ | exact dcells_len _) (by first | rfl | exact tcells_len _ | exact dcells_len _) ?_)) | ((with_reducible refine k_alloc ?_); refine rl_op rfl (op_alloc (by decide) rfl fun b => ?_)) | ((with_reducible refine k_lss ?_); refine rl_pure (pv_lss rfl rfl) rfl rfl rfl ?_) | ((with_reducible refine k_add ?_); refine rl_pure (pv_add_in rfl rfl (by omega)) rfl rfl rfl ?_) | ((with_reducible refine k_indexAddr ?_); refine rl_pure (pv_indexAddr_ro (by rfl) rfl (by omega) (by first | rfl | assumption) (by first | rfl | exact tcells_len _ | exact dcells_len _)) rfl rfl rfl ?_) | ((with_reducible refine k_cond ?_); refine aw_cond_f rfl ?_) | (((with_reducible refine k_cond ?_); refine aw_cond rfl ?_ ?_) <;> ((fail_if_success (refine imp_known (by assumption) ?_)); (intro hb <;> (have hc := hb) <;> (try simp only [decide_eq_true_eq, decide_eq_false_iff_not, Int.not_lt, Int.not_le, ne_eq, Bool.not_eq_true, Bool.not_eq_false, Decidable.not_not] at hc) <;> (try (exfalso; omega)) <;> (try (exfalso; simp only [Bool.not_eq_eq_eq_not, Bool.not_true, Bool.not_false, decide_eq_true_eq, decide_eq_false_iff_not, ne_eq, Decidable.not_not, Int.not_lt, Int.not_le] at hc; omega)) <;> (try (first | contradiction | (cases hc; done))) <;> (try (first | exact absurd (hb.symm.trans (by assumption) : true = false) (by decide) | exact absurd (hb.symm.trans (by assumption) : false = true) (by decide)))))))
          rw [← htk]
          exact next_of (R := [_]) (i + 1, sv) hlt (by dsimp only; omega) (by (repeat (first | exact sub_nil | refine sub_cons (by first | rfl | (simp; done)) ?_))) (.cons (.there .here) (.cons (.there .here) (.cons (.there .here) .nil)))
      · have hti : t.l.take i = t.l := List.take_of_length_le (by omega)
        have hti2 : d.l.take i = d.l := List.take_of_length_le (by omega)
        rw [hti, hti2]
        have gj := join36 ⟨#[44, 32]⟩ ((rowD t.l d.l).map strOfNums) [44, 32] rfl rfl (u8_cons (by decide) (u8_cons (by decide) u8_nil)) (by simp only [List.length_map] at htot ⊢; omega)
        rw [joinT_jn2 _ hru] at gj
        have s2 := hs ⟨#[123]⟩ (strOfNums (jn2 (rowD t.l d.l)))
        refine aw_freeze (d := 5) rfl .here ?_
        repeat' (first | (with_reducible first | refine aw_seq ?_ | refine rl_nil ?_ | refine aw_region ?_ | refine then_n ?_ | refine aw_block ?_ | refine then_exit ?_ | refine then_ret ?_ | refine in_n ?_ | refine in_ret ?_ | refine aw_exit ?_ | refine aw_ret ?_ | refine aw_skip ?_ | refine in_exit_eq rfl ?_ | refine awr_succ ?_) | ((with_reducible refine k_move ?_); refine rl_pure (pv_move rfl) rfl rfl rfl ?_) | ((with_reducible refine k_assign ?_); refine rl_pure (pv_assign rfl) rfl rfl rfl ?_) | ((with_reducible refine k_lss ?_); refine rl_pure (pv_lss rfl rfl) rfl rfl rfl ?_) | ((with_reducible refine k_add ?_); refine rl_pure (pv_str_add rfl rfl by_bound) rfl rfl rfl ?_) | ((with_reducible refine k_callv ?_); refine rl_op rfl (op_callF rfl rfl (gj) rfl ?_)) | (((with_reducible refine k_cond ?_); refine aw_cond rfl ?_ ?_) <;> ((fail_if_success (refine imp_known (by assumption) ?_)); (intro hb <;> (have hc := hb) <;> (try simp only [decide_eq_true_eq, decide_eq_false_iff_not, Int.not_lt, Int.not_le, ne_eq, Bool.not_eq_true, Bool.not_eq_false, Decidable.not_not] at hc) <;> (try (exfalso; omega)) <;> (try (exfalso; simp only [Bool.not_eq_eq_eq_not, Bool.not_true, Bool.not_false, decide_eq_true_eq, decide_eq_false_iff_not, ne_eq, Decidable.not_not, Int.not_lt, Int.not_le] at hc; omega)) <;> (try (first | contradiction | (cases hc; done))) <;> (try (first | exact absurd (hb.symm.trans (by assumption) : true = false) (by decide) | exact absurd (hb.symm.trans (by assumption) : false = true) (by decide)))))))
        (first | refine ret_r (retok_pick (.cons (.there .here) .nil) (ret1 rfl by_res (List.Sublist.refl _) ⟨_, rfl, ?_⟩)) | refine ret_n (retok_pick (.cons (.there .here) .nil) (ret1 rfl by_res (List.Sublist.refl _) ⟨_, rfl, ?_⟩)))
        exact ⟨rfl, rfl⟩
    · rw [if_neg (by omega), if_neg (by omega), if_neg (by omega), if_neg (by omega), if_pos (by omega)] at hf
      simp only [Bool.and_eq_true, decide_eq_true_eq] at hf
      obtain ⟨hf, hf2⟩ := hf
      obtain ⟨x, hx⟩ : ∃ x, t.l[d.n.toNat]? = some x := ⟨_, List.getElem?_eq_getElem (by omega)⟩
      obtain ⟨u, hu⟩ : ∃ u, d.l[0]? = some u := ⟨_, List.getElem?_eq_getElem (by omega)⟩
      rw [fitAt_eq hx hu] at hf2
      obtain ⟨hkx, hxl, hxw, hxo⟩ := hkid _ x 0 u hx hu hf2
      have zx := strOf_size (txtD x u)
      have hxn := okT_nm hok (.inr hk.1) x (List.mem_of_getElem? hx)
      have s1 := hs x.name ⟨#[32]⟩
      have hrt : (t.l.map Typ.cells)[d.n.toNat]? = some x.cells := by rw [List.getElem?_map, hx]; rfl
      have hrd : (d.l.map Dat.cells)[(0 : Int).toNat]? = some u.cells := by rw [List.getElem?_map]; show Option.map _ d.l[0]? = _; rw [hu]; rfl
      rw [if_neg (by omega), if_neg (by omega), if_neg (by omega), if_neg (by omega), if_neg (by omega), if_pos hk.1, atD_eq hx hu, ← named_str _ _ (txtD_u8 x u hxo)]
      have hdn0 := hf.1
      have hdn1 := hf.2.1
      rw [cells_eq x] at hrt hkx
      rw [cells_eq t, dcells_eq d, hk.1]
      refine TriR.of (tri_of Tryd.func26 rfl Tryd.ntmps26 rfl fun j => ?_)
      repeat' (first | (with_reducible first | refine aw_seq ?_ | refine rl_nil ?_ | refine aw_region ?_ | refine then_n ?_ | refine aw_block ?_ | refine then_exit ?_ | refine then_ret ?_ | refine in_n ?_ | refine in_ret ?_ | refine aw_exit ?_ | refine aw_ret ?_ | refine aw_skip ?_ | refine in_exit_eq rfl ?_ | refine awr_succ ?_) | ((with_reducible refine k_assign ?_); refine rl_pure (pv_assign rfl) rfl rfl rfl ?_) | ((with_reducible refine k_load ?_); refine rl_val (vv_load_box (by rfl) by_memb (by rfl) by_bd) rfl rfl rfl ?_) | ((with_reducible refine k_fieldAddr ?_); refine rl_pure (pv_fieldAddr rfl) rfl rfl rfl ?_) | ((with_reducible refine k_box ?_); refine rl_op rfl (op_box rfl (V.okc_or (by rfl)) rfl fun b => ?_)) | ((with_reducible refine k_eql ?_); refine rl_pure (pv_eql rfl rfl) rfl rfl rfl ?_) | ((with_reducible refine k_cond ?_); (first | refine aw_cond_t rfl ?_ | refine aw_cond_f rfl ?_)) | (with_reducible refine dl_nil by_app ?_) | ((with_reducible refine kd_assign ?_); refine dl_pure (by assumption) (pv_assign rfl) by_wants rfl rfl ?_) | ((with_reducible refine kd_fieldAddr ?_); (first | refine dl_pure (by assumption) (pv_fieldAddr rfl) by_wants rfl rfl ?_ | refine dl_pure (by assumption) (pv_fieldAddr_ro rfl) by_wants rfl rfl ?_)) | ((with_reducible refine kd_add ?_); refine dl_pure (by assumption) (pv_str_add rfl rfl by_bound) by_wants rfl rfl ?_) | ((with_reducible refine kd_indexAddr ?_); refine dl_pure (by assumption) (pv_indexAddr_ro (by rfl) rfl (by omega) (by first | rfl | assumption) (by first | rfl | exact tcells_len _ | exact dcells_len _)) by_wants rfl rfl ?_) | ((with_reducible refine kd_load ?_); (first | refine dl_take (by assumption) (hv_load_ro (by assumption) (by rfl) (by rfl) by_bd) by_wants rfl rfl ?_ | refine dl_take (by assumption) (hv_load_ro_whole (by assumption) (by rfl) (by rfl) (by first | rfl | exact tcells_len _ | exact dcells_len _)) by_wants rfl rfl ?_ | refine dl_take (by assumption) (hv_load_box (by assumption) (by rfl) by_mem0 (by rfl) by_bd) by_wants rfl rfl ?_)) | (refine aw_draw (id := 12) [(false, 0), (false, 1), (false, 2), (false, 3), (false, 4), (false, 5), (false, 6), (false, 7), (false, 8), (false, 9), (false, 10), (false, 11), (false, 12), (false, 13), (false, 14), (false, 15), (false, 16), (false, 17), (true, 18), (false, 19), (false, 20)] _ (by kernel_rfl) (by decide +kernel) (by decide) by_lit (.cons (.there (.there .here)) .nil) by_nos fun jd hjd => ?_) | ((with_reducible refine kd_callv ?_); (refine dl_op (by assumption) by_wants (op_callK rfl rfl hkx by_take rfl ?_); intro jd hjd)))
      (first | refine ret_r (retok_pick (.cons .here .nil) (ret1 rfl by_res (List.Sublist.refl _) ⟨_, rfl, ?_⟩)) | refine ret_n (retok_pick (.cons .here .nil) (ret1 rfl by_res (List.Sublist.refl _) ⟨_, rfl, ?_⟩)))
      exact ⟨rfl, rfl⟩
    · rw [if_neg (by omega), if_neg (by omega), if_neg (by omega), if_neg (by omega), if_neg (by omega), if_pos (by omega)] at hf
      simp only [Bool.and_eq_true, decide_eq_true_eq] at hf
      obtain ⟨hf, hf2⟩ := hf
      obtain ⟨x, hx⟩ : ∃ x, t.l[0]? = some x := ⟨_, List.getElem?_eq_getElem (by omega)⟩
      have e0 : t.l = x :: t.l.drop 1 := by simpa using drop_eq hx
      have hfa : (d.l.all fun u => fitT x u) = true := by rw [e0, fitHd] at hf2; exact hf2
      have hfu : ∀ u ∈ d.l, fitT x u = true := fun u hu => List.all_eq_true.1 hfa u hu
      have hru := hdD_u8 t.l d.l hdo.2
      rw [hdD_eq hx] at hru
      have hsum := hdD_sum (x := x) d.l fun u hu => txtD_len _ x u (Nat.le_refl _) (okT_kid hok x (List.mem_of_getElem? hx)) (hfu u hu)
      have hj2 := jn2_len (d.l.map (txtD x))
      have htot := tot_strOf (d.l.map (txtD x))
      have zj := strOf_size (jn2 (d.l.map (txtD x)))
      have hrt : (t.l.map Typ.cells)[(0 : Int).toNat]? = some x.cells := by rw [List.getElem?_map]; show Option.map _ t.l[0]? = _; rw [hx]; rfl
      rw [if_neg (by omega), if_neg (by omega), if_neg (by omega), if_neg (by omega), if_neg (by omega), if_neg (by omega), if_pos hk.1, hdD_eq hx, ← listd_str _ (jn2_u8 hru)]
      rw [cells_eq x] at hrt
      rw [cells_eq t, dcells_eq d, hk.1]
      refine TriR.of (tri_of Tryd.func26 rfl Tryd.ntmps26 rfl fun j => ?_)
      repeat' (first | (with_reducible first | refine aw_seq ?_ | refine rl_nil ?_ | refine aw_region ?_ | refine then_n ?_ | refine aw_block ?_ | refine then_exit ?_ | refine then_ret ?_ | refine in_n ?_ | refine in_ret ?_ | refine aw_exit ?_ | refine aw_ret ?_ | refine aw_skip ?_ | refine in_exit_eq rfl ?_ | refine awr_succ ?_) | ((with_reducible refine k_move ?_); refine rl_pure (pv_move rfl) rfl rfl rfl ?_) | ((with_reducible refine k_assign ?_); refine rl_pure (pv_assign rfl) rfl rfl rfl ?_) | ((with_reducible refine k_load ?_); refine rl_val (vv_load_box (by rfl) by_memb (by rfl) by_bd) rfl rfl rfl ?_) | ((with_reducible refine k_fieldAddr ?_); refine rl_pure (pv_fieldAddr rfl) rfl rfl rfl ?_) | ((with_reducible refine k_box ?_); refine rl_op rfl (op_box rfl (V.okc_or (by rfl)) rfl fun b => ?_)) | ((with_reducible refine k_eql ?_); refine rl_pure (pv_eql rfl rfl) rfl rfl rfl ?_) | ((with_reducible refine k_len ?_); refine rl_pure (pv_len_ro' (by rfl) by_len) rfl rfl rfl ?_) | ((with_reducible refine k_cond ?_); (first | refine aw_cond_t rfl ?_ | refine aw_cond_f rfl ?_)))
      revert b
      intro bd
      refine aw_nil_own 5 9 1 rfl ?_
      refine aw_iter (α := Nat × Value) (fun q => [(2, ptr b), (5, .own q.2), (96, .ro (d.l.map Dat.cells)), (97, int d.l.length), (98, int q.1)]) (fun q => [.vec q.2 9 1 ((((d.l.take q.1).map (txtD x)).map strOfNums).map rS), .box b 24 [int 6, str t.name, int t.lo, int t.hi, bool t.opt, .ro (t.l.map Typ.cells)], kpc])
        (fun q => q.1 ≤ d.l.length) (fun q => d.l.length - q.1) (0, .slice none 0 0) (Nat.zero_le _) (by (repeat (first | exact sub_nil | refine sub_cons (by first | rfl | (simp; done)) ?_))) (.cons .here (.cons (.there .here) (.cons (.there .here) .nil))) fun q hI => ?_
      obtain ⟨i, sv⟩ := q
      dsimp only at hI ⊢
      have hml : (d.l.take i).length ≤ 60 := by rw [List.length_take]; omega
      by_cases hlt : i < d.l.length
      · obtain ⟨u, hu⟩ : ∃ u, d.l[i]? = some u := ⟨_, List.getElem?_eq_getElem hlt⟩
        have hrd : (d.l.map Dat.cells)[(i : Int).toNat]? = some u.cells := by rw [Int.toNat_natCast, List.getElem?_map, hu]; rfl
        obtain ⟨hkx, hxl, hxw, hxo⟩ := hkid 0 x i u hx hu (hfu u (List.mem_of_getElem? hu))
        have htk2 : (((d.l.take (i + 1)).map (txtD x)).map strOfNums).map rS = (((d.l.take i).map (txtD x)).map strOfNums).map rS ++ [[str (strOfNums (txtD x u))]] := by rw [List.take_add_one, hu, List.map_append, List.map_append, List.map_append]; rfl
        rw [cells_eq x] at hkx
        repeat' (first | (with_reducible first | refine aw_seq ?_ | refine rl_nil ?_ | refine aw_region ?_ | refine then_n ?_ | refine aw_block ?_ | refine then_exit ?_ | refine then_ret ?_ | refine in_n ?_ | refine in_ret ?_ | refine aw_exit ?_ | refine aw_ret ?_ | refine aw_skip ?_ | refine in_exit_eq rfl ?_ | refine awr_succ ?_) | ((with_reducible refine k_load ?_); refine rl_val (vv_load_ro_whole (by rfl) (by rfl) (by first | rfl | exact tcells_len _ | exact dcells_len _)) rfl rfl rfl ?_) | ((with_reducible refine k_store ?_); refine rl_op rfl (op_store_box_whole (by rfl) (by rfl) (V.okc_or (by rfl)) by_upd (by first | rfl | exact tcells_len _ | exact dcells_len _) (by first | rfl | exact tcells_len _ | exact dcells_len _) ?_)) | ((with_reducible refine k_alloc ?_); refine rl_op rfl (op_alloc (by decide) rfl fun b => ?_)) | ((with_reducible refine k_lss ?_); refine rl_pure (pv_lss rfl rfl) rfl rfl rfl ?_) | ((with_reducible refine k_indexAddr ?_); refine rl_pure (pv_indexAddr_ro (by rfl) rfl (by omega) (by first | rfl | assumption) (by first | rfl | exact tcells_len _ | exact dcells_len _)) rfl rfl rfl ?_) | ((with_reducible refine kd_move ?_); refine dl_pure (by assumption) (pv_move rfl) by_wants rfl rfl ?_) | ((with_reducible refine kd_fieldAddr ?_); refine dl_pure (by assumption) (pv_fieldAddr rfl) by_wants rfl rfl ?_) | ((with_reducible refine kd_indexAddr ?_); refine dl_pure (by assumption) (pv_indexAddr_ro (by rfl) rfl (by omega) (by first | rfl | assumption) (by first | rfl | exact tcells_len _ | exact dcells_len _)) by_wants rfl rfl ?_) | ((with_reducible refine kd_buildSlice ?_); (refine dl_op (by assumption) by_wants (op_buildSlice_ro rfl rfl rfl (by rfl) (by rfl) (by rfl) (by rfl) rfl by_rows ?_); intro jd hjd)) | ((with_reducible refine kd_load ?_); (first | refine dl_take (by assumption) (hv_load_ro_whole (by assumption) (by rfl) (by rfl) (by first | rfl | exact tcells_len _ | exact dcells_len _)) by_wants rfl rfl ?_ | refine dl_take (by assumption) (hv_load_box (by assumption) (by rfl) by_mem0 (by rfl) by_bd) by_wants rfl rfl ?_ | refine dl_take (by assumption) (hv_load_box_whole (by assumption) (by rfl) by_mem0 (by rfl) (by first | rfl | exact tcells_len _ | exact dcells_len _)) by_wants rfl rfl ?_)) | (refine aw_draw (id := 25) [(false, 0), (false, 1), (false, 2), (false, 3), (false, 4), (false, 5), (true, 6), (true, 7), (true, 8), (false, 9)] _ (by kernel_rfl) (by decide +kernel) (by decide) by_lit (.cons (.there (.there (.there .here))) (.cons (.there .here) .nil)) by_nos fun jd hjd => ?_) | ((with_reducible refine kd_callv ?_); (refine dl_op (by assumption) by_wants (op_callK rfl rfl hkx by_take rfl ?_); intro jd hjd)) | (((with_reducible refine k_cond ?_); refine aw_cond rfl ?_ ?_) <;> ((fail_if_success (refine imp_known (by assumption) ?_)); (intro hb <;> (have hc := hb) <;> (try simp only [decide_eq_true_eq, decide_eq_false_iff_not, Int.not_lt, Int.not_le, ne_eq, Bool.not_eq_true, Bool.not_eq_false, Decidable.not_not] at hc) <;> (try (exfalso; omega)) <;> (try (exfalso; simp only [Bool.not_eq_eq_eq_not, Bool.not_true, Bool.not_false, decide_eq_true_eq, decide_eq_false_iff_not, ne_eq, Decidable.not_not, Int.not_lt, Int.not_le] at hc; omega)) <;> (try (first | contradiction | (cases hc; done))) <;> (try (first | exact absurd (hb.symm.trans (by assumption) : true = false) (by decide) | exact absurd (hb.symm.trans (by assumption) : false = true) (by decide)))))))
        (first | refine rl_op rfl (op_append rfl (.there .here) rfl rfl rfl rfl (by first | (intro r hr; obtain ⟨_, _, rfl⟩ := List.mem_map.1 hr; rfl) | (simp; done) | (simp [V.cells]; done)) by_small rfl fun sv' => ?_) | (refine dl_op (by assumption) by_wants (op_append rfl (.there .here) rfl rfl rfl rfl (by first | (intro r hr; obtain ⟨_, _, rfl⟩ := List.mem_map.1 hr; rfl) | (simp; done) | (simp [V.cells]; done)) by_small rfl fun sv' => ?_); intro jd hjd))
        repeat' (first | (with_reducible first | refine aw_seq ?_ | refine rl_nil ?_ | refine aw_region ?_ | refine then_n ?_ | refine aw_block ?_ | refine then_exit ?_ | refine then_ret ?_ | refine in_n ?_ | refine in_ret ?_ | refine aw_exit ?_ | refine aw_ret ?_ | refine aw_skip ?_ | refine in_exit_eq rfl ?_ | refine awr_succ ?_) | ((with_reducible refine k_move ?_); refine rl_pure (pv_move rfl) rfl rfl rfl ?_) | ((with_reducible refine k_add ?_); refine rl_pure (pv_add_in rfl rfl (by omega)) rfl rfl rfl ?_) | (with_reducible refine dl_nil by_app ?_) | ((with_reducible refine kd_assign ?_); refine dl_pure (by assumption) (pv_assign rfl) by_wants rfl rfl ?_))
        rw [← htk2]
        exact next_of (R := [_]) (i + 1, sv') hlt (by dsimp only; omega) (by (repeat (first | exact sub_nil | refine sub_cons (by first | rfl | (simp; done)) ?_))) (.cons .here (.cons (.there (.there .here)) (.cons .here .nil)))
      · have hti2 : d.l.take i = d.l := List.take_of_length_le (by omega)
        rw [hti2]
        have gj := join36 ⟨#[44, 32]⟩ ((d.l.map (txtD x)).map strOfNums) [44, 32] rfl rfl (u8_cons (by decide) (u8_cons (by decide) u8_nil)) (by simp only [List.length_map] at htot ⊢; omega)
        rw [joinT_jn2 _ hru] at gj
        have s2 := hs ⟨#[91]⟩ (strOfNums (jn2 (d.l.map (txtD x))))
        refine aw_freeze (d := 5) rfl .here ?_
        repeat' (first | (with_reducible first | refine aw_seq ?_ | refine rl_nil ?_ | refine aw_region ?_ | refine then_n ?_ | refine aw_block ?_ | refine then_exit ?_ | refine then_ret ?_ | refine in_n ?_ | refine in_ret ?_ | refine aw_exit ?_ | refine aw_ret ?_ | refine aw_skip ?_ | refine in_exit_eq rfl ?_ | refine awr_succ ?_) | ((with_reducible refine k_move ?_); refine rl_pure (pv_move rfl) rfl rfl rfl ?_) | ((with_reducible refine k_assign ?_); refine rl_pure (pv_assign rfl) rfl rfl rfl ?_) | ((with_reducible refine k_lss ?_); refine rl_pure (pv_lss rfl rfl) rfl rfl rfl ?_) | ((with_reducible refine k_add ?_); refine rl_pure (pv_str_add rfl rfl by_bound) rfl rfl rfl ?_) | ((with_reducible refine k_callv ?_); refine rl_op rfl (op_callF rfl rfl (gj) rfl ?_)) | (((with_reducible refine k_cond ?_); refine aw_cond rfl ?_ ?_) <;> ((fail_if_success (refine imp_known (by assumption) ?_)); (intro hb <;> (have hc := hb) <;> (try simp only [decide_eq_true_eq, decide_eq_false_iff_not, Int.not_lt, Int.not_le, ne_eq, Bool.not_eq_true, Bool.not_eq_false, Decidable.not_not] at hc) <;> (try (exfalso; omega)) <;> (try (exfalso; simp only [Bool.not_eq_eq_eq_not, Bool.not_true, Bool.not_false, decide_eq_true_eq, decide_eq_false_iff_not, ne_eq, Decidable.not_not, Int.not_lt, Int.not_le] at hc; omega)) <;> (try (first | contradiction | (cases hc; done))) <;> (try (first | exact absurd (hb.symm.trans (by assumption) : true = false) (by decide) | exact absurd (hb.symm.trans (by assumption) : false = true) (by decide)))))))
        (first | refine ret_r (retok_pick (.cons (.there .here) .nil) (ret1 rfl by_res (List.Sublist.refl _) ⟨_, rfl, ?_⟩)) | refine ret_n (retok_pick (.cons (.there .here) .nil) (ret1 rfl by_res (List.Sublist.refl _) ⟨_, rfl, ?_⟩)))
        exact ⟨rfl, rfl⟩
end Go.Proofs.YtepmllodaoanmaaDoor

set_option linter.unusedVariables false
set_option linter.unusedSimpArgs false
namespace Go.Proofs.YtepmllodaoanmaaDoor
open Go Go.AX
set_option maxHeartbeats 8000000
set_option maxRecDepth 20000
attribute [local irreducible] AW RL RLI OP PureV ValV HV DL Tri TriR Fun RetOk ResV
theorem accd1 (A c : List Int) (nm : ByteArray) (hA : U8 A) (hc : U8 c) : strOfNums A ++ (⟨#[44, 32]⟩ : ByteArray) ++ (nm ++ (⟨#[32]⟩ : ByteArray) ++ strOfNums c) = strOfNums (A ++ [44, 32] ++ (nums nm ++ (32 :: c))) := by
  apply nums_inj
  rw [nums_strOf _ (u8_app (u8_app hA (by show ∀ v ∈ _, _; decide)) (u8_app (nums_range nm) (u8_cons (by decide) hc)))]
  simp only [nums_append, nums_strOf A hA, nums_strOf c hc]
  simp [nums]
theorem accd0 (c : List Int) (nm : ByteArray) (hc : U8 c) : (⟨#[]⟩ : ByteArray) ++ (nm ++ (⟨#[32]⟩ : ByteArray) ++ strOfNums c) = strOfNums ([] ++ [] ++ (nums nm ++ (32 :: c))) := by
  apply nums_inj
  rw [nums_strOf _ (u8_app (u8_app u8_nil u8_nil) (u8_app (nums_range nm) (u8_cons (by decide) hc)))]
  simp only [nums_append, nums_strOf c hc]
  simp [nums]
theorem accl1 (A c : List Int) (hA : U8 A) (hc : U8 c) : strOfNums A ++ (⟨#[44, 32]⟩ : ByteArray) ++ strOfNums c = strOfNums (A ++ [44, 32] ++ c) := by
  apply nums_inj
  rw [nums_strOf _ (u8_app (u8_app hA (by show ∀ v ∈ _, _; decide)) hc)]
  simp only [nums_append, nums_strOf A hA, nums_strOf c hc]
  simp [nums]
theorem accl0 (A c : List Int) (hA : U8 A) (hc : U8 c) : strOfNums A ++ strOfNums c = strOfNums (A ++ [] ++ c) := by
  rw [List.append_nil]
  exact strOf_append hA hc
theorem rowD_nil2 : ∀ l, rowD l [] = []
  | [] => by rw [rowD]
  | t :: ts => by rw [rowD]
theorem rowD_split : ∀ (l : List Typ) (ds : List Dat) (i : Nat), rowD l ds = rowD (l.take i) (ds.take i) ++ rowD (l.drop i) (ds.drop i)
  | [], ds, i => by simp [rowD]
  | t :: ts, [], i => by simp [rowD_nil2]
  | t :: ts, d :: ds, 0 => by simp [rowD]
  | t :: ts, d :: ds, i + 1 => by
    have := rowD_split ts ds i
    simp only [List.take_succ_cons, List.drop_succ_cons, rowD, List.append_assoc]
    rw [← this]
theorem rowD_ne {l : List Typ} {ds : List Dat} (h : rowD l ds ≠ []) : 0 < (jn2 (rowD l ds)).length := by
  have hp : ∀ (l : List Typ) (ds : List Dat), ∀ x ∈ rowD l ds, 0 < x.length := fun l => by
    induction l with
    | nil => intro ds x h; rw [rowD] at h; cases h
    | cons t ts ih =>
      intro ds x h
      cases ds with
      | nil => rw [rowD] at h; cases h
      | cons d ds =>
        rw [rowD] at h
        rcases List.mem_append.1 h with h | h
        · split at h
          · obtain rfl := List.mem_singleton.1 h
            rw [List.length_append, List.length_cons]
            omega
          · cases h
        · exact ih ds x h
  match hr : rowD l ds, h with
  | x :: r, _ =>
    have := hp l ds x (by rw [hr]; exact List.mem_cons_self ..)
    unfold jn2
    rw [List.length_append]
    omega
theorem text28 : ∀ (n : Nat) (t : Typ) (d : Dat), t.wt ≤ n → n ≤ 1048576 → d.wt ≤ 32768 → d.ok → okT t = true → fitT t d = true → FunI 28 [.agg t.cells, .agg d.cells] (str (strOfNums (txtD t d))) := by
  intro n
  induction n with
  | zero => intro t d h; have := wt_eq t; omega
  | succ n ih =>
    intro t d hw hn hdw hdok hok hf
    have hwe := wt_eq t
    have hdwe := dwt_eq d
    have hdl := wtD_len d.l
    have hdo := (dok_eq d).1 hdok
    have hlen := txtD_len _ t d (Nat.le_refl _) hok hf
    have hkid : ∀ (i : Nat) x (k : Nat) u, t.l[i]? = some x → d.l[k]? = some u → fitT x u = true → FunI 28 [.agg x.cells, .agg u.cells] (str (strOfNums (txtD x u))) ∧ (txtD x u).length + 20 ≤ 50 * u.wt ∧ u.wt ≤ wtD d.l ∧ u.ok := fun i x k u hx hu hfu =>
      ⟨ih x u (by have := wtL_take hx; omega) (by omega) (by have := wtD_take hu; omega) (okD_mem.1 hdo.2 u (List.mem_of_getElem? hu)) (okT_kid hok x (List.mem_of_getElem? hx)) hfu,
        txtD_len _ x u (Nat.le_refl _) (okT_kid hok x (List.mem_of_getElem? hx)) hfu, by have := wtD_take hu; omega, okD_mem.1 hdo.2 u (List.mem_of_getElem? hu)⟩
    clear ih
    have hs : ∀ a b : ByteArray, (a ++ b).size = a.size + b.size := fun a b => ByteArray.size_append
    have hd1 : (ByteArray.mk #[39]).size = 1 := rfl
    have hd2 : (ByteArray.mk #[35]).size = 1 := rfl
    have hd3 : (ByteArray.mk #[32]).size = 1 := rfl
    have hd4 : (ByteArray.mk #[123]).size = 1 := rfl
    have hd5 : (ByteArray.mk #[125]).size = 1 := rfl
    have hd6 : (ByteArray.mk #[91]).size = 1 := rfl
    have hd7 : (ByteArray.mk #[93]).size = 1 := rfl
    have hd8 : (ByteArray.mk #[44, 32]).size = 2 := rfl
    have hd9 : (ByteArray.mk #[]).size = 0 := rfl
    rw [fitT_eq, Bool.and_eq_true] at hf
    obtain ⟨hf0, hf⟩ := hf
    rw [txtD_eq] at hlen ⊢
    rcases okT_cls hok with hk | hk | hk | hk | hk | hk | hk | hk
    · rw [if_pos hk.1]
      by_cases hn1 : d.n = 1
      · rw [if_pos hn1]
        rw [cells_eq t, dcells_eq d, hk.1]
        refine TriR.of (tri_of Tryd.func28 rfl Tryd.ntmps28 rfl fun j => ?_)
        repeat' (first | (with_reducible first | refine aw_seq ?_ | refine rl_nil ?_ | refine aw_region ?_ | refine then_n ?_ | refine aw_block ?_ | refine then_exit ?_ | refine then_ret ?_ | refine in_n ?_ | refine in_ret ?_ | refine aw_exit ?_ | refine aw_ret ?_ | refine aw_skip ?_ | refine in_exit_eq rfl ?_ | refine awr_succ ?_) | ((with_reducible refine k_assign ?_); refine rl_pure (pv_assign rfl) rfl rfl rfl ?_) | ((with_reducible refine k_load ?_); refine rl_val (vv_load_box (by rfl) by_memb (by rfl) by_bd) rfl rfl rfl ?_) | ((with_reducible refine k_fieldAddr ?_); refine rl_pure (pv_fieldAddr rfl) rfl rfl rfl ?_) | ((with_reducible refine k_box ?_); refine rl_op rfl (op_box rfl (V.okc_or (by rfl)) rfl fun b => ?_)) | ((with_reducible refine k_eql ?_); refine rl_pure (pv_eql rfl rfl) rfl rfl rfl ?_) | ((with_reducible refine k_cond ?_); refine aw_cond_t rfl ?_) | (((with_reducible refine k_cond ?_); refine aw_cond rfl ?_ ?_) <;> ((fail_if_success (refine imp_known (by assumption) ?_)); (intro hb <;> (have hc := hb) <;> (try simp only [decide_eq_true_eq, decide_eq_false_iff_not, Int.not_lt, Int.not_le, ne_eq, Bool.not_eq_true, Bool.not_eq_false, Decidable.not_not] at hc) <;> (try (exfalso; omega)) <;> (try (exfalso; simp only [Bool.not_eq_eq_eq_not, Bool.not_true, Bool.not_false, decide_eq_true_eq, decide_eq_false_iff_not, ne_eq, Decidable.not_not, Int.not_lt, Int.not_le] at hc; omega)) <;> (try (first | contradiction | (cases hc; done))) <;> (try (first | exact absurd (hb.symm.trans (by assumption) : true = false) (by decide) | exact absurd (hb.symm.trans (by assumption) : false = true) (by decide)))))))
        (first | refine ret_r (retok_pick (.cons (.there (.there .here)) .nil) (ret1 rfl by_res (List.Sublist.refl _) ⟨_, rfl, ?_⟩)) | refine ret_n (retok_pick (.cons (.there (.there .here)) .nil) (ret1 rfl by_res (List.Sublist.refl _) ⟨_, rfl, ?_⟩)))
        exact ⟨rfl, rfl⟩
      · rw [if_neg hn1]
        rw [cells_eq t, dcells_eq d, hk.1]
        refine TriR.of (tri_of Tryd.func28 rfl Tryd.ntmps28 rfl fun j => ?_)
        repeat' (first | (with_reducible first | refine aw_seq ?_ | refine rl_nil ?_ | refine aw_region ?_ | refine then_n ?_ | refine aw_block ?_ | refine then_exit ?_ | refine then_ret ?_ | refine in_n ?_ | refine in_ret ?_ | refine aw_exit ?_ | refine aw_ret ?_ | refine aw_skip ?_ | refine in_exit_eq rfl ?_ | refine awr_succ ?_) | ((with_reducible refine k_assign ?_); refine rl_pure (pv_assign rfl) rfl rfl rfl ?_) | ((with_reducible refine k_load ?_); refine rl_val (vv_load_box (by rfl) by_memb (by rfl) by_bd) rfl rfl rfl ?_) | ((with_reducible refine k_fieldAddr ?_); refine rl_pure (pv_fieldAddr rfl) rfl rfl rfl ?_) | ((with_reducible refine k_box ?_); refine rl_op rfl (op_box rfl (V.okc_or (by rfl)) rfl fun b => ?_)) | ((with_reducible refine k_eql ?_); refine rl_pure (pv_eql rfl rfl) rfl rfl rfl ?_) | ((with_reducible refine k_cond ?_); refine aw_cond_t rfl ?_) | (((with_reducible refine k_cond ?_); refine aw_cond rfl ?_ ?_) <;> ((fail_if_success (refine imp_known (by assumption) ?_)); (intro hb <;> (have hc := hb) <;> (try simp only [decide_eq_true_eq, decide_eq_false_iff_not, Int.not_lt, Int.not_le, ne_eq, Bool.not_eq_true, Bool.not_eq_false, Decidable.not_not] at hc) <;> (try (exfalso; omega)) <;> (try (exfalso; simp only [Bool.not_eq_eq_eq_not, Bool.not_true, Bool.not_false, decide_eq_true_eq, decide_eq_false_iff_not, ne_eq, Decidable.not_not, Int.not_lt, Int.not_le] at hc; omega)) <;> (try (first | contradiction | (cases hc; done))) <;> (try (first | exact absurd (hb.symm.trans (by assumption) : true = false) (by decide) | exact absurd (hb.symm.trans (by assumption) : false = true) (by decide)))))))
        (first | refine ret_r (retok_pick (.cons (.there (.there .here)) .nil) (ret1 rfl by_res (List.Sublist.refl _) ⟨_, rfl, ?_⟩)) | refine ret_n (retok_pick (.cons (.there (.there .here)) .nil) (ret1 rfl by_res (List.Sublist.refl _) ⟨_, rfl, ?_⟩)))
        exact ⟨rfl, rfl⟩
    · rw [if_neg (by omega), if_neg (by omega), if_neg (by omega), if_neg (by omega), if_neg (by omega), if_neg (by omega), if_neg (by omega)]
      rw [cells_eq t, dcells_eq d, hk.1]
      refine TriR.of (tri_of Tryd.func28 rfl Tryd.ntmps28 rfl fun j => ?_)
      repeat' (first | (with_reducible first | refine aw_seq ?_ | refine rl_nil ?_ | refine aw_region ?_ | refine then_n ?_ | refine aw_block ?_ | refine then_exit ?_ | refine then_ret ?_ | refine in_n ?_ | refine in_ret ?_ | refine aw_exit ?_ | refine aw_ret ?_ | refine aw_skip ?_ | refine in_exit_eq rfl ?_ | refine awr_succ ?_) | ((with_reducible refine k_assign ?_); refine rl_pure (pv_assign rfl) rfl rfl rfl ?_) | ((with_reducible refine k_load ?_); refine rl_val (vv_load_box (by rfl) by_memb (by rfl) by_bd) rfl rfl rfl ?_) | ((with_reducible refine k_fieldAddr ?_); refine rl_pure (pv_fieldAddr rfl) rfl rfl rfl ?_) | ((with_reducible refine k_box ?_); refine rl_op rfl (op_box rfl (V.okc_or (by rfl)) rfl fun b => ?_)) | ((with_reducible refine k_eql ?_); refine rl_pure (pv_eql rfl rfl) rfl rfl rfl ?_) | ((with_reducible refine k_cond ?_); refine aw_cond_f rfl ?_))
      (first | refine ret_r (retok_pick (.cons (.there (.there .here)) .nil) (ret1 rfl by_res (List.Sublist.refl _) ⟨_, rfl, ?_⟩)) | refine ret_n (retok_pick (.cons (.there (.there .here)) .nil) (ret1 rfl by_res (List.Sublist.refl _) ⟨_, rfl, ?_⟩)))
      exact ⟨rfl, rfl⟩
    · rw [if_neg (by omega), if_pos (by omega)] at hf
      have hf := of_decide_eq_true hf
      have gi := number50 d.n (by constructor <;> omega)
      rw [if_neg (by omega), if_pos hk.1, ← itx_str]
      rw [cells_eq t, dcells_eq d, hk.1]
      refine TriR.of (tri_of Tryd.func28 rfl Tryd.ntmps28 rfl fun j => ?_)
      repeat' (first | (with_reducible first | refine aw_seq ?_ | refine rl_nil ?_ | refine aw_region ?_ | refine then_n ?_ | refine aw_block ?_ | refine then_exit ?_ | refine then_ret ?_ | refine in_n ?_ | refine in_ret ?_ | refine aw_exit ?_ | refine aw_ret ?_ | refine aw_skip ?_ | refine in_exit_eq rfl ?_ | refine awr_succ ?_) | ((with_reducible refine k_assign ?_); refine rl_pure (pv_assign rfl) rfl rfl rfl ?_) | ((with_reducible refine k_load ?_); refine rl_val (vv_load_box (by rfl) by_memb (by rfl) by_bd) rfl rfl rfl ?_) | ((with_reducible refine k_fieldAddr ?_); refine rl_pure (pv_fieldAddr rfl) rfl rfl rfl ?_) | ((with_reducible refine k_box ?_); refine rl_op rfl (op_box rfl (V.okc_or (by rfl)) rfl fun b => ?_)) | ((with_reducible refine k_eql ?_); refine rl_pure (pv_eql rfl rfl) rfl rfl rfl ?_) | ((with_reducible refine k_cond ?_); (first | refine aw_cond_t rfl ?_ | refine aw_cond_f rfl ?_)) | ((with_reducible refine k_callv ?_); refine rl_op rfl (op_callK rfl rfl gi by_take rfl ?_)))
      (first | refine ret_r (retok_pick (.cons (.there (.there .here)) .nil) (ret1 rfl by_res (List.Sublist.refl _) ⟨_, rfl, ?_⟩)) | refine ret_n (retok_pick (.cons (.there (.there .here)) .nil) (ret1 rfl by_res (List.Sublist.refl _) ⟨_, rfl, ?_⟩)))
      exact ⟨rfl, rfl⟩
    · have gh := hex54 d.b hdo.1.1 hdo.1.2.1
      have zh := strOf_size (hexL d.b)
      rw [hexL_len] at zh
      have s1 := hs ⟨#[39]⟩ (strOfNums (hexL d.b))
      rw [if_neg (by omega), if_neg (by omega), if_pos hk.1, ← quo_str _ (hexL_u8 hdo.1.1)]
      rw [cells_eq t, dcells_eq d, hk.1]
      refine TriR.of (tri_of Tryd.func28 rfl Tryd.ntmps28 rfl fun j => ?_)
      repeat' (first | (with_reducible first | refine aw_seq ?_ | refine rl_nil ?_ | refine aw_region ?_ | refine then_n ?_ | refine aw_block ?_ | refine then_exit ?_ | refine then_ret ?_ | refine in_n ?_ | refine in_ret ?_ | refine aw_exit ?_ | refine aw_ret ?_ | refine aw_skip ?_ | refine in_exit_eq rfl ?_ | refine awr_succ ?_) | ((with_reducible refine k_assign ?_); refine rl_pure (pv_assign rfl) rfl rfl rfl ?_) | ((with_reducible refine k_load ?_); refine rl_val (vv_load_box (by rfl) by_memb (by rfl) by_bd) rfl rfl rfl ?_) | ((with_reducible refine k_fieldAddr ?_); refine rl_pure (pv_fieldAddr rfl) rfl rfl rfl ?_) | ((with_reducible refine k_box ?_); refine rl_op rfl (op_box rfl (V.okc_or (by rfl)) rfl fun b => ?_)) | ((with_reducible refine k_eql ?_); refine rl_pure (pv_eql rfl rfl) rfl rfl rfl ?_) | ((with_reducible refine k_add ?_); refine rl_pure (pv_str_add rfl rfl by_bound) rfl rfl rfl ?_) | ((with_reducible refine k_cond ?_); (first | refine aw_cond_t rfl ?_ | refine aw_cond_f rfl ?_)) | ((with_reducible refine k_callv ?_); refine rl_op rfl (op_callF rfl rfl (gh) rfl ?_)))
      (first | refine ret_r (retok_pick (.cons (.there (.there .here)) .nil) (ret1 rfl by_res (List.Sublist.refl _) ⟨_, rfl, ?_⟩)) | refine ret_n (retok_pick (.cons (.there (.there .here)) .nil) (ret1 rfl by_res (List.Sublist.refl _) ⟨_, rfl, ?_⟩)))
      exact ⟨rfl, rfl⟩
    · rw [if_neg (by omega), if_pos (by omega)] at hf
      have hf := of_decide_eq_true hf
      have gi := number50 d.n (by constructor <;> omega)
      have li := itoaT_len d.n (by constructor <;> omega)
      rw [if_neg (by omega), if_neg (by omega), if_neg (by omega), if_pos hk.1, ← num_str]
      rw [cells_eq t, dcells_eq d, hk.1]
      refine TriR.of (tri_of Tryd.func28 rfl Tryd.ntmps28 rfl fun j => ?_)
      repeat' (first | (with_reducible first | refine aw_seq ?_ | refine rl_nil ?_ | refine aw_region ?_ | refine then_n ?_ | refine aw_block ?_ | refine then_exit ?_ | refine then_ret ?_ | refine in_n ?_ | refine in_ret ?_ | refine aw_exit ?_ | refine aw_ret ?_ | refine aw_skip ?_ | refine in_exit_eq rfl ?_ | refine awr_succ ?_) | ((with_reducible refine k_assign ?_); refine rl_pure (pv_assign rfl) rfl rfl rfl ?_) | ((with_reducible refine k_load ?_); refine rl_val (vv_load_box (by rfl) by_memb (by rfl) by_bd) rfl rfl rfl ?_) | ((with_reducible refine k_fieldAddr ?_); refine rl_pure (pv_fieldAddr rfl) rfl rfl rfl ?_) | ((with_reducible refine k_box ?_); refine rl_op rfl (op_box rfl (V.okc_or (by rfl)) rfl fun b => ?_)) | ((with_reducible refine k_eql ?_); refine rl_pure (pv_eql rfl rfl) rfl rfl rfl ?_) | ((with_reducible refine k_add ?_); refine rl_pure (pv_str_add rfl rfl by_bound) rfl rfl rfl ?_) | ((with_reducible refine k_cond ?_); (first | refine aw_cond_t rfl ?_ | refine aw_cond_f rfl ?_)) | ((with_reducible refine k_callv ?_); refine rl_op rfl (op_callK rfl rfl gi by_take rfl ?_)))
      (first | refine ret_r (retok_pick (.cons (.there (.there .here)) .nil) (ret1 rfl by_res (List.Sublist.refl _) ⟨_, rfl, ?_⟩)) | refine ret_n (retok_pick (.cons (.there (.there .here)) .nil) (ret1 rfl by_res (List.Sublist.refl _) ⟨_, rfl, ?_⟩)))
      exact ⟨rfl, rfl⟩
    · rw [if_neg (by omega), if_neg (by omega), if_neg (by omega), if_pos (by omega)] at hf
      simp only [Bool.and_eq_true, decide_eq_true_eq] at hf
      have hnm := okT_nm hok (.inl hk.1)
      have hru := rowD_u8 t.l d.l hdo.2
      have hsum := rowD_sum t.l d.l (fun x hx u hu => txtD_len _ x u (Nat.le_refl _) (okT_kid hok x hx) hu) hnm hf.2
      have hj2 := jn2_len (rowD t.l d.l)
      have zj := strOf_size (jn2 (rowD t.l d.l))
      rw [if_neg (by omega), if_neg (by omega), if_neg (by omega), if_neg (by omega), if_pos hk.1, ← rowd_str _ (jn2_u8 hru)]
      rw [cells_eq t, dcells_eq d, hk.1]
      refine TriR.of (tri_of Tryd.func28 rfl Tryd.ntmps28 rfl fun j => ?_)
      repeat' (first | (with_reducible first | refine aw_seq ?_ | refine rl_nil ?_ | refine aw_region ?_ | refine then_n ?_ | refine aw_block ?_ | refine then_exit ?_ | refine then_ret ?_ | refine in_n ?_ | refine in_ret ?_ | refine aw_exit ?_ | refine aw_ret ?_ | refine aw_skip ?_ | refine in_exit_eq rfl ?_ | refine awr_succ ?_) | ((with_reducible refine k_assign ?_); refine rl_pure (pv_assign rfl) rfl rfl rfl ?_) | ((with_reducible refine k_load ?_); refine rl_val (vv_load_box (by rfl) by_memb (by rfl) by_bd) rfl rfl rfl ?_) | ((with_reducible refine k_fieldAddr ?_); refine rl_pure (pv_fieldAddr rfl) rfl rfl rfl ?_) | ((with_reducible refine k_box ?_); refine rl_op rfl (op_box rfl (V.okc_or (by rfl)) rfl fun b => ?_)) | ((with_reducible refine k_eql ?_); refine rl_pure (pv_eql rfl rfl) rfl rfl rfl ?_) | ((with_reducible refine k_cond ?_); (first | refine aw_cond_t rfl ?_ | refine aw_cond_f rfl ?_)))
      revert b
      intro bd
      refine aw_iter (α := Nat) (fun q => [(2, ptr b), (3, ptr bd), (5, str (strOfNums (jn2 (rowD (t.l.take q) (d.l.take q))))), (6, int q)]) (fun q => [.box bd 28 [int d.kind, int d.n, .ro (d.b.map br), bool d.set, .ro (d.l.map Dat.cells)], .box b 24 [int 4, str t.name, int t.lo, int t.hi, bool t.opt, .ro (t.l.map Typ.cells)], kpc])
        (fun q => q ≤ t.l.length) (fun q => t.l.length - q) 0 (Nat.zero_le _) (by (repeat (first | exact sub_nil | refine sub_cons (by first | rfl | (simp; done)) ?_))) (.cons .here (.cons .here (.cons .here .nil))) fun i hI => ?_
      have hspl := congrArg (fun l => (l.map fun x : List Int => x.length + 2).sum) (rowD_split t.l d.l i)
      simp only [List.map_append, List.sum_append] at hspl
      have hj3 := jn2_len (rowD (t.l.take i) (d.l.take i))
      have zA := strOf_size (jn2 (rowD (t.l.take i) (d.l.take i)))
      by_cases hlt : i < t.l.length
      · obtain ⟨x, hx⟩ : ∃ x, t.l[i]? = some x := ⟨_, List.getElem?_eq_getElem hlt⟩
        obtain ⟨u, hu⟩ : ∃ u, d.l[i]? = some u := ⟨_, List.getElem?_eq_getElem (by omega)⟩
        have hrd : (d.l.map Dat.cells)[(i : Int).toNat]? = some u.cells := by rw [Int.toNat_natCast, List.getElem?_map, hu]; rfl
        have hrt : (t.l.map Typ.cells)[(i : Int).toNat]? = some x.cells := by rw [Int.toNat_natCast, List.getElem?_map, hx]; rfl
        have hxn := hnm x (List.mem_of_getElem? hx)
        have hfg := fun h => fitRow_get hf.2 hx hu h
        have htk := rowD_take hx hu
        cases hus : u.set with
        | true =>
          have hfu := hfg hus
          obtain ⟨hkx, hxl, hxw, hxo⟩ := hkid i x i u hx hu hfu
          have zx := strOf_size (txtD x u)
          have s1 := hs x.name ⟨#[32]⟩
          have s2 := hs (x.name ++ ⟨#[32]⟩) (strOfNums (txtD x u))
          have hp : prtD x u = [nums x.name ++ (32 :: txtD x u)] := by unfold prtD; rw [if_pos hus]
          rw [hp] at htk
          have hjn : jn2 (rowD (t.l.take (i + 1)) (d.l.take (i + 1))) = jn2 (rowD (t.l.take i) (d.l.take i)) ++ (if (rowD (t.l.take i) (d.l.take i)).length = 0 then [] else [44, 32]) ++ (nums x.name ++ (32 :: txtD x u)) := by rw [htk, jn2_snoc]
          have uA : U8 (jn2 (rowD (t.l.take i) (d.l.take i))) := jn2_u8 fun y hy => hru y (by rw [rowD_split t.l d.l i]; exact List.mem_append_left _ hy)
          rw [dcells_eq u, hus] at hrd hkx
          rw [cells_eq x] at hrt hkx
          by_cases hz : rowD (t.l.take i) (d.l.take i) = []
          · have hfin := accd0 (txtD x u) x.name (txtD_u8 x u hxo)
            have hjn2 : jn2 (rowD (t.l.take (i + 1)) (d.l.take (i + 1))) = [] ++ [] ++ (nums x.name ++ (32 :: txtD x u)) := by rw [hjn, hz]; rfl
            rw [← hjn2] at hfin
            rw [hz, show strOfNums (jn2 []) = (⟨#[]⟩ : ByteArray) from rfl]
            repeat' (first | (with_reducible first | refine aw_seq ?_ | refine rl_nil ?_ | refine aw_region ?_ | refine then_n ?_ | refine aw_block ?_ | refine then_exit ?_ | refine then_ret ?_ | refine in_n ?_ | refine in_ret ?_ | refine aw_exit ?_ | refine aw_ret ?_ | refine aw_skip ?_ | refine in_exit_eq rfl ?_ | refine awr_succ ?_) | ((with_reducible refine k_move ?_); refine rl_pure (pv_move rfl) rfl rfl rfl ?_) | ((with_reducible refine k_assign ?_); refine rl_pure (pv_assign rfl) rfl rfl rfl ?_) | ((with_reducible refine k_load ?_); (first | refine rl_val (vv_load_ro (by rfl) (by rfl) by_bd) rfl rfl rfl ?_ | refine rl_val (vv_load_box (by rfl) by_memb (by rfl) by_bd) rfl rfl rfl ?_)) | ((with_reducible refine k_fieldAddr ?_); (first | refine rl_pure (pv_fieldAddr rfl) rfl rfl rfl ?_ | refine rl_pure (pv_fieldAddr_ro rfl) rfl rfl rfl ?_)) | ((with_reducible refine k_neq ?_); refine rl_pure (pv_str_neq rfl rfl) rfl rfl rfl ?_) | ((with_reducible refine k_lss ?_); refine rl_pure (pv_lss rfl rfl) rfl rfl rfl ?_) | ((with_reducible refine k_add ?_); refine rl_pure (pv_add_in rfl rfl (by omega)) rfl rfl rfl ?_) | ((with_reducible refine k_not ?_); refine rl_pure (pv_not rfl) rfl rfl rfl ?_) | ((with_reducible refine k_len ?_); refine rl_pure (pv_len_ro' (by rfl) by_len) rfl rfl rfl ?_) | ((with_reducible refine k_indexAddr ?_); refine rl_pure (pv_indexAddr_ro (by rfl) rfl (by omega) (by first | rfl | assumption) (by first | rfl | exact tcells_len _ | exact dcells_len _)) rfl rfl rfl ?_) | ((with_reducible refine k_cond ?_); refine aw_cond_f rfl ?_) | (with_reducible refine dl_nil by_app ?_) | ((with_reducible refine kd_move ?_); refine dl_pure (by assumption) (pv_move rfl) by_wants rfl rfl ?_) | ((with_reducible refine kd_assign ?_); refine dl_pure (by assumption) (pv_assign rfl) by_wants rfl rfl ?_) | ((with_reducible refine kd_fieldAddr ?_); (first | refine dl_pure (by assumption) (pv_fieldAddr rfl) by_wants rfl rfl ?_ | refine dl_pure (by assumption) (pv_fieldAddr_ro rfl) by_wants rfl rfl ?_)) | ((with_reducible refine kd_add ?_); refine dl_pure (by assumption) (pv_str_add rfl rfl by_bound) by_wants rfl rfl ?_) | ((with_reducible refine kd_indexAddr ?_); refine dl_pure (by assumption) (pv_indexAddr_ro (by rfl) rfl (by omega) (by first | rfl | assumption) (by first | rfl | exact tcells_len _ | exact dcells_len _)) by_wants rfl rfl ?_) | ((with_reducible refine kd_load ?_); (first | refine dl_take (by assumption) (hv_load_ro (by assumption) (by rfl) (by rfl) by_bd) by_wants rfl rfl ?_ | refine dl_take (by assumption) (hv_load_ro_whole (by assumption) (by rfl) (by rfl) (by first | rfl | exact tcells_len _ | exact dcells_len _)) by_wants rfl rfl ?_ | refine dl_take (by assumption) (hv_load_box (by assumption) (by rfl) by_mem0 (by rfl) by_bd) by_wants rfl rfl ?_)) | (refine aw_draw (id := 20) [(false, 0), (false, 1), (false, 2), (false, 3), (false, 4), (false, 5), (false, 6), (false, 7), (false, 8), (false, 9), (false, 10), (false, 11), (false, 12), (false, 13), (false, 14), (false, 15), (false, 16), (false, 17), (true, 18), (false, 19), (false, 20), (false, 21)] _ (by kernel_rfl) (by decide +kernel) (by decide) by_lit (.cons (.there (.there .here)) .nil) by_nos fun jd hjd => ?_) | ((with_reducible refine kd_callv ?_); (refine dl_op (by assumption) by_wants (op_callK rfl rfl hkx by_take rfl ?_); intro jd hjd)) | (((with_reducible refine k_cond ?_); refine aw_cond rfl ?_ ?_) <;> ((fail_if_success (refine imp_known (by assumption) ?_)); (intro hb <;> (have hc := hb) <;> (try simp only [decide_eq_true_eq, decide_eq_false_iff_not, Int.not_lt, Int.not_le, ne_eq, Bool.not_eq_true, Bool.not_eq_false, Decidable.not_not] at hc) <;> (try (exfalso; omega)) <;> (try (exfalso; simp only [Bool.not_eq_eq_eq_not, Bool.not_true, Bool.not_false, decide_eq_true_eq, decide_eq_false_iff_not, ne_eq, Decidable.not_not, Int.not_lt, Int.not_le] at hc; omega)) <;> (try (first | contradiction | (cases hc; done))) <;> (try (first | exact absurd (hb.symm.trans (by assumption) : true = false) (by decide) | exact absurd (hb.symm.trans (by assumption) : false = true) (by decide)))))))
            all_goals first | (exfalso; exact absurd hb (by decide)) | skip
            rw [hfin]
            exact next_of (R := []) (i + 1) hlt (by omega) (by (repeat (first | exact sub_nil | refine sub_cons (by first | rfl | (simp; done)) ?_))) (.cons (.there .here) (.cons (.there .here) (.cons .here .nil)))
          · have hfin := accd1 _ (txtD x u) x.name uA (txtD_u8 x u hxo)
            have hpos := rowD_ne hz
            have hne : strOfNums (jn2 (rowD (t.l.take i) (d.l.take i))) ≠ (⟨#[]⟩ : ByteArray) := fun e => by
              have := congrArg ByteArray.size e
              rw [zA] at this
              have h0 : (ByteArray.mk #[]).size = 0 := rfl
              omega
            have s3 := hs (strOfNums (jn2 (rowD (t.l.take i) (d.l.take i)))) ⟨#[44, 32]⟩
            rw [if_neg (by intro e; exact hz (List.length_eq_zero_iff.1 e))] at hjn
            rw [← hjn] at hfin
            repeat' (first | (with_reducible first | refine aw_seq ?_ | refine rl_nil ?_ | refine aw_region ?_ | refine then_n ?_ | refine aw_block ?_ | refine then_exit ?_ | refine then_ret ?_ | refine in_n ?_ | refine in_ret ?_ | refine aw_exit ?_ | refine aw_ret ?_ | refine aw_skip ?_ | refine in_exit_eq rfl ?_ | refine awr_succ ?_) | ((with_reducible refine k_move ?_); refine rl_pure (pv_move rfl) rfl rfl rfl ?_) | ((with_reducible refine k_assign ?_); refine rl_pure (pv_assign rfl) rfl rfl rfl ?_) | ((with_reducible refine k_load ?_); (first | refine rl_val (vv_load_ro (by rfl) (by rfl) by_bd) rfl rfl rfl ?_ | refine rl_val (vv_load_box (by rfl) by_memb (by rfl) by_bd) rfl rfl rfl ?_)) | ((with_reducible refine k_fieldAddr ?_); (first | refine rl_pure (pv_fieldAddr rfl) rfl rfl rfl ?_ | refine rl_pure (pv_fieldAddr_ro rfl) rfl rfl rfl ?_)) | ((with_reducible refine k_neq ?_); refine rl_pure (pv_str_neq rfl rfl) rfl rfl rfl ?_) | ((with_reducible refine k_lss ?_); refine rl_pure (pv_lss rfl rfl) rfl rfl rfl ?_) | ((with_reducible refine k_add ?_); (first | refine rl_pure (pv_add_in rfl rfl (by omega)) rfl rfl rfl ?_ | refine rl_pure (pv_str_add rfl rfl by_bound) rfl rfl rfl ?_)) | ((with_reducible refine k_not ?_); refine rl_pure (pv_not rfl) rfl rfl rfl ?_) | ((with_reducible refine k_len ?_); refine rl_pure (pv_len_ro' (by rfl) by_len) rfl rfl rfl ?_) | ((with_reducible refine k_indexAddr ?_); refine rl_pure (pv_indexAddr_ro (by rfl) rfl (by omega) (by first | rfl | assumption) (by first | rfl | exact tcells_len _ | exact dcells_len _)) rfl rfl rfl ?_) | ((with_reducible refine k_cond ?_); refine aw_cond_f rfl ?_) | (with_reducible refine dl_nil by_app ?_) | ((with_reducible refine kd_move ?_); refine dl_pure (by assumption) (pv_move rfl) by_wants rfl rfl ?_) | ((with_reducible refine kd_assign ?_); refine dl_pure (by assumption) (pv_assign rfl) by_wants rfl rfl ?_) | ((with_reducible refine kd_fieldAddr ?_); (first | refine dl_pure (by assumption) (pv_fieldAddr rfl) by_wants rfl rfl ?_ | refine dl_pure (by assumption) (pv_fieldAddr_ro rfl) by_wants rfl rfl ?_)) | ((with_reducible refine kd_add ?_); refine dl_pure (by assumption) (pv_str_add rfl rfl by_bound) by_wants rfl rfl ?_) | ((with_reducible refine kd_indexAddr ?_); refine dl_pure (by assumption) (pv_indexAddr_ro (by rfl) rfl (by omega) (by first | rfl | assumption) (by first | rfl | exact tcells_len _ | exact dcells_len _)) by_wants rfl rfl ?_) | ((with_reducible refine kd_load ?_); (first | refine dl_take (by assumption) (hv_load_ro (by assumption) (by rfl) (by rfl) by_bd) by_wants rfl rfl ?_ | refine dl_take (by assumption) (hv_load_ro_whole (by assumption) (by rfl) (by rfl) (by first | rfl | exact tcells_len _ | exact dcells_len _)) by_wants rfl rfl ?_ | refine dl_take (by assumption) (hv_load_box (by assumption) (by rfl) by_mem0 (by rfl) by_bd) by_wants rfl rfl ?_)) | (refine aw_draw (id := 20) [(false, 0), (false, 1), (false, 2), (false, 3), (false, 4), (false, 5), (false, 6), (false, 7), (false, 8), (false, 9), (false, 10), (false, 11), (false, 12), (false, 13), (false, 14), (false, 15), (false, 16), (false, 17), (true, 18), (false, 19), (false, 20), (false, 21)] _ (by kernel_rfl) (by decide +kernel) (by decide) by_lit (.cons (.there (.there .here)) .nil) by_nos fun jd hjd => ?_) | ((with_reducible refine kd_callv ?_); (refine dl_op (by assumption) by_wants (op_callK rfl rfl hkx by_take rfl ?_); intro jd hjd)) | (((with_reducible refine k_cond ?_); refine aw_cond rfl ?_ ?_) <;> ((fail_if_success (refine imp_known (by assumption) ?_)); (intro hb <;> (have hc := hb) <;> (try simp only [decide_eq_true_eq, decide_eq_false_iff_not, Int.not_lt, Int.not_le, ne_eq, Bool.not_eq_true, Bool.not_eq_false, Decidable.not_not] at hc) <;> (try (exfalso; omega)) <;> (try (exfalso; simp only [Bool.not_eq_eq_eq_not, Bool.not_true, Bool.not_false, decide_eq_true_eq, decide_eq_false_iff_not, ne_eq, Decidable.not_not, Int.not_lt, Int.not_le] at hc; omega)) <;> (try (first | contradiction | (cases hc; done))) <;> (try (first | exact absurd (hb.symm.trans (by assumption) : true = false) (by decide) | exact absurd (hb.symm.trans (by assumption) : false = true) (by decide)))))))
            rw [hfin]
            exact next_of (R := []) (i + 1) hlt (by omega) (by (repeat (first | exact sub_nil | refine sub_cons (by first | rfl | (simp; done)) ?_))) (.cons (.there .here) (.cons (.there .here) (.cons .here .nil)))
        | false =>
          have hp : prtD x u = [] := by unfold prtD; rw [if_neg (by rw [hus]; decide)]
          rw [hp, List.append_nil] at htk
          rw [dcells_eq u, hus] at hrd
          repeat' (first | (with_reducible first | refine aw_seq ?_ | refine rl_nil ?_ | refine aw_region ?_ | refine then_n ?_ | refine aw_block ?_ | refine then_exit ?_ | refine then_ret ?_ | refine in_n ?_ | refine in_ret ?_ | refine aw_exit ?_ | refine aw_ret ?_ | refine aw_skip ?_ | refine in_exit_eq rfl ?_ | refine awr_succ ?_) | ((with_reducible refine k_move ?_); refine rl_pure (pv_move rfl) rfl rfl rfl ?_) | ((with_reducible refine k_assign ?_); refine rl_pure (pv_assign rfl) rfl rfl rfl ?_) | ((with_reducible refine k_load ?_); (first | refine rl_val (vv_load_ro (by rfl) (by rfl) by_bd) rfl rfl rfl ?_ | refine rl_val (vv_load_box (by rfl) by_memb (by rfl) by_bd) rfl rfl rfl ?_)) | ((with_reducible refine k_fieldAddr ?_); (first | refine rl_pure (pv_fieldAddr rfl) rfl rfl rfl ?_ | refine rl_pure (pv_fieldAddr_ro rfl) rfl rfl rfl ?_)) | ((with_reducible refine k_lss ?_); refine rl_pure (pv_lss rfl rfl) rfl rfl rfl ?_) | ((with_reducible refine k_add ?_); refine rl_pure (pv_add_in rfl rfl (by omega)) rfl rfl rfl ?_) | ((with_reducible refine k_not ?_); refine rl_pure (pv_not rfl) rfl rfl rfl ?_) | ((with_reducible refine k_len ?_); refine rl_pure (pv_len_ro' (by rfl) by_len) rfl rfl rfl ?_) | ((with_reducible refine k_indexAddr ?_); refine rl_pure (pv_indexAddr_ro (by rfl) rfl (by omega) (by first | rfl | assumption) (by first | rfl | exact tcells_len _ | exact dcells_len _)) rfl rfl rfl ?_) | ((with_reducible refine k_cond ?_); refine aw_cond_t rfl ?_) | (((with_reducible refine k_cond ?_); refine aw_cond rfl ?_ ?_) <;> ((fail_if_success (refine imp_known (by assumption) ?_)); (intro hb <;> (have hc := hb) <;> (try simp only [decide_eq_true_eq, decide_eq_false_iff_not, Int.not_lt, Int.not_le, ne_eq, Bool.not_eq_true, Bool.not_eq_false, Decidable.not_not] at hc) <;> (try (exfalso; omega)) <;> (try (exfalso; simp only [Bool.not_eq_eq_eq_not, Bool.not_true, Bool.not_false, decide_eq_true_eq, decide_eq_false_iff_not, ne_eq, Decidable.not_not, Int.not_lt, Int.not_le] at hc; omega)) <;> (try (first | contradiction | (cases hc; done))) <;> (try (first | exact absurd (hb.symm.trans (by assumption) : true = false) (by decide) | exact absurd (hb.symm.trans (by assumption) : false = true) (by decide)))))))
          rw [← htk]
          exact next_of (R := []) (i + 1) hlt (by omega) (by (repeat (first | exact sub_nil | refine sub_cons (by first | rfl | (simp; done)) ?_))) (.cons .here (.cons .here (.cons .here .nil)))
      · have hti : t.l.take i = t.l := List.take_of_length_le (by omega)
        have hti2 : d.l.take i = d.l := List.take_of_length_le (by omega)
        rw [hti, hti2]
        have s2 := hs ⟨#[123]⟩ (strOfNums (jn2 (rowD t.l d.l)))
        repeat' (first | (with_reducible first | refine aw_seq ?_ | refine rl_nil ?_ | refine aw_region ?_ | refine then_n ?_ | refine aw_block ?_ | refine then_exit ?_ | refine then_ret ?_ | refine in_n ?_ | refine in_ret ?_ | refine aw_exit ?_ | refine aw_ret ?_ | refine aw_skip ?_ | refine in_exit_eq rfl ?_ | refine awr_succ ?_) | ((with_reducible refine k_move ?_); refine rl_pure (pv_move rfl) rfl rfl rfl ?_) | ((with_reducible refine k_assign ?_); refine rl_pure (pv_assign rfl) rfl rfl rfl ?_) | ((with_reducible refine k_load ?_); refine rl_val (vv_load_box (by rfl) by_memb (by rfl) by_bd) rfl rfl rfl ?_) | ((with_reducible refine k_fieldAddr ?_); refine rl_pure (pv_fieldAddr rfl) rfl rfl rfl ?_) | ((with_reducible refine k_lss ?_); refine rl_pure (pv_lss rfl rfl) rfl rfl rfl ?_) | ((with_reducible refine k_add ?_); refine rl_pure (pv_str_add rfl rfl by_bound) rfl rfl rfl ?_) | ((with_reducible refine k_len ?_); refine rl_pure (pv_len_ro' (by rfl) by_len) rfl rfl rfl ?_) | (((with_reducible refine k_cond ?_); refine aw_cond rfl ?_ ?_) <;> ((fail_if_success (refine imp_known (by assumption) ?_)); (intro hb <;> (have hc := hb) <;> (try simp only [decide_eq_true_eq, decide_eq_false_iff_not, Int.not_lt, Int.not_le, ne_eq, Bool.not_eq_true, Bool.not_eq_false, Decidable.not_not] at hc) <;> (try (exfalso; omega)) <;> (try (exfalso; simp only [Bool.not_eq_eq_eq_not, Bool.not_true, Bool.not_false, decide_eq_true_eq, decide_eq_false_iff_not, ne_eq, Decidable.not_not, Int.not_lt, Int.not_le] at hc; omega)) <;> (try (first | contradiction | (cases hc; done))) <;> (try (first | exact absurd (hb.symm.trans (by assumption) : true = false) (by decide) | exact absurd (hb.symm.trans (by assumption) : false = true) (by decide)))))))
        (first | refine ret_r (retok_pick (.cons (.there (.there .here)) .nil) (ret1 rfl by_res (List.Sublist.refl _) ⟨_, rfl, ?_⟩)) | refine ret_n (retok_pick (.cons (.there (.there .here)) .nil) (ret1 rfl by_res (List.Sublist.refl _) ⟨_, rfl, ?_⟩)))
        exact ⟨rfl, rfl⟩
    · rw [if_neg (by omega), if_neg (by omega), if_neg (by omega), if_neg (by omega), if_pos (by omega)] at hf
      simp only [Bool.and_eq_true, decide_eq_true_eq] at hf
      obtain ⟨hf, hf2⟩ := hf
      obtain ⟨x, hx⟩ : ∃ x, t.l[d.n.toNat]? = some x := ⟨_, List.getElem?_eq_getElem (by omega)⟩
      obtain ⟨u, hu⟩ : ∃ u, d.l[0]? = some u := ⟨_, List.getElem?_eq_getElem (by omega)⟩
      rw [fitAt_eq hx hu] at hf2
      obtain ⟨hkx, hxl, hxw, hxo⟩ := hkid _ x 0 u hx hu hf2
      have zx := strOf_size (txtD x u)
      have hxn := okT_nm hok (.inr hk.1) x (List.mem_of_getElem? hx)
      have s1 := hs x.name ⟨#[32]⟩
      have hrt : (t.l.map Typ.cells)[d.n.toNat]? = some x.cells := by rw [List.getElem?_map, hx]; rfl
      have hrd : (d.l.map Dat.cells)[(0 : Int).toNat]? = some u.cells := by rw [List.getElem?_map]; show Option.map _ d.l[0]? = _; rw [hu]; rfl
      rw [if_neg (by omega), if_neg (by omega), if_neg (by omega), if_neg (by omega), if_neg (by omega), if_pos hk.1, atD_eq hx hu, ← named_str _ _ (txtD_u8 x u hxo)]
      have hdn0 := hf.1
      have hdn1 := hf.2.1
      rw [cells_eq x] at hrt hkx
      rw [cells_eq t, dcells_eq d, hk.1]
      refine TriR.of (tri_of Tryd.func28 rfl Tryd.ntmps28 rfl fun j => ?_)
      repeat' (first | (with_reducible first | refine aw_seq ?_ | refine rl_nil ?_ | refine aw_region ?_ | refine then_n ?_ | refine aw_block ?_ | refine then_exit ?_ | refine then_ret ?_ | refine in_n ?_ | refine in_ret ?_ | refine aw_exit ?_ | refine aw_ret ?_ | refine aw_skip ?_ | refine in_exit_eq rfl ?_ | refine awr_succ ?_) | ((with_reducible refine k_assign ?_); refine rl_pure (pv_assign rfl) rfl rfl rfl ?_) | ((with_reducible refine k_load ?_); refine rl_val (vv_load_box (by rfl) by_memb (by rfl) by_bd) rfl rfl rfl ?_) | ((with_reducible refine k_fieldAddr ?_); refine rl_pure (pv_fieldAddr rfl) rfl rfl rfl ?_) | ((with_reducible refine k_box ?_); refine rl_op rfl (op_box rfl (V.okc_or (by rfl)) rfl fun b => ?_)) | ((with_reducible refine k_eql ?_); refine rl_pure (pv_eql rfl rfl) rfl rfl rfl ?_) | ((with_reducible refine k_cond ?_); (first | refine aw_cond_t rfl ?_ | refine aw_cond_f rfl ?_)) | (with_reducible refine dl_nil by_app ?_) | ((with_reducible refine kd_assign ?_); refine dl_pure (by assumption) (pv_assign rfl) by_wants rfl rfl ?_) | ((with_reducible refine kd_fieldAddr ?_); (first | refine dl_pure (by assumption) (pv_fieldAddr rfl) by_wants rfl rfl ?_ | refine dl_pure (by assumption) (pv_fieldAddr_ro rfl) by_wants rfl rfl ?_)) | ((with_reducible refine kd_add ?_); refine dl_pure (by assumption) (pv_str_add rfl rfl by_bound) by_wants rfl rfl ?_) | ((with_reducible refine kd_indexAddr ?_); refine dl_pure (by assumption) (pv_indexAddr_ro (by rfl) rfl (by omega) (by first | rfl | assumption) (by first | rfl | exact tcells_len _ | exact dcells_len _)) by_wants rfl rfl ?_) | ((with_reducible refine kd_load ?_); (first | refine dl_take (by assumption) (hv_load_ro (by assumption) (by rfl) (by rfl) by_bd) by_wants rfl rfl ?_ | refine dl_take (by assumption) (hv_load_ro_whole (by assumption) (by rfl) (by rfl) (by first | rfl | exact tcells_len _ | exact dcells_len _)) by_wants rfl rfl ?_ | refine dl_take (by assumption) (hv_load_box (by assumption) (by rfl) by_mem0 (by rfl) by_bd) by_wants rfl rfl ?_)) | (refine aw_draw (id := 23) [(false, 0), (false, 1), (false, 2), (false, 3), (false, 4), (false, 5), (false, 6), (false, 7), (false, 8), (false, 9), (false, 10), (false, 11), (false, 12), (false, 13), (false, 14), (false, 15), (false, 16), (false, 17), (true, 18), (false, 19), (false, 20)] _ (by kernel_rfl) (by decide +kernel) (by decide) by_lit (.cons (.there (.there .here)) .nil) by_nos fun jd hjd => ?_) | ((with_reducible refine kd_callv ?_); (refine dl_op (by assumption) by_wants (op_callK rfl rfl hkx by_take rfl ?_); intro jd hjd)))
      (first | refine ret_r (retok_pick (.cons .here .nil) (ret1 rfl by_res (List.Sublist.refl _) ⟨_, rfl, ?_⟩)) | refine ret_n (retok_pick (.cons .here .nil) (ret1 rfl by_res (List.Sublist.refl _) ⟨_, rfl, ?_⟩)))
      exact ⟨rfl, rfl⟩
    · rw [if_neg (by omega), if_neg (by omega), if_neg (by omega), if_neg (by omega), if_neg (by omega), if_pos (by omega)] at hf
      simp only [Bool.and_eq_true, decide_eq_true_eq] at hf
      obtain ⟨hf, hf2⟩ := hf
      obtain ⟨x, hx⟩ : ∃ x, t.l[0]? = some x := ⟨_, List.getElem?_eq_getElem (by omega)⟩
      have e0 : t.l = x :: t.l.drop 1 := by simpa using drop_eq hx
      have hfa : (d.l.all fun u => fitT x u) = true := by rw [e0, fitHd] at hf2; exact hf2
      have hfu : ∀ u ∈ d.l, fitT x u = true := fun u hu => List.all_eq_true.1 hfa u hu
      have hru := hdD_u8 t.l d.l hdo.2
      rw [hdD_eq hx] at hru
      have hxlen := fun u (hu : fitT x u = true) => txtD_len _ x u (Nat.le_refl _) (okT_kid hok x (List.mem_of_getElem? hx)) hu
      have hsum := hdD_sum (x := x) d.l fun u hu => hxlen u (hfu u hu)
      have hj2 := jn2_len (d.l.map (txtD x))
      have zj := strOf_size (jn2 (d.l.map (txtD x)))
      have hrt : (t.l.map Typ.cells)[(0 : Int).toNat]? = some x.cells := by rw [List.getElem?_map]; show Option.map _ t.l[0]? = _; rw [hx]; rfl
      rw [if_neg (by omega), if_neg (by omega), if_neg (by omega), if_neg (by omega), if_neg (by omega), if_neg (by omega), if_pos hk.1, hdD_eq hx, ← listd_str _ (jn2_u8 hru)]
      rw [cells_eq x] at hrt
      rw [cells_eq t, dcells_eq d, hk.1]
      refine TriR.of (tri_of Tryd.func28 rfl Tryd.ntmps28 rfl fun j => ?_)
      repeat' (first | (with_reducible first | refine aw_seq ?_ | refine rl_nil ?_ | refine aw_region ?_ | refine then_n ?_ | refine aw_block ?_ | refine then_exit ?_ | refine then_ret ?_ | refine in_n ?_ | refine in_ret ?_ | refine aw_exit ?_ | refine aw_ret ?_ | refine aw_skip ?_ | refine in_exit_eq rfl ?_ | refine awr_succ ?_) | ((with_reducible refine k_assign ?_); refine rl_pure (pv_assign rfl) rfl rfl rfl ?_) | ((with_reducible refine k_load ?_); refine rl_val (vv_load_box (by rfl) by_memb (by rfl) by_bd) rfl rfl rfl ?_) | ((with_reducible refine k_fieldAddr ?_); refine rl_pure (pv_fieldAddr rfl) rfl rfl rfl ?_) | ((with_reducible refine k_box ?_); refine rl_op rfl (op_box rfl (V.okc_or (by rfl)) rfl fun b => ?_)) | ((with_reducible refine k_eql ?_); refine rl_pure (pv_eql rfl rfl) rfl rfl rfl ?_) | ((with_reducible refine k_cond ?_); (first | refine aw_cond_t rfl ?_ | refine aw_cond_f rfl ?_)))
      revert b
      intro bd
      refine aw_iter (α := Nat) (fun q => [(2, ptr b), (3, ptr bd), (7, str (strOfNums (jn2 ((d.l.take q).map (txtD x))))), (8, int q)]) (fun q => [.box bd 28 [int d.kind, int d.n, .ro (d.b.map br), bool d.set, .ro (d.l.map Dat.cells)], .box b 24 [int 6, str t.name, int t.lo, int t.hi, bool t.opt, .ro (t.l.map Typ.cells)], kpc])
        (fun q => q ≤ d.l.length) (fun q => d.l.length - q) 0 (Nat.zero_le _) (by (repeat (first | exact sub_nil | refine sub_cons (by first | rfl | (simp; done)) ?_))) (.cons .here (.cons .here (.cons .here .nil))) fun i hI => ?_
      have hsum3 := hdD_sum (x := x) (d.l.take i) fun u hu => hxlen u (hfu u (List.mem_of_mem_take hu))
      have hj3 := jn2_len ((d.l.take i).map (txtD x))
      have hwsp := wtD_split d.l i
      have zA := strOf_size (jn2 ((d.l.take i).map (txtD x)))
      by_cases hlt : i < d.l.length
      · obtain ⟨u, hu⟩ : ∃ u, d.l[i]? = some u := ⟨_, List.getElem?_eq_getElem hlt⟩
        have hrd : (d.l.map Dat.cells)[(i : Int).toNat]? = some u.cells := by rw [Int.toNat_natCast, List.getElem?_map, hu]; rfl
        obtain ⟨hkx, hxl, hxw, hxo⟩ := hkid 0 x i u hx hu (hfu u (List.mem_of_getElem? hu))
        have zx := strOf_size (txtD x u)
        have uA : U8 (jn2 ((d.l.take i).map (txtD x))) := jn2_u8 fun y hy => by
          obtain ⟨w, hw, rfl⟩ := List.mem_map.1 hy
          exact hru _ (List.mem_map.2 ⟨w, List.mem_of_mem_take hw, rfl⟩)
        have hjn : jn2 ((d.l.take (i + 1)).map (txtD x)) = jn2 ((d.l.take i).map (txtD x)) ++ (if i = 0 then [] else [44, 32]) ++ txtD x u := by
          rw [List.take_add_one, hu, List.map_append]
          show jn2 (_ ++ [txtD x u]) = _
          rw [jn2_snoc, List.length_map, List.length_take, Nat.min_eq_left hI]
        rw [cells_eq x] at hkx
        by_cases i0 : i = 0
        · have hfin := accl0 _ (txtD x u) uA (txtD_u8 x u hxo)
          rw [if_pos i0] at hjn
          rw [← hjn] at hfin
          repeat' (first | (with_reducible first | refine aw_seq ?_ | refine rl_nil ?_ | refine aw_region ?_ | refine then_n ?_ | refine aw_block ?_ | refine then_exit ?_ | refine then_ret ?_ | refine in_n ?_ | refine in_ret ?_ | refine aw_exit ?_ | refine aw_ret ?_ | refine aw_skip ?_ | refine in_exit_eq rfl ?_ | refine awr_succ ?_) | ((with_reducible refine k_move ?_); refine rl_pure (pv_move rfl) rfl rfl rfl ?_) | ((with_reducible refine k_assign ?_); refine rl_pure (pv_assign rfl) rfl rfl rfl ?_) | ((with_reducible refine k_load ?_); refine rl_val (vv_load_box (by rfl) by_memb (by rfl) by_bd) rfl rfl rfl ?_) | ((with_reducible refine k_fieldAddr ?_); refine rl_pure (pv_fieldAddr rfl) rfl rfl rfl ?_) | ((with_reducible refine k_lss ?_); refine rl_pure (pv_lss rfl rfl) rfl rfl rfl ?_) | ((with_reducible refine k_gtr ?_); refine rl_pure (pv_gtr rfl rfl) rfl rfl rfl ?_) | ((with_reducible refine k_add ?_); refine rl_pure (pv_add_in rfl rfl (by omega)) rfl rfl rfl ?_) | ((with_reducible refine k_len ?_); refine rl_pure (pv_len_ro' (by rfl) by_len) rfl rfl rfl ?_) | (with_reducible refine dl_nil by_app ?_) | ((with_reducible refine kd_move ?_); refine dl_pure (by assumption) (pv_move rfl) by_wants rfl rfl ?_) | ((with_reducible refine kd_assign ?_); refine dl_pure (by assumption) (pv_assign rfl) by_wants rfl rfl ?_) | ((with_reducible refine kd_fieldAddr ?_); refine dl_pure (by assumption) (pv_fieldAddr rfl) by_wants rfl rfl ?_) | ((with_reducible refine kd_add ?_); refine dl_pure (by assumption) (pv_str_add rfl rfl by_bound) by_wants rfl rfl ?_) | ((with_reducible refine kd_indexAddr ?_); refine dl_pure (by assumption) (pv_indexAddr_ro (by rfl) rfl (by omega) (by first | rfl | assumption) (by first | rfl | exact tcells_len _ | exact dcells_len _)) by_wants rfl rfl ?_) | ((with_reducible refine kd_load ?_); (first | refine dl_take (by assumption) (hv_load_ro_whole (by assumption) (by rfl) (by rfl) (by first | rfl | exact tcells_len _ | exact dcells_len _)) by_wants rfl rfl ?_ | refine dl_take (by assumption) (hv_load_box (by assumption) (by rfl) by_mem0 (by rfl) by_bd) by_wants rfl rfl ?_)) | (refine aw_draw (id := 31) [(false, 0), (false, 1), (false, 2), (false, 3), (false, 4), (false, 5), (false, 6), (false, 7), (false, 8), (false, 9), (true, 10), (false, 11), (false, 12)] _ (by kernel_rfl) (by decide +kernel) (by decide) by_lit (.cons (.there (.there .here)) .nil) by_nos fun jd hjd => ?_) | ((with_reducible refine kd_callv ?_); (refine dl_op (by assumption) by_wants (op_callK rfl rfl hkx by_take rfl ?_); intro jd hjd)) | (((with_reducible refine k_cond ?_); refine aw_cond rfl ?_ ?_) <;> ((fail_if_success (refine imp_known (by assumption) ?_)); (intro hb <;> (have hc := hb) <;> (try simp only [decide_eq_true_eq, decide_eq_false_iff_not, Int.not_lt, Int.not_le, ne_eq, Bool.not_eq_true, Bool.not_eq_false, Decidable.not_not] at hc) <;> (try (exfalso; omega)) <;> (try (exfalso; simp only [Bool.not_eq_eq_eq_not, Bool.not_true, Bool.not_false, decide_eq_true_eq, decide_eq_false_iff_not, ne_eq, Decidable.not_not, Int.not_lt, Int.not_le] at hc; omega)) <;> (try (first | contradiction | (cases hc; done))) <;> (try (first | exact absurd (hb.symm.trans (by assumption) : true = false) (by decide) | exact absurd (hb.symm.trans (by assumption) : false = true) (by decide)))))))
          rw [hfin]
          exact next_of (R := []) (i + 1) hlt (by omega) (by (repeat (first | exact sub_nil | refine sub_cons (by first | rfl | (simp; done)) ?_))) (.cons (.there .here) (.cons (.there .here) (.cons .here .nil)))
        · have hfin := accl1 _ (txtD x u) uA (txtD_u8 x u hxo)
          have s1 := hs (strOfNums (jn2 ((d.l.take i).map (txtD x)))) ⟨#[44, 32]⟩
          rw [if_neg i0] at hjn
          rw [← hjn] at hfin
          repeat' (first | (with_reducible first | refine aw_seq ?_ | refine rl_nil ?_ | refine aw_region ?_ | refine then_n ?_ | refine aw_block ?_ | refine then_exit ?_ | refine then_ret ?_ | refine in_n ?_ | refine in_ret ?_ | refine aw_exit ?_ | refine aw_ret ?_ | refine aw_skip ?_ | refine in_exit_eq rfl ?_ | refine awr_succ ?_) | ((with_reducible refine k_move ?_); refine rl_pure (pv_move rfl) rfl rfl rfl ?_) | ((with_reducible refine k_assign ?_); refine rl_pure (pv_assign rfl) rfl rfl rfl ?_) | ((with_reducible refine k_load ?_); refine rl_val (vv_load_box (by rfl) by_memb (by rfl) by_bd) rfl rfl rfl ?_) | ((with_reducible refine k_fieldAddr ?_); refine rl_pure (pv_fieldAddr rfl) rfl rfl rfl ?_) | ((with_reducible refine k_lss ?_); refine rl_pure (pv_lss rfl rfl) rfl rfl rfl ?_) | ((with_reducible refine k_gtr ?_); refine rl_pure (pv_gtr rfl rfl) rfl rfl rfl ?_) | ((with_reducible refine k_add ?_); (first | refine rl_pure (pv_add_in rfl rfl (by omega)) rfl rfl rfl ?_ | refine rl_pure (pv_str_add rfl rfl by_bound) rfl rfl rfl ?_)) | ((with_reducible refine k_len ?_); refine rl_pure (pv_len_ro' (by rfl) by_len) rfl rfl rfl ?_) | (with_reducible refine dl_nil by_app ?_) | ((with_reducible refine kd_move ?_); refine dl_pure (by assumption) (pv_move rfl) by_wants rfl rfl ?_) | ((with_reducible refine kd_assign ?_); refine dl_pure (by assumption) (pv_assign rfl) by_wants rfl rfl ?_) | ((with_reducible refine kd_fieldAddr ?_); refine dl_pure (by assumption) (pv_fieldAddr rfl) by_wants rfl rfl ?_) | ((with_reducible refine kd_add ?_); refine dl_pure (by assumption) (pv_str_add rfl rfl by_bound) by_wants rfl rfl ?_) | ((with_reducible refine kd_indexAddr ?_); refine dl_pure (by assumption) (pv_indexAddr_ro (by rfl) rfl (by omega) (by first | rfl | assumption) (by first | rfl | exact tcells_len _ | exact dcells_len _)) by_wants rfl rfl ?_) | ((with_reducible refine kd_load ?_); (first | refine dl_take (by assumption) (hv_load_ro_whole (by assumption) (by rfl) (by rfl) (by first | rfl | exact tcells_len _ | exact dcells_len _)) by_wants rfl rfl ?_ | refine dl_take (by assumption) (hv_load_box (by assumption) (by rfl) by_mem0 (by rfl) by_bd) by_wants rfl rfl ?_)) | (refine aw_draw (id := 31) [(false, 0), (false, 1), (false, 2), (false, 3), (false, 4), (false, 5), (false, 6), (false, 7), (false, 8), (false, 9), (true, 10), (false, 11), (false, 12)] _ (by kernel_rfl) (by decide +kernel) (by decide) by_lit (.cons (.there (.there .here)) .nil) by_nos fun jd hjd => ?_) | ((with_reducible refine kd_callv ?_); (refine dl_op (by assumption) by_wants (op_callK rfl rfl hkx by_take rfl ?_); intro jd hjd)) | (((with_reducible refine k_cond ?_); refine aw_cond rfl ?_ ?_) <;> ((fail_if_success (refine imp_known (by assumption) ?_)); (intro hb <;> (have hc := hb) <;> (try simp only [decide_eq_true_eq, decide_eq_false_iff_not, Int.not_lt, Int.not_le, ne_eq, Bool.not_eq_true, Bool.not_eq_false, Decidable.not_not] at hc) <;> (try (exfalso; omega)) <;> (try (exfalso; simp only [Bool.not_eq_eq_eq_not, Bool.not_true, Bool.not_false, decide_eq_true_eq, decide_eq_false_iff_not, ne_eq, Decidable.not_not, Int.not_lt, Int.not_le] at hc; omega)) <;> (try (first | contradiction | (cases hc; done))) <;> (try (first | exact absurd (hb.symm.trans (by assumption) : true = false) (by decide) | exact absurd (hb.symm.trans (by assumption) : false = true) (by decide)))))))
          rw [hfin]
          exact next_of (R := []) (i + 1) hlt (by omega) (by (repeat (first | exact sub_nil | refine sub_cons (by first | rfl | (simp; done)) ?_))) (.cons (.there .here) (.cons (.there .here) (.cons .here .nil)))
      · have hti2 : d.l.take i = d.l := List.take_of_length_le (by omega)
        rw [hti2]
        have s2 := hs ⟨#[91]⟩ (strOfNums (jn2 (d.l.map (txtD x))))
        repeat' (first | (with_reducible first | refine aw_seq ?_ | refine rl_nil ?_ | refine aw_region ?_ | refine then_n ?_ | refine aw_block ?_ | refine then_exit ?_ | refine then_ret ?_ | refine in_n ?_ | refine in_ret ?_ | refine aw_exit ?_ | refine aw_ret ?_ | refine aw_skip ?_ | refine in_exit_eq rfl ?_ | refine awr_succ ?_) | ((with_reducible refine k_move ?_); refine rl_pure (pv_move rfl) rfl rfl rfl ?_) | ((with_reducible refine k_assign ?_); refine rl_pure (pv_assign rfl) rfl rfl rfl ?_) | ((with_reducible refine k_load ?_); refine rl_val (vv_load_box (by rfl) by_memb (by rfl) by_bd) rfl rfl rfl ?_) | ((with_reducible refine k_fieldAddr ?_); refine rl_pure (pv_fieldAddr rfl) rfl rfl rfl ?_) | ((with_reducible refine k_lss ?_); refine rl_pure (pv_lss rfl rfl) rfl rfl rfl ?_) | ((with_reducible refine k_add ?_); refine rl_pure (pv_str_add rfl rfl by_bound) rfl rfl rfl ?_) | ((with_reducible refine k_len ?_); refine rl_pure (pv_len_ro' (by rfl) by_len) rfl rfl rfl ?_) | (((with_reducible refine k_cond ?_); refine aw_cond rfl ?_ ?_) <;> ((fail_if_success (refine imp_known (by assumption) ?_)); (intro hb <;> (have hc := hb) <;> (try simp only [decide_eq_true_eq, decide_eq_false_iff_not, Int.not_lt, Int.not_le, ne_eq, Bool.not_eq_true, Bool.not_eq_false, Decidable.not_not] at hc) <;> (try (exfalso; omega)) <;> (try (exfalso; simp only [Bool.not_eq_eq_eq_not, Bool.not_true, Bool.not_false, decide_eq_true_eq, decide_eq_false_iff_not, ne_eq, Decidable.not_not, Int.not_lt, Int.not_le] at hc; omega)) <;> (try (first | contradiction | (cases hc; done))) <;> (try (first | exact absurd (hb.symm.trans (by assumption) : true = false) (by decide) | exact absurd (hb.symm.trans (by assumption) : false = true) (by decide)))))))
        (first | refine ret_r (retok_pick (.cons (.there (.there .here)) .nil) (ret1 rfl by_res (List.Sublist.refl _) ⟨_, rfl, ?_⟩)) | refine ret_n (retok_pick (.cons (.there (.there .here)) .nil) (ret1 rfl by_res (List.Sublist.refl _) ⟨_, rfl, ?_⟩)))
        exact ⟨rfl, rfl⟩
end Go.Proofs.YtepmllodaoanmaaDoor

set_option linter.unusedVariables false
set_option linter.unusedSimpArgs false
namespace Go.AX
open Go Go.AX
variable {P : Program} {N : Nat} {j : J P N} {Q : Exit → Sl → List Ch → Prop} {s : Sl} {H G R : List Ch}
theorem retok_nil_ro {fn : Func} {K : V → List Ch → Prop} (d : Nat) (hv : s.get d = some (.raw (.slice none 0 0))) (h : RetOk j fn ((d, .ro []) :: s) H K) : RetOk j fn s H K :=
  fun a w st => let ⟨x, v, s2, H2, k1, k2, k3, k4⟩ := h a w (st_slot st hv fun x hx => le_nil_ro w _ x hx); ⟨x, v, s2, H2, k1, k2, k3, k4⟩
theorem rl_box_le2 {ops : Array Oper} {l : List Oper} {b B : Nat} {v v' : V} {cells : List V} {H2 : List Ch} (i : Nat) (hu : Upd (.box b B cells) (.box b B (cells.set i v')) H H2) (hi : cells[i]? = some v) (hle : V.Le v v') (h : RL j ops l Q s H2) : RL j ops l Q s H :=
  rl_weak (fun a w st => st_box_le hi hle hu st) h
end Go.AX
namespace Go.Proofs.YtepmllodaoanmaaDoor
open Go Go.AX
set_option maxHeartbeats 8000000
set_option maxRecDepth 20000
attribute [local irreducible] AW RL OP PureV ValV HV DL DX Tri TriR Fun RetOk ResV
theorem vld_ok2 {t : Typ} (h : vld t = 0) : okT t = true := by
  unfold vld at h
  split at h
  · omega
  · split at h
    · rename_i e; exact e.2
    · omega
/-- The first error of a value that is written. -/
def rdE (t : Typ) (d : Dat) : Int := if vld t = 0 then (if fitT t d = true then 0 else 6) else vld t
theorem ready35 (t : Typ) (d : Dat) (hw : t.wt ≤ 1048576) (hdw : d.wt ≤ 1048576) : Fun Tryd.prog 36 [.agg t.cells, .agg d.cells] (int (rdE t d)) := by
  have hv := valid12 t hw
  have hfit := fun hok => fits28 _ t d (Nat.le_refl _) hw hdw hok
  rw [cells_eq] at hv hfit ⊢
  rw [dcells_eq] at hfit ⊢
  by_cases h0 : vld t = 0
  · have hfit := hfit (vld_ok2 h0)
    have hE : rdE t d = if fitT t d = true then 0 else 6 := if_pos h0
    generalize fitT t d = z at hfit hE
    refine Fun.of (TriR.of (tri_of Tryd.func36 rfl Tryd.ntmps36 rfl fun j => ?_))
    repeat' (first | (with_reducible first | refine aw_seq ?_ | refine rl_nil ?_ | refine aw_region ?_ | refine then_n ?_ | refine aw_block ?_ | refine then_exit ?_ | refine then_ret ?_ | refine in_n ?_ | refine in_ret ?_ | refine aw_exit ?_ | refine aw_ret ?_ | refine aw_skip ?_ | refine in_exit_eq rfl ?_ | refine awr_succ ?_) | ((with_reducible refine k_move ?_); refine rl_pure (pv_move rfl) rfl rfl rfl ?_) | ((with_reducible refine k_assign ?_); refine rl_pure (pv_assign rfl) rfl rfl rfl ?_) | ((with_reducible refine k_load ?_); refine rl_val (vv_load_box_whole (by rfl) by_memb (by rfl) (by first | rfl | exact tcells_len _ | exact dcells_len _)) rfl rfl rfl ?_) | ((with_reducible refine k_box ?_); refine rl_op rfl (op_box rfl (V.okc_or (by rfl)) rfl fun b => ?_)) | ((with_reducible refine k_neq ?_); refine rl_pure (pv_neq rfl rfl) rfl rfl rfl ?_) | ((with_reducible refine k_not ?_); refine rl_pure (pv_not rfl) rfl rfl rfl ?_) | ((with_reducible refine k_callv ?_); (first | refine rl_op rfl (op_callF rfl rfl (hv) rfl ?_) | refine rl_op rfl (op_callF rfl rfl (hfit) rfl ?_))) | (((with_reducible refine k_cond ?_); refine aw_cond rfl ?_ ?_) <;> ((fail_if_success (refine imp_known (by assumption) ?_)); (intro hb <;> (have hc := hb) <;> (try simp only [decide_eq_true_eq, decide_eq_false_iff_not, Int.not_lt, Int.not_le, ne_eq, Bool.not_eq_true, Bool.not_eq_false, Decidable.not_not] at hc) <;> (try (exfalso; omega)) <;> (try (exfalso; simp only [Bool.not_eq_eq_eq_not, Bool.not_true, Bool.not_false, decide_eq_true_eq, decide_eq_false_iff_not, ne_eq, Decidable.not_not, Int.not_lt, Int.not_le] at hc; omega)) <;> (try (first | contradiction | (cases hc; done))) <;> (try (first | exact absurd (hb.symm.trans (by assumption) : true = false) (by decide) | exact absurd (hb.symm.trans (by assumption) : false = true) (by decide)))))))
    all_goals first
    | (exfalso; omega)
    | ((first | refine ret_r (ret1 rfl by_res (List.nil_sublist _) ⟨_, rfl, ?_⟩) | refine ret_n (ret1 rfl by_res (List.nil_sublist _) ⟨_, rfl, ?_⟩))
       refine ⟨?_, rfl⟩
       rw [hE]
       first
       | rw [if_pos (by simpa using hc)]
       | rw [if_neg (by simpa using hc)])
  · have hE : rdE t d = vld t := if_neg h0
    clear hfit
    refine Fun.of (TriR.of (tri_of Tryd.func36 rfl Tryd.ntmps36 rfl fun j => ?_))
    repeat' (first | (with_reducible first | refine aw_seq ?_ | refine rl_nil ?_ | refine aw_region ?_ | refine then_n ?_ | refine aw_block ?_ | refine then_exit ?_ | refine then_ret ?_ | refine in_n ?_ | refine in_ret ?_ | refine aw_exit ?_ | refine aw_ret ?_ | refine aw_skip ?_ | refine in_exit_eq rfl ?_ | refine awr_succ ?_) | ((with_reducible refine k_move ?_); refine rl_pure (pv_move rfl) rfl rfl rfl ?_) | ((with_reducible refine k_assign ?_); refine rl_pure (pv_assign rfl) rfl rfl rfl ?_) | ((with_reducible refine k_load ?_); refine rl_val (vv_load_box_whole (by rfl) by_memb (by rfl) (by first | rfl | exact tcells_len _ | exact dcells_len _)) rfl rfl rfl ?_) | ((with_reducible refine k_box ?_); refine rl_op rfl (op_box rfl (V.okc_or (by rfl)) rfl fun b => ?_)) | ((with_reducible refine k_neq ?_); refine rl_pure (pv_neq rfl rfl) rfl rfl rfl ?_) | ((with_reducible refine k_callv ?_); refine rl_op rfl (op_callF rfl rfl (hv) rfl ?_)) | (((with_reducible refine k_cond ?_); refine aw_cond rfl ?_ ?_) <;> ((fail_if_success (refine imp_known (by assumption) ?_)); (intro hb <;> (have hc := hb) <;> (try simp only [decide_eq_true_eq, decide_eq_false_iff_not, Int.not_lt, Int.not_le, ne_eq, Bool.not_eq_true, Bool.not_eq_false, Decidable.not_not] at hc) <;> (try (exfalso; omega)) <;> (try (exfalso; simp only [Bool.not_eq_eq_eq_not, Bool.not_true, Bool.not_false, decide_eq_true_eq, decide_eq_false_iff_not, ne_eq, Decidable.not_not, Int.not_lt, Int.not_le] at hc; omega)) <;> (try (first | contradiction | (cases hc; done))) <;> (try (first | exact absurd (hb.symm.trans (by assumption) : true = false) (by decide) | exact absurd (hb.symm.trans (by assumption) : false = true) (by decide)))))))
    all_goals first
    | (exfalso; omega)
    | ((first | refine ret_r (ret1 rfl by_res (List.nil_sublist _) ⟨_, rfl, ?_⟩) | refine ret_n (ret1 rfl by_res (List.nil_sublist _) ⟨_, rfl, ?_⟩))
       exact ⟨by rw [hE], rfl⟩)
theorem rdE_0 {t : Typ} {d : Dat} (h : rdE t d = 0) : vld t = 0 ∧ fitT t d = true := by
  unfold rdE at h
  split at h
  · rename_i h1
    refine ⟨h1, ?_⟩
    by_cases h2 : fitT t d = true
    · exact h2
    · rw [if_neg h2] at h; cases h
  · rename_i h1; exact absurd h h1
end Go.Proofs.YtepmllodaoanmaaDoor

set_option linter.unusedVariables false
set_option linter.unusedSimpArgs false
namespace Go.Proofs.YtepmllodaoanmaaDoor
open Go Go.AX
set_option maxHeartbeats 8000000
set_option maxRecDepth 20000
attribute [local irreducible] AW RL OP PureV ValV HV DL Tri TriR Fun RetOk ResV
abbrev Bytes (l : List Int) : Prop := ∀ b ∈ l, 0 ≤ b ∧ b ≤ 255
end Go.Proofs.YtepmllodaoanmaaDoor

set_option linter.unusedVariables false
set_option linter.unusedSimpArgs false
namespace Go.Proofs.YtepmllodaoanmaaDoor
open Go Go.AX
set_option maxHeartbeats 8000000
set_option maxRecDepth 20000
attribute [local irreducible] AW RL OP PureV ValV HV DL Tri TriR Fun RetOk ResV
/-- A length, as the reference writes it. -/
def lenB (n : Int) : List Int := if n < 128 then [n] else if n < 256 then [129, n] else if n < 65536 then [130, n / 256, n % 256] else [131, n / 65536, n / 256 % 256, n % 256]
theorem lenB_bytes {n : Int} (h : 0 ≤ n ∧ n < 16777216) : Bytes (lenB n) := by
  intro b hb
  unfold lenB at hb
  repeat' split at hb
  all_goals
    simp only [List.mem_cons, List.not_mem_nil, or_false] at hb
    omega
theorem lenB_ext {n : Int} {l : List Int} (h : 0 ≤ n ∧ n < 16777216) (hl : Bytes l) (e : Prop) (he : lenB n = l ↔ e) : strOfNums (lenB n) = strOfNums l ↔ e := (strOfNums_inj (lenB_bytes h) hl).trans he
theorem lenB_1 {b c : Int} (h : 0 ≤ c ∧ c ≤ 255) : strOfNums (lenB c) = strOfNums [129, c] ↔ 128 ≤ c := by
  refine lenB_ext (by omega) (by intro x hx; simp at hx; omega) _ ?_
  unfold lenB
  repeat' split
  all_goals (constructor <;> intro g <;> first | omega | rfl | (simp at g; done) | (simp at g; omega))
theorem lenB_2 {b c d : Int} (h : 0 ≤ c ∧ c ≤ 255) (h2 : 0 ≤ d ∧ d ≤ 255) : strOfNums (lenB (256 * c + d)) = strOfNums [130, c, d] ↔ c ≠ 0 := by
  refine lenB_ext (by omega) (by intro x hx; simp at hx; omega) _ ?_
  unfold lenB
  repeat' split
  all_goals (constructor <;> intro g <;> first | omega | (simp at g; done) | (simp only [List.cons.injEq, true_and, and_true]; omega) | (simp at g; omega))
theorem lenB_3 {b c d e : Int} (h : 0 ≤ c ∧ c ≤ 255) (h2 : 0 ≤ d ∧ d ≤ 255) (h3 : 0 ≤ e ∧ e ≤ 255) : strOfNums (lenB (256 * (256 * c + d) + e)) = strOfNums [131, c, d, e] ↔ c ≠ 0 := by
  refine lenB_ext (by omega) (by intro x hx; simp at hx; omega) _ ?_
  unfold lenB
  repeat' split
  all_goals (constructor <;> intro g <;> first | omega | (simp at g; done) | (simp only [List.cons.injEq, true_and, and_true]; omega) | (simp at g; omega))
/-- The digits of a number to the base 256. -/
def dg : Nat → Int → List Int
  | 0, _ => []
  | f + 1, n => if n ≤ 0 then [] else dg f (n / 256) ++ [n % 256]
theorem dg_len : ∀ (f : Nat) (n : Int), (dg f n).length ≤ f
  | 0, _ => Nat.le_refl _
  | f + 1, n => by
    have := dg_len f (n / 256)
    rw [dg]
    split
    · simp
    · rw [List.length_append, List.length_singleton]; omega
theorem dg3 {n : Int} (h : 128 ≤ n ∧ n < 16777216) : lenB n = (128 + ((dg 3 n).length : Int)) :: dg 3 n := by
  unfold lenB
  rw [if_neg (by omega)]
  by_cases c1 : n < 256
  · have e : dg 3 n = [n] := by
      simp only [dg]
      rw [if_neg (by omega), if_pos (by omega), show n % 256 = n by omega]
      rfl
    rw [if_pos c1, e]
    rfl
  · rw [if_neg c1]
    by_cases c2 : n < 65536
    · have e : dg 3 n = [n / 256, n % 256] := by
        simp only [dg]
        rw [if_neg (by omega), if_neg (by omega), if_pos (by omega), show n / 256 % 256 = n / 256 by omega]
        rfl
      rw [if_pos c2, e]
      rfl
    · have e : dg 3 n = [n / 65536, n / 256 % 256, n % 256] := by
        simp only [dg]
        rw [if_neg (by omega), if_neg (by omega), if_neg (by omega), show n / 256 / 256 % 256 = n / 65536 by omega]
        rfl
      rw [if_neg c2, e]
      rfl
theorem len62 (n : Int) (h : 0 ≤ n ∧ n < 16777216) : Fun Tryd.prog 80 [int n] (.ro ((lenB n).map br)) := by
  have hsh := fun m : Int => ishr_i64 m 8 (by decide)
  refine Fun.of (TriR.of (tri_of Tryd.func80 rfl Tryd.ntmps80 rfl fun j => ?_))
  repeat' (first | (with_reducible first | refine aw_seq ?_ | refine rl_nil ?_ | refine aw_region ?_ | refine then_n ?_ | refine aw_block ?_ | refine then_exit ?_ | refine then_ret ?_ | refine in_n ?_ | refine in_ret ?_ | refine aw_exit ?_ | refine aw_ret ?_ | refine aw_skip ?_ | refine in_exit_eq rfl ?_ | refine awr_succ ?_) | ((with_reducible refine k_move ?_); refine rl_pure (pv_move rfl) rfl rfl rfl ?_) | ((with_reducible refine k_assign ?_); refine rl_pure (pv_assign rfl) rfl rfl rfl ?_) | ((with_reducible refine k_lss ?_); refine rl_pure (pv_lss rfl rfl) rfl rfl rfl ?_) | ((with_reducible refine k_convert ?_); refine rl_pure (pv_convert_in rfl (by first | rfl | exact IntWalk.i64_in _ (by omega) | exact IntWalk.u8_in _ (by omega) | exact IntWalk.u32_in _ (by omega))) rfl rfl rfl ?_) | (((with_reducible refine k_cond ?_); refine aw_cond rfl ?_ ?_) <;> ((fail_if_success (refine imp_known (by assumption) ?_)); (intro hb <;> (have hc := hb) <;> (try simp only [decide_eq_true_eq, decide_eq_false_iff_not, Int.not_lt, Int.not_le, ne_eq, Bool.not_eq_true, Bool.not_eq_false, Decidable.not_not] at hc) <;> (try (exfalso; omega)) <;> (try (exfalso; simp only [Bool.not_eq_eq_eq_not, Bool.not_true, Bool.not_false, decide_eq_true_eq, decide_eq_false_iff_not, ne_eq, Decidable.not_not, Int.not_lt, Int.not_le] at hc; omega)) <;> (try (first | contradiction | (cases hc; done))) <;> (try (first | exact absurd (hb.symm.trans (by assumption) : true = false) (by decide) | exact absurd (hb.symm.trans (by assumption) : false = true) (by decide)))))))
  · refine rl_op rfl (op_buildSlice_ro rfl rfl rfl (by rfl) (by rfl) (by rfl) (by rfl) rfl by_rows ?_)
    repeat' (first | (with_reducible first | refine aw_seq ?_ | refine rl_nil ?_ | refine aw_region ?_ | refine then_n ?_ | refine aw_block ?_ | refine then_exit ?_ | refine then_ret ?_ | refine in_n ?_ | refine in_ret ?_ | refine aw_exit ?_ | refine aw_ret ?_ | refine aw_skip ?_ | refine in_exit_eq rfl ?_ | refine awr_succ ?_) | ((with_reducible refine k_assign ?_); refine rl_pure (pv_assign rfl) rfl rfl rfl ?_))
    (first | refine ret_r (ret1 rfl by_res (List.nil_sublist _) ⟨_, rfl, ?_⟩) | refine ret_n (ret1 rfl by_res (List.nil_sublist _) ⟨_, rfl, ?_⟩))
    exact ⟨by rw [lenB, if_pos (by omega)]; rfl, rfl⟩
  refine aw_nil_ro 3 rfl ?_
  refine aw_iter (α := Nat × Int × List Int) (fun q => [(0, int q.2.1), (3, .ro (q.2.2.map br))]) (fun q => []) (fun q => 0 ≤ q.2.1 ∧ q.2.1 < 256 ^ q.1 ∧ dg q.1 q.2.1 ++ q.2.2 = dg 3 n) (fun q => q.2.1.toNat)
    (3, n, []) ⟨by dsimp only; omega, by dsimp only; omega, by dsimp only; rw [List.append_nil]⟩ (by (repeat (first | exact sub_nil | refine sub_cons (by first | rfl | (simp; done)) ?_))) .nil fun q hI => ?_
  obtain ⟨f, m, out⟩ := q
  dsimp only at hI ⊢
  obtain ⟨h0, h1, h2⟩ := hI
  have hl : out.length ≤ 3 := by
    have e1 := congrArg List.length h2
    have e2 := dg_len 3 n
    rw [List.length_append] at e1
    omega
  rcases Int.lt_or_le 0 m with hm | hm
  · obtain ⟨f, rfl⟩ : ∃ g, f = g + 1 := by
      rcases f with _ | f
      · simp at h1; omega
      · exact ⟨f, rfl⟩
    repeat' (first | (with_reducible first | refine aw_seq ?_ | refine rl_nil ?_ | refine aw_region ?_ | refine then_n ?_ | refine aw_block ?_ | refine then_exit ?_ | refine then_ret ?_ | refine in_n ?_ | refine in_ret ?_ | refine aw_exit ?_ | refine aw_ret ?_ | refine aw_skip ?_ | refine in_exit_eq rfl ?_ | refine awr_succ ?_) | ((with_reducible refine k_move ?_); refine rl_pure (pv_move rfl) rfl rfl rfl ?_) | ((with_reducible refine k_gtr ?_); refine rl_pure (pv_gtr rfl rfl) rfl rfl rfl ?_) | ((with_reducible refine k_convert ?_); refine rl_pure (pv_convert_u8 rfl) rfl rfl rfl ?_) | (((with_reducible refine k_cond ?_); refine aw_cond rfl ?_ ?_) <;> ((fail_if_success (refine imp_known (by assumption) ?_)); (intro hb <;> (have hc := hb) <;> (try simp only [decide_eq_true_eq, decide_eq_false_iff_not, Int.not_lt, Int.not_le, ne_eq, Bool.not_eq_true, Bool.not_eq_false, Decidable.not_not] at hc) <;> (try (exfalso; omega)) <;> (try (exfalso; simp only [Bool.not_eq_eq_eq_not, Bool.not_true, Bool.not_false, decide_eq_true_eq, decide_eq_false_iff_not, ne_eq, Decidable.not_not, Int.not_lt, Int.not_le] at hc; omega)) <;> (try (first | contradiction | (cases hc; done))) <;> (try (first | exact absurd (hb.symm.trans (by assumption) : true = false) (by decide) | exact absurd (hb.symm.trans (by assumption) : false = true) (by decide)))))))
    (first | refine rl_op rfl (op_buildSlice rfl rfl rfl (by rfl) (by rfl) (by rfl) (by rfl) rfl fun sv => ?_) | (refine dl_op (by assumption) by_wants (op_buildSlice rfl rfl rfl (by rfl) (by rfl) (by rfl) (by rfl) rfl fun sv => ?_); intro jd hjd))
    repeat' ((with_reducible refine k_move ?_); refine rl_pure (pv_move rfl) rfl rfl rfl ?_)
    (first | refine rl_op rfl (op_append rfl .here rfl rfl rfl rfl (by first | (intro r hr; obtain ⟨_, _, rfl⟩ := List.mem_map.1 hr; rfl) | (simp; done) | (simp [V.cells]; done)) by_small rfl fun sv' => ?_) | (refine dl_op (by assumption) by_wants (op_append rfl .here rfl rfl rfl rfl (by first | (intro r hr; obtain ⟨_, _, rfl⟩ := List.mem_map.1 hr; rfl) | (simp; done) | (simp [V.cells]; done)) by_small rfl fun sv' => ?_); intro jd hjd))
    refine rl_freeze (d := 17) rfl by_take ?_
    repeat' (first | (with_reducible first | refine aw_seq ?_ | refine rl_nil ?_ | refine aw_region ?_ | refine then_n ?_ | refine aw_block ?_ | refine then_exit ?_ | refine then_ret ?_ | refine in_n ?_ | refine in_ret ?_ | refine aw_exit ?_ | refine aw_ret ?_ | refine aw_skip ?_ | refine in_exit_eq rfl ?_ | refine awr_succ ?_) | ((with_reducible refine k_move ?_); refine rl_pure (pv_move rfl) rfl rfl rfl ?_) | ((with_reducible refine k_assign ?_); refine rl_pure (pv_assign rfl) rfl rfl rfl ?_) | ((with_reducible refine k_shr ?_); refine rl_pure (pv_shr rfl rfl (by omega)) rfl rfl rfl ?_))
    rw [show ishr .i64 m 8 = m / 256 from hsh m]
    rw [dg, if_neg (by omega)] at h2
    have h3 : m / 256 < 256 ^ f := by
      rw [Int.pow_succ] at h1
      exact Int.ediv_lt_of_lt_mul (by decide) h1
    exact next_of (R := []) (f, m / 256, m % 256 :: out) ⟨by dsimp only; omega, h3, by dsimp only; rw [← h2]; simp⟩ (by dsimp only; omega) (by (repeat (first | exact sub_nil | refine sub_cons (by first | rfl | (simp; done)) ?_))) .nil
  · have e : out = dg 3 n := by
      rw [← h2]
      rcases f with _ | f
      · rfl
      · rw [dg, if_pos hm]; rfl
    repeat' (first | (with_reducible first | refine aw_seq ?_ | refine rl_nil ?_ | refine aw_region ?_ | refine then_n ?_ | refine aw_block ?_ | refine then_exit ?_ | refine then_ret ?_ | refine in_n ?_ | refine in_ret ?_ | refine aw_exit ?_ | refine aw_ret ?_ | refine aw_skip ?_ | refine in_exit_eq rfl ?_ | refine awr_succ ?_) | ((with_reducible refine k_move ?_); refine rl_pure (pv_move rfl) rfl rfl rfl ?_) | ((with_reducible refine k_gtr ?_); refine rl_pure (pv_gtr rfl rfl) rfl rfl rfl ?_) | ((with_reducible refine k_add ?_); refine rl_pure (pv_add_in rfl rfl (by omega)) rfl rfl rfl ?_) | ((with_reducible refine k_len ?_); refine rl_pure (pv_len_ro' (by rfl) by_len) rfl rfl rfl ?_) | ((with_reducible refine k_convert ?_); refine rl_pure (pv_convert_in rfl (by first | rfl | exact IntWalk.i64_in _ (by omega) | exact IntWalk.u8_in _ (by omega) | exact IntWalk.u32_in _ (by omega))) rfl rfl rfl ?_) | (((with_reducible refine k_cond ?_); refine aw_cond rfl ?_ ?_) <;> ((fail_if_success (refine imp_known (by assumption) ?_)); (intro hb <;> (have hc := hb) <;> (try simp only [decide_eq_true_eq, decide_eq_false_iff_not, Int.not_lt, Int.not_le, ne_eq, Bool.not_eq_true, Bool.not_eq_false, Decidable.not_not] at hc) <;> (try (exfalso; omega)) <;> (try (exfalso; simp only [Bool.not_eq_eq_eq_not, Bool.not_true, Bool.not_false, decide_eq_true_eq, decide_eq_false_iff_not, ne_eq, Decidable.not_not, Int.not_lt, Int.not_le] at hc; omega)) <;> (try (first | contradiction | (cases hc; done))) <;> (try (first | exact absurd (hb.symm.trans (by assumption) : true = false) (by decide) | exact absurd (hb.symm.trans (by assumption) : false = true) (by decide)))))))
    (first | refine rl_op rfl (op_buildSlice rfl rfl rfl (by rfl) (by rfl) (by rfl) (by rfl) rfl fun sv => ?_) | (refine dl_op (by assumption) by_wants (op_buildSlice rfl rfl rfl (by rfl) (by rfl) (by rfl) (by rfl) rfl fun sv => ?_); intro jd hjd))
    repeat' ((with_reducible refine k_move ?_); refine rl_pure (pv_move rfl) rfl rfl rfl ?_)
    (first | refine rl_op rfl (op_append rfl .here rfl rfl rfl rfl (by first | (intro r hr; obtain ⟨_, _, rfl⟩ := List.mem_map.1 hr; rfl) | (simp; done) | (simp [V.cells]; done)) by_small rfl fun sv' => ?_) | (refine dl_op (by assumption) by_wants (op_append rfl .here rfl rfl rfl rfl (by first | (intro r hr; obtain ⟨_, _, rfl⟩ := List.mem_map.1 hr; rfl) | (simp; done) | (simp [V.cells]; done)) by_small rfl fun sv' => ?_); intro jd hjd))
    refine rl_freeze (d := 24) rfl by_take ?_
    repeat' (first | (with_reducible first | refine aw_seq ?_ | refine rl_nil ?_ | refine aw_region ?_ | refine then_n ?_ | refine aw_block ?_ | refine then_exit ?_ | refine then_ret ?_ | refine in_n ?_ | refine in_ret ?_ | refine aw_exit ?_ | refine aw_ret ?_ | refine aw_skip ?_ | refine in_exit_eq rfl ?_ | refine awr_succ ?_) | ((with_reducible refine k_assign ?_); refine rl_pure (pv_assign rfl) rfl rfl rfl ?_))
    (first | refine ret_r (ret1 rfl by_res (List.nil_sublist _) ⟨_, rfl, ?_⟩) | refine ret_n (ret1 rfl by_res (List.nil_sublist _) ⟨_, rfl, ?_⟩))
    exact ⟨by rw [dg3 (by omega), ← e]; simp [V.cells], rfl⟩
end Go.Proofs.YtepmllodaoanmaaDoor

