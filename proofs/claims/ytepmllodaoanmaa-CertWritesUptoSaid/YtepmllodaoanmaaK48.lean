import Derived.Test.YtepmllodaoanmaaK41
import Derived.Test.YtepmllodaoanmaaK17
set_option linter.unusedVariables false
set_option linter.unusedSimpArgs false
namespace Go.Proofs.Ytepmllodaoanmaa
open Go Go.AX
set_option maxHeartbeats 8000000
set_option maxRecDepth 20000
attribute [local irreducible] AW RL OP PureV ValV HV DL DX Tri TriR Fun RetOk ResV
theorem bitL_take {U n q : Nat} (h : q < n) : (bitL U n).take (n - q) = (bitL U n).take (n - (q + 1)) ++ [((U / 2 ^ q % 2 : Nat) : Int)] := by
  have hi : n - (q + 1) < (bitL U n).length := by rw [bitL_len]; omega
  rw [show n - q = n - (q + 1) + 1 by omega, List.take_succ_eq_append_getElem hi]
  congr 2
  simp only [bitL, List.getElem_map, List.getElem_range]
  rw [show n - 1 - (n - (q + 1)) = q by omega]
theorem put66 (bs : List Int) (U n : Nat) (hb : bs.length ≤ 268435456) (hn : n ≤ 64) (hU : U < 9223372036854775808) (sv : Value) :
    TriR Try.prog 66 [.own sv, int U, int n] [.vec sv 5 1 (bs.map br)] fun v H' => ∃ sv', v = .own sv' ∧ H' = [.vec sv' 5 1 ((bs ++ bitL U n).map br)] := by
  refine TriR.of (tri_of Try.func66 rfl Try.ntmps66 rfl fun j => ?_)
  repeat' (first | (with_reducible first | refine aw_seq ?_ | refine rl_nil ?_ | refine aw_region ?_ | refine then_n ?_ | refine aw_block ?_ | refine then_exit ?_ | refine then_ret ?_ | refine in_n ?_ | refine in_ret ?_ | refine aw_exit ?_ | refine aw_ret ?_ | refine aw_skip ?_ | refine in_exit_eq rfl ?_ | refine awr_succ ?_) | ((with_reducible refine k_move ?_); refine rl_pure (pv_move rfl) rfl rfl rfl ?_) | ((with_reducible refine k_assign ?_); refine rl_pure (pv_assign rfl) rfl rfl rfl ?_) | ((with_reducible refine k_sub ?_); refine rl_pure (pv_sub_in rfl rfl (by omega)) rfl rfl rfl ?_))
  refine aw_iter (α := Nat × Value) (fun q => [(0, .own q.2), (1, int U), (7, int ((q.1 : Int) - 1))])
    (fun q => [.vec q.2 5 1 ((bs ++ (bitL U n).take (n - q.1)).map br)]) (fun q => q.1 ≤ n) (fun q => q.1)
    (n, sv) (Nat.le_refl _) (by (repeat (first | exact sub_nil | refine sub_cons (by first | rfl | (simp; done)) ?_))) (by rw [Nat.sub_self, List.take_zero, List.append_nil]; exact (.cons .here .nil)) fun q hI => ?_
  obtain ⟨r, sv1⟩ := q
  dsimp only at hI ⊢
  rcases r with _ | q
  · repeat' (first | (with_reducible first | refine aw_seq ?_ | refine rl_nil ?_ | refine aw_region ?_ | refine then_n ?_ | refine aw_block ?_ | refine then_exit ?_ | refine then_ret ?_ | refine in_n ?_ | refine in_ret ?_ | refine aw_exit ?_ | refine aw_ret ?_ | refine aw_skip ?_ | refine in_exit_eq rfl ?_ | refine awr_succ ?_) | ((with_reducible refine k_move ?_); refine rl_pure (pv_move rfl) rfl rfl rfl ?_) | ((with_reducible refine k_assign ?_); refine rl_pure (pv_assign rfl) rfl rfl rfl ?_) | ((with_reducible refine k_geq ?_); refine rl_pure (pv_geq rfl rfl) rfl rfl rfl ?_) | ((with_reducible refine k_cond ?_); refine aw_cond_f rfl ?_))
    all_goals first
    | (exfalso; omega)
    | skip
    (first | refine ret_r (retok_pick (.cons .here .nil) (ret1 rfl by_res (List.Sublist.refl _) ⟨_, rfl, ?_⟩)) | refine ret_n (retok_pick (.cons .here .nil) (ret1 rfl by_res (List.Sublist.refl _) ⟨_, rfl, ?_⟩)))
    rw [Nat.sub_zero, List.take_of_length_le (Nat.le_of_eq (bitL_len U n))]
    exact ⟨sv1, rfl, rfl⟩
  · rw [show ((q + 1 : Nat) : Int) - 1 = (q : Int) by omega]
    have hbl := bitL_len U n
    have htk := bitL_take (U := U) hI
    have htl : ((bitL U n).take (n - (q + 1))).length ≤ 64 := by rw [List.length_take]; omega
    have hsh : ishr .i64 U q = ((U / 2 ^ q : Nat) : Int) := by
      rw [ishr_i64 _ _ (by omega)]
      simp
    have hdv : U / 2 ^ q ≤ U := Nat.div_le_self _ _
    have hand : iand .i64 (ishr .i64 U q) 1 = ((U / 2 ^ q % 2 : Nat) : Int) := by
      rw [hsh]
      have := iand_nat (U / 2 ^ q) 1 (by omega) (by decide)
      rw [Nat.and_one_is_mod] at this
      exact this
    repeat' (first | (with_reducible first | refine aw_seq ?_ | refine rl_nil ?_ | refine aw_region ?_ | refine then_n ?_ | refine aw_block ?_ | refine then_exit ?_ | refine then_ret ?_ | refine in_n ?_ | refine in_ret ?_ | refine aw_exit ?_ | refine aw_ret ?_ | refine aw_skip ?_ | refine in_exit_eq rfl ?_ | refine awr_succ ?_) | ((with_reducible refine k_move ?_); refine rl_pure (pv_move rfl) rfl rfl rfl ?_) | ((with_reducible refine k_geq ?_); refine rl_pure (pv_geq rfl rfl) rfl rfl rfl ?_) | ((with_reducible refine k_and ?_); refine rl_pure (pv_and rfl rfl) rfl rfl rfl ?_) | ((with_reducible refine k_shr ?_); refine rl_pure (pv_shr rfl rfl (by omega)) rfl rfl rfl ?_) | ((with_reducible refine k_buildSlice ?_); refine rl_op rfl (op_buildSlice_ro rfl rfl rfl (by rfl) (by rfl) (by rfl) (by rfl) rfl by_rows ?_)) | ((with_reducible refine k_convert ?_); refine rl_pure (pv_convert_in rfl (by first | rfl | exact IntWalk.i64_in _ (by omega) | exact IntWalk.u8_in _ (by omega) | exact IntWalk.u32_in _ (by omega))) rfl rfl rfl ?_) | ((with_reducible refine k_cond ?_); refine aw_cond_t rfl ?_))
    all_goals first
    | (exfalso; omega)
    | skip
    (first | refine rl_op rfl (op_append rfl .here rfl rfl rfl rfl (by first | (intro r hr; obtain ⟨_, _, rfl⟩ := List.mem_map.1 hr; rfl) | (simp; done) | (simp [V.cells]; done)) by_small rfl fun sv' => ?_) | (refine dl_op (by assumption) by_wants (op_append rfl .here rfl rfl rfl rfl (by first | (intro r hr; obtain ⟨_, _, rfl⟩ := List.mem_map.1 hr; rfl) | (simp; done) | (simp [V.cells]; done)) by_small rfl fun sv' => ?_); intro jd hjd))
    repeat' (first | (with_reducible first | refine aw_seq ?_ | refine rl_nil ?_ | refine aw_region ?_ | refine then_n ?_ | refine aw_block ?_ | refine then_exit ?_ | refine then_ret ?_ | refine in_n ?_ | refine in_ret ?_ | refine aw_exit ?_ | refine aw_ret ?_ | refine aw_skip ?_ | refine in_exit_eq rfl ?_ | refine awr_succ ?_) | ((with_reducible refine k_move ?_); refine rl_pure (pv_move rfl) rfl rfl rfl ?_) | ((with_reducible refine k_assign ?_); refine rl_pure (pv_assign rfl) rfl rfl rfl ?_) | ((with_reducible refine k_sub ?_); refine rl_pure (pv_sub_in rfl rfl (by omega)) rfl rfl rfl ?_))
    refine next_of (R := []) (q, sv') (by omega) (by dsimp only; omega) (by (repeat (first | exact sub_nil | refine sub_cons (by first | rfl | (simp; done)) ?_))) ?_
    dsimp only
    rw [htk, ← List.append_assoc, List.map_append, List.map_cons, List.map_nil, ← hand]
    exact (.cons .here .nil)
theorem put66I (bs : List Int) (u n : Int) (hb : bs.length ≤ 268435456) (hn : 0 ≤ n ∧ n ≤ 64) (hU : 0 ≤ u ∧ u < 9223372036854775808) (sv : Value) :
    TriR Try.prog 66 [.own sv, int u, int n] [.vec sv 5 1 (bs.map br)] fun v H' => ∃ sv', v = .own sv' ∧ H' = [.vec sv' 5 1 ((bs ++ bitL u.toNat n.toNat).map br)] := by
  have := put66 bs u.toNat n.toNat hb (by omega) (by omega) sv
  rwa [show ((u.toNat : Nat) : Int) = u by omega, show ((n.toNat : Nat) : Int) = n by omega] at this
theorem optL_len : ∀ (l : List Typ) (ds : List Dat), (optL l ds).length ≤ l.length
  | [], _ => Nat.zero_le _
  | t :: ts, [] => Nat.zero_le _
  | t :: ts, d :: ds => by
    have := optL_len ts ds
    rw [optL, List.length_append, List.length_cons]
    split <;> simp <;> omega
theorem bytL_le (b : List Int) : (bytL b).length = 8 * b.length := by
  unfold bytL
  induction b with
  | nil => rfl
  | cons c b ih => rw [List.map_cons, List.flatten_cons, List.length_append, bitL_len, ih, List.length_cons]; omega
theorem pkRow_len {l : List Typ} {ds : List Dat} (hk : ∀ (i : Nat) x u, l[i]? = some x → ds[i]? = some u → u.set = true → (pkT x u).length ≤ 64 * u.wt) : (pkRow l ds).length ≤ 64 * wtD ds := by
  induction l generalizing ds with
  | nil => rw [pkRow]; simp
  | cons t l ih =>
    cases ds with
    | nil => rw [pkRow]; simp
    | cons d ds =>
      rw [pkRow, List.length_append, wtD]
      have h1 := ih (ds := ds) fun i x u h1 h2 h3 => hk (i + 1) x u (by simpa using h1) (by simpa using h2) h3
      split
      · rename_i hs
        have := hk 0 t d rfl rfl hs
        omega
      · simp only [List.length_nil]
        omega
theorem flat_len {x : Typ} {ds : List Dat} (hk : ∀ u ∈ ds, (pkT x u).length ≤ 64 * u.wt) : ((ds.map fun u => pkT x u).flatten).length ≤ 64 * wtD ds := by
  induction ds with
  | nil => simp
  | cons d ds ih =>
    rw [List.map_cons, List.flatten_cons, List.length_append, wtD]
    have h1 := ih fun u hu => hk u (List.mem_cons_of_mem _ hu)
    have h2 := hk d (List.mem_cons_self ..)
    omega
theorem pk_len : ∀ (n : Nat) (t : Typ) (d : Dat), t.wt ≤ n → okT t = true → fitT t d = true → (pkT t d).length ≤ 64 * d.wt := by
  intro n
  induction n with
  | zero => intro t d h; have := wt_eq t; omega
  | succ n ih =>
    intro t d hw hok hf
    have hwe := wt_eq t
    have hdwe := dwt_eq d
    have hkid : ∀ x ∈ t.l, ∀ u, fitT x u = true → (pkT x u).length ≤ 64 * u.wt := fun x hx u hu => by
      obtain ⟨i, hi⟩ := List.mem_iff_getElem?.1 hx
      exact ih x u (by have := wtL_take hi; omega) (okT_kid hok x hx) hu
    clear ih
    rw [fitT_eq, Bool.and_eq_true] at hf
    obtain ⟨hf0, hf⟩ := hf
    have hwb : width (t.hi - t.lo) ≤ 64 ∧ 0 ≤ width (t.hi - t.lo) := ⟨(wid_range 64 _).2, width_0 _⟩
    have hwb2 : 0 ≤ width ((t.l.length : Int) - 1) := width_0 _
    rw [pkT_eq]
    rcases okT_cls hok with hk | hk | hk | hk | hk | hk | hk | hk
    · rw [if_pos (by omega), bitL_len]; omega
    · rw [if_neg (by omega), if_neg (by omega), if_neg (by omega), if_neg (by omega), if_neg (by omega), if_neg (by omega)]; simp
    · rw [if_neg (by omega), if_pos (by omega), bitL_len]; omega
    · have := width_48 (n := t.hi - t.lo) (by omega)
      rw [if_neg (by omega), if_neg (by omega), if_pos (by omega), List.length_append, bitL_len, bytL_le]; omega
    · rw [if_neg (by omega), if_pos (by omega), bitL_len]; omega
    · rw [if_neg (by omega), if_neg (by omega), if_neg (by omega), if_pos (by omega)] at hf
      simp only [Bool.and_eq_true, decide_eq_true_eq] at hf
      rw [if_neg (by omega), if_neg (by omega), if_neg (by omega), if_pos (by omega), List.length_append]
      have h1 := optL_len t.l d.l
      have h2 := pkRow_len (l := t.l) (ds := d.l) fun i x u hx hu hs => hkid x (List.mem_of_getElem? hx) u (fitRow_get hf.2 hx hu hs)
      omega
    · rw [if_neg (by omega), if_neg (by omega), if_neg (by omega), if_neg (by omega), if_pos (by omega)] at hf
      simp only [Bool.and_eq_true, decide_eq_true_eq] at hf
      obtain ⟨hf, hf2⟩ := hf
      obtain ⟨x, hx⟩ : ∃ x, t.l[d.n.toNat]? = some x := ⟨_, List.getElem?_eq_getElem (by omega)⟩
      obtain ⟨u, hu⟩ : ∃ u, d.l[0]? = some u := ⟨_, List.getElem?_eq_getElem (by omega)⟩
      rw [fitAt_eq hx hu] at hf2
      have := width_48 (n := (t.l.length : Int) - 1) (by omega)
      rw [if_neg (by omega), if_neg (by omega), if_neg (by omega), if_neg (by omega), if_pos (by omega), List.length_append, bitL_len, pkAt_eq hx hu]
      have h1 := hkid x (List.mem_of_getElem? hx) u hf2
      have h2 := wtD_take hu
      omega
    · rw [if_neg (by omega), if_neg (by omega), if_neg (by omega), if_neg (by omega), if_neg (by omega), if_pos (by omega)] at hf
      simp only [Bool.and_eq_true, decide_eq_true_eq] at hf
      obtain ⟨hf, hf2⟩ := hf
      obtain ⟨x, hx⟩ : ∃ x, t.l[0]? = some x := ⟨_, List.getElem?_eq_getElem (by omega)⟩
      have e0 : t.l = x :: t.l.drop 1 := by simpa using drop_eq hx
      have hfa : (d.l.all fun u => fitT x u) = true := by rw [e0, fitHd] at hf2; exact hf2
      have hpa : pkHd t.l d.l = (d.l.map fun u => pkT x u).flatten := by rw [e0, pkHd]
      have := width_48 (n := t.hi - t.lo) (by omega)
      rw [if_neg (by omega), if_neg (by omega), if_neg (by omega), if_neg (by omega), if_neg (by omega), if_pos (by omega), List.length_append, bitL_len, hpa]
      have h1 := flat_len (ds := d.l) fun u hu => hkid x (List.mem_of_getElem? hx) u (List.all_eq_true.1 hfa u hu)
      omega
end Go.Proofs.Ytepmllodaoanmaa
