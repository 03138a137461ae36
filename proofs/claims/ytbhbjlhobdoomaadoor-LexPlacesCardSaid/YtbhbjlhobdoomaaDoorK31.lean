import Derived.Test.YtbhbjlhobdoomaaDoorK30
set_option linter.unusedVariables false
set_option linter.unusedSimpArgs false
namespace Go.Proofs.YtbhbjlhobdoomaaDoor
open Go Go.AX
set_option maxHeartbeats 4000000
set_option maxRecDepth 20000
theorem st_box2_nil {P : Program} {N : Nat} {j : J P N} {s : Sl} {H H2 : List Ch} {b B : Nat} {u : V} (E k : Nat) {a : Act} {w : World} (hu : Upd (.box b B [u, .raw (.slice none 0 0)]) (.box b B [u, .own (.slice none 0 0)]) H H2) (st : St j s H a w) : St j s (.vec (.slice none 0 0) E k [] :: H2) a w := by
  refine st_vec_nil ?_ E k
  obtain ⟨t, h1, h2⟩ := hu.split
  have st1 := st.perm h1
  have st2 : St j s (Ch.box b B [u, .own (.slice none 0 0)] :: t) a w := by
    have ho : own (Ch.box b B [u, .own (.slice none 0 0)] :: t ++ j.F) = own (Ch.box b B [u, .raw (.slice none 0 0)] :: t ++ j.F) := rfl
    refine ⟨by rw [ho]; exact st1.sl, ⟨st1.hp.nd, fun c hcm => ?_⟩, st1.evo, st1.df⟩
    rw [ho]
    rcases List.mem_cons.1 hcm with rfl | hcm
    · obtain ⟨l, k1, k2, k3⟩ := st1.hp.sat _ (List.mem_cons_self ..)
      refine ⟨l, k1, ?_, k3⟩
      simp only [concL] at k2 ⊢
      obtain ⟨x, xs, rfl, q1, y, ys, rfl, q2, rfl⟩ := k2
      exact ⟨x, _, rfl, q1, y, _, rfl, le_nil_own _ _ _ q2, rfl⟩
    · exact st1.hp.sat _ (List.mem_cons_of_mem _ hcm)
  exact st2.perm h2.symm
attribute [local irreducible] AW RL RLI OP PureV ValV HV DL Tri TriR Fun RetOk ResV
/-- A hexadecimal digit. -/
def hxd (n : Int) : Int := if n < 10 then 48 + n else 87 + n
theorem hex51 (c : Int) (h0 : 0 ≤ c) (h1 : c < 16) : Fun Tryd.prog 51 [byte c] (str (strOfNums [hxd c])) := by
  have hx : ∀ k : Fin 16, (ByteArray.mk #[48, 49, 50, 51, 52, 53, 54, 55, 56, 57, 97, 98, 99, 100, 101, 102]).extract k.val (k.val + 1) = strOfNums [hxd (k.val : Int)] := by decide +kernel
  have h := hx ⟨c.toNat, by omega⟩
  simp only at h
  rw [show ((c.toNat : Nat) : Int) = c by omega] at h
  have h2 : (ByteArray.mk #[48, 49, 50, 51, 52, 53, 54, 55, 56, 57, 97, 98, 99, 100, 101, 102]).extract c.toNat (c + 1).toNat = strOfNums [hxd c] := by
    rw [← h, show (c + 1).toNat = c.toNat + 1 by omega]
  have hsz : (ByteArray.mk #[48, 49, 50, 51, 52, 53, 54, 55, 56, 57, 97, 98, 99, 100, 101, 102]).size = 16 := rfl
  have hw : IntKind.u8.wrap (c + 1) = c + 1 := IntWalk.u8_in _ (by omega)
  refine Fun.of (TriR.of (tri_of Tryd.func51 rfl Tryd.ntmps51 rfl fun j => ?_))
  repeat' (first | (with_reducible first | refine aw_seq ?_ | refine rl_nil ?_ | refine aw_region ?_ | refine then_n ?_ | refine aw_block ?_ | refine then_exit ?_ | refine then_ret ?_ | refine in_n ?_ | refine in_ret ?_ | refine aw_exit ?_ | refine aw_ret ?_ | refine aw_skip ?_ | refine in_exit_eq rfl ?_ | refine awr_succ ?_) | ((with_reducible refine k_move ?_); refine rl_pure (pv_move rfl) rfl rfl rfl ?_) | ((with_reducible refine k_assign ?_); refine rl_pure (pv_assign rfl) rfl rfl rfl ?_) | ((with_reducible refine k_add ?_); refine rl_pure (pv_add rfl rfl) rfl rfl rfl ?_))
  rw [hw]
  repeat' (first | (with_reducible first | refine aw_seq ?_ | refine rl_nil ?_ | refine aw_region ?_ | refine then_n ?_ | refine aw_block ?_ | refine then_exit ?_ | refine then_ret ?_ | refine in_n ?_ | refine in_ret ?_ | refine aw_exit ?_ | refine aw_ret ?_ | refine aw_skip ?_ | refine in_exit_eq rfl ?_ | refine awr_succ ?_) | ((with_reducible refine k_assign ?_); refine rl_pure (pv_assign rfl) rfl rfl rfl ?_) | ((with_reducible refine k_slice ?_); refine rl_pure (pv_slice_str (by rfl) rfl rfl by_bound) rfl rfl rfl ?_))
  (first | refine ret_r (ret1 rfl by_res (List.nil_sublist _) ⟨_, rfl, ?_⟩) | refine ret_n (ret1 rfl by_res (List.nil_sublist _) ⟨_, rfl, ?_⟩))
  exact ⟨congrArg str h2, rfl⟩
/-- How a byte is written between quotes. -/
def enc (c : Int) : List Int :=
  if c = 34 ∨ c = 92 then [92, c] else if c = 10 then [92, 110] else if c < 32 ∨ 126 < c then [92, 120, hxd (c / 16), hxd (c % 16)] else [c]
theorem enc_len (c : Int) : (enc c).length ≤ 4 := by unfold enc; (repeat' split) <;> simp
def qts (l : List Int) : List Int := 34 :: l.flatMap enc
def qtd (s : ByteArray) : List Int := qts (nums s) ++ [34]
theorem qts_snoc (l : List Int) (c : Int) : qts (l ++ [c]) = qts l ++ enc c := by
  unfold qts
  rw [List.flatMap_append, List.cons_append]
  simp
theorem qts_len (l : List Int) : (qts l).length ≤ 4 * l.length + 1 := by
  unfold qts
  induction l with
  | nil => decide
  | cons a l ih =>
    have := enc_len a
    rw [List.length_cons] at ih
    rw [List.flatMap_cons, List.length_cons, List.length_append, List.length_cons]
    omega
theorem nums_get {s : ByteArray} {i : Nat} (h : i < s.size) : (nums s)[i]? = some (bt s i) := by
  unfold nums
  have hi2 : i < s.data.toList.length := by rw [Array.length_toList]; exact h
  rw [List.getElem?_map, List.getElem?_eq_getElem hi2]
  unfold bt
  rw [Int.toNat_natCast, List.getD_eq_getElem?_getD, List.getElem?_eq_getElem hi2]
  rfl
theorem nums_take {s : ByteArray} {i : Nat} (h : i < s.size) : (nums s).take (i + 1) = (nums s).take i ++ [bt s i] := by
  rw [List.take_add_one, nums_get h]; rfl
theorem u8_bits : ∀ c : Fin 256, ishr .u8 (c.val : Int) 4 = (c.val : Int) / 16 ∧ iand .u8 (c.val : Int) 15 = (c.val : Int) % 16 := by decide +kernel
theorem u8_bits' (c : Int) (h0 : 0 ≤ c) (h1 : c ≤ 255) : ishr .u8 c 4 = c / 16 ∧ iand .u8 c 15 = c % 16 := by
  have := u8_bits ⟨c.toNat, by omega⟩
  simp only at this
  rwa [show ((c.toNat : Nat) : Int) = c by omega] at this
theorem nums_strOf : ∀ (l : List Int), (∀ v ∈ l, 0 ≤ v ∧ v ≤ 255) → nums (strOfNums l) = l := fun l h => by
  unfold nums strOfNums
  induction l with
  | nil => rfl
  | cons a l ih =>
    have := h a (List.mem_cons_self ..)
    have ih := ih fun v hv => h v (List.mem_cons_of_mem _ hv)
    simp only [List.map_cons] at ih ⊢
    rw [show (UInt8.ofNat a.toNat).toNat = a.toNat by rw [UInt8.toNat_ofNat']; omega, show ((a.toNat : Nat) : Int) = a by omega]
    exact congrArg _ ih
end Go.Proofs.YtbhbjlhobdoomaaDoor
