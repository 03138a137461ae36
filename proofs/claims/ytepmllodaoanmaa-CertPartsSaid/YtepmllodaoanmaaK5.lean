import Derived.Test.YtepmllodaoanmaaK4
set_option linter.unusedVariables false
set_option linter.unusedSimpArgs false
namespace Go.Proofs.Ytepmllodaoanmaa
open Go Go.AX
set_option maxHeartbeats 8000000
set_option maxRecDepth 20000
attribute [local irreducible] AW RL OP PureV ValV HV DL Tri TriR Fun RetOk ResV
theorem fin3_some {b : List Int} {t n x z : Int} {s y : Nat} (h : fin3 b t s n = some (x, y, z)) : x = t ∧ y = s ∧ z = n ∧ (s : Int) + n ≤ b.length := by
  unfold fin3 at h
  split at h
  · rename_i hc
    simp only [Option.some.injEq, Prod.mk.injEq] at h
    exact ⟨h.1.symm, h.2.1.symm, h.2.2.symm, hc⟩
  · cases h
theorem hd_ok {b : List Int} (hb : Bytes b) {t n : Int} {s : Nat} (h : hd b = some (t, s, n)) : 2 ≤ s ∧ 0 ≤ n ∧ (s : Int) + n ≤ b.length := by
  rcases b with _ | ⟨u, _ | ⟨m, r⟩⟩
  · cases h
  · cases h
  have hm := hb m (by simp)
  rw [hd_cons, hd2] at h
  split at h
  · obtain ⟨_, rfl, rfl, h4⟩ := fin3_some h
    omega
  split at h
  · rcases r with _ | ⟨c, r⟩
    · cases h
    have hc := hb c (by simp)
    simp only [h129] at h
    split at h
    · cases h
    · obtain ⟨_, rfl, rfl, h4⟩ := fin3_some h
      omega
  split at h
  · rcases r with _ | ⟨c, _ | ⟨d, r⟩⟩
    · cases h
    · cases h
    have hc := hb c (by simp)
    have hd := hb d (by simp)
    simp only [h130] at h
    split at h
    · cases h
    · obtain ⟨_, rfl, rfl, h4⟩ := fin3_some h
      omega
  split at h
  · rcases r with _ | ⟨c, _ | ⟨d, _ | ⟨e, r⟩⟩⟩
    · cases h
    · cases h
    · cases h
    have hc := hb c (by simp)
    have hd := hb d (by simp)
    have he := hb e (by simp)
    simp only [h131] at h
    split at h
    · cases h
    · obtain ⟨_, rfl, rfl, h4⟩ := fin3_some h
      omega
  · cases h
theorem bytes_drop {b : List Int} (h : Bytes b) (k : Nat) : Bytes (b.drop k) := fun x hx => h x (List.mem_of_mem_drop hx)
theorem bytes_take {b : List Int} (h : Bytes b) (k : Nat) : Bytes (b.take k) := fun x hx => h x (List.mem_of_mem_take hx)
abbrev Part := Int × Int × Int × Int
def lk (t : Int) : Bool := decide (t = 48 ∨ t = 49 ∨ 160 ≤ t)
/-- The parts of bytes, by so many rounds at most. -/
def prt : Nat → List Int → Int → Option (List Part)
  | 0, _, _ => some []
  | f + 1, b, a => if b = [] then some [] else match hd b with
    | none => none
    | some (t, s, n) => match (if lk t then prt f ((b.drop s).take n.toNat) (a + s) else some []) with
      | none => none
      | some l => (prt f (b.drop (s + n.toNat)) (a + s + n)).map fun r => (t, a, (s : Int), n) :: (l ++ r)
theorem prt_fuel : ∀ (f g : Nat) (b : List Int) (a : Int), Bytes b → b.length ≤ f → b.length ≤ g → prt f b a = prt g b a
  | 0, 0, _, _, _, _, _ => rfl
  | 0, g + 1, b, a, _, h, _ => by
    obtain rfl : b = [] := List.length_eq_zero_iff.1 (by omega)
    rw [prt, prt, if_pos rfl]
  | f + 1, 0, b, a, _, _, h => by
    obtain rfl : b = [] := List.length_eq_zero_iff.1 (by omega)
    rw [prt, prt, if_pos rfl]
  | f + 1, g + 1, b, a, hb, h1, h2 => by
    rw [prt, prt]
    split
    · rfl
    · cases e : hd b with
      | none => rfl
      | some p =>
        obtain ⟨t, s, n⟩ := p
        have hk := hd_ok hb e
        dsimp only
        rw [prt_fuel f g ((b.drop s).take n.toNat) (a + s) (bytes_take (bytes_drop hb _) _) (by rw [List.length_take, List.length_drop]; omega) (by rw [List.length_take, List.length_drop]; omega),
          prt_fuel f g (b.drop (s + n.toNat)) (a + s + n) (bytes_drop hb _) (by rw [List.length_drop]; omega) (by rw [List.length_drop]; omega)]
def prtB (b : List Int) (a : Int) : Option (List Part) := prt b.length b a
theorem prtB_nil (a : Int) : prtB [] a = some [] := rfl
theorem prtB_none {b : List Int} {a : Int} (h0 : b ≠ []) (h : hd b = none) : prtB b a = none := by
  unfold prtB
  obtain ⟨k, hk⟩ : ∃ k, b.length = k + 1 := ⟨b.length - 1, by have := List.length_pos_iff.2 h0; omega⟩
  rw [hk, prt, if_neg h0, h]
theorem prtB_some {b : List Int} {a t n : Int} {s : Nat} (hb : Bytes b) (h : hd b = some (t, s, n)) :
    prtB b a = match (if lk t then prtB ((b.drop s).take n.toNat) (a + s) else some []) with
      | none => none
      | some l => (prtB (b.drop (s + n.toNat)) (a + s + n)).map fun r => (t, a, (s : Int), n) :: (l ++ r) := by
  have hk := hd_ok hb h
  have h0 : b ≠ [] := fun e => by subst e; cases h
  obtain ⟨k, hk2⟩ : ∃ k, b.length = k + 1 := ⟨b.length - 1, by have := List.length_pos_iff.2 h0; omega⟩
  unfold prtB
  rw [hk2, prt, if_neg h0, h]
  dsimp only
  rw [prt_fuel k ((b.drop s).take n.toNat).length ((b.drop s).take n.toNat) (a + s) (bytes_take (bytes_drop hb _) _) (by rw [List.length_take, List.length_drop]; omega) (Nat.le_refl _),
    prt_fuel k (b.drop (s + n.toNat)).length (b.drop (s + n.toNat)) (a + s + n) (bytes_drop hb _) (by rw [List.length_drop]; omega) (Nat.le_refl _)]
theorem prt_len : ∀ (f : Nat) (b : List Int) (a : Int) (l : List Part), Bytes b → prt f b a = some l → l.length ≤ b.length
  | 0, b, a, l, _, h => by cases h; simp
  | f + 1, b, a, l, hb, h => by
    rw [prt] at h
    split at h
    · cases h; simp
    · cases e : hd b with
      | none => rw [e] at h; cases h
      | some p =>
        obtain ⟨t, s, n⟩ := p
        have hk := hd_ok hb e
        rw [e] at h
        dsimp only at h
        have key : ∀ l1, (if lk t then prt f ((b.drop s).take n.toNat) (a + s) else some []) = some l1 → l1.length ≤ n.toNat := fun l1 h1 => by
          split at h1
          · have := prt_len f _ _ l1 (bytes_take (bytes_drop hb _) _) h1
            rw [List.length_take] at this
            omega
          · cases h1; simp
        cases e1 : (if lk t then prt f ((b.drop s).take n.toNat) (a + s) else some []) with
        | none => rw [e1] at h; cases h
        | some l1 =>
          rw [e1] at h
          dsimp only at h
          cases e2 : prt f (b.drop (s + n.toNat)) (a + s + n) with
          | none => rw [e2] at h; cases h
          | some r =>
            rw [e2] at h
            have h3 := prt_len f _ _ r (bytes_drop hb _) e2
            have h4 := key l1 e1
            rw [List.length_drop] at h3
            cases h
            simp only [List.length_cons, List.length_append]
            omega
theorem prtB_len {b : List Int} {a : Int} {l : List Part} (hb : Bytes b) (h : prtB b a = some l) : l.length ≤ b.length := prt_len _ _ _ _ hb h
abbrev prow (p : Part) : List V := [int p.1, int p.2.1, int p.2.2.1, int p.2.2.2]
theorem prow_len (p : Part) : (prow p).length = 4 := rfl
theorem looked69 (t : Int) : Fun Try.prog 69 [int t] (bool (lk t)) := by
  refine Fun.of (TriR.of (tri_of Try.func69 rfl Try.ntmps69 rfl fun j => ?_))
  repeat' (first | (with_reducible first | refine aw_seq ?_ | refine rl_nil ?_ | refine aw_region ?_ | refine then_n ?_ | refine aw_block ?_ | refine then_exit ?_ | refine then_ret ?_ | refine in_n ?_ | refine in_ret ?_ | refine aw_exit ?_ | refine aw_ret ?_ | refine aw_skip ?_ | refine in_exit_eq rfl ?_ | refine awr_succ ?_) | ((with_reducible refine k_move ?_); refine rl_pure (pv_move rfl) rfl rfl rfl ?_) | ((with_reducible refine k_assign ?_); refine rl_pure (pv_assign rfl) rfl rfl rfl ?_) | ((with_reducible refine k_eql ?_); refine rl_pure (pv_eql rfl rfl) rfl rfl rfl ?_) | ((with_reducible refine k_geq ?_); refine rl_pure (pv_geq rfl rfl) rfl rfl rfl ?_) | ((with_reducible refine k_pick ?_); (first | refine rl_pure (pv_pick_t rfl by_bd rfl) rfl rfl rfl ?_ | refine rl_pure (pv_pick_f rfl by_bd rfl) rfl rfl rfl ?_)) | ((with_reducible refine k_guard ?_); (first | refine rl_on_yes rfl rfl rfl by_bd rfl ?_ | refine rl_off_f rfl rfl rfl by_bd rfl ?_)) | (((with_reducible refine k_guard ?_); first | refine rl_if_t rfl rfl rfl rfl ?_ ?_ | refine rl_if_f rfl rfl rfl rfl ?_ ?_) <;> intro hb <;> (have hc := hb) <;> (try simp only [decide_eq_true_eq, decide_eq_false_iff_not, Int.not_lt, Int.not_le, ne_eq, Bool.not_eq_true, Bool.not_eq_false, Decidable.not_not] at hc) <;> (try (exfalso; omega)) <;> (try (first | contradiction | (cases hc; done)))))
  all_goals
    (first | refine ret_r (ret1 rfl by_res (List.nil_sublist _) ⟨_, rfl, ?_⟩) | refine ret_n (ret1 rfl by_res (List.nil_sublist _) ⟨_, rfl, ?_⟩))
    refine ⟨congrArg bool ?_, rfl⟩
    unfold lk
    first
    | (exact (decide_eq_true (by omega)).symm)
    | (exact (decide_eq_false (by omega)).symm)
    | (exact decide_eq_decide.2 (by omega))
end Go.Proofs.Ytepmllodaoanmaa
