import Derived.Test.YtbhbjlhobdoomaaDoorK4
set_option linter.unusedVariables false
set_option linter.unusedSimpArgs false
namespace Go.Proofs.YtbhbjlhobdoomaaDoor
open Go Go.AX
set_option maxHeartbeats 4000000
set_option maxRecDepth 20000
theorem bt_get {s : ByteArray} {k : Nat} (h : k < s.size) : bt s k = ((s[k]'h).toNat : Int) := (bt_eq s k h).symm
theorem byteArray_ext_bt {p q : ByteArray} (hl : p.size = q.size) (h : ∀ i : Nat, i < p.size → bt p i = bt q i) : p = q :=
  ByteArray.ext_getElem hl fun i hi hi' => by
    have := h i hi
    rw [bt_get hi, bt_get hi'] at this
    exact UInt8.toNat_inj.1 (by omega)
theorem bt_extract {s : ByteArray} {b e i : Nat} (h : i < min e s.size - b) : bt (s.extract b e) i = bt s (b + i : Nat) := by
  have h1 : i < (s.extract b e).size := by rw [ByteArray.size_extract]; exact h
  rw [bt_get h1, bt_get (s := s) (k := b + i) (by omega), ByteArray.getElem_extract h1]
theorem extract_eq {s q : ByteArray} {k : Nat} (h : k + q.size ≤ s.size) : s.extract k (k + q.size) = q ↔ ∀ i : Nat, i < q.size → bt s (k + i : Nat) = bt q i := by
  constructor
  · intro e i hi
    conv => rhs; rw [← e]
    rw [bt_extract (by omega)]
  · intro g
    have hl : (s.extract k (k + q.size)).size = q.size := by rw [ByteArray.size_extract]; omega
    exact byteArray_ext_bt hl fun i hi => by
      rw [bt_extract (by omega)]
      exact g i (by omega)
/-- Whether a text stands at a place. -/
def at? (s : ByteArray) (k : Nat) (q : ByteArray) : Bool := decide (k + q.size ≤ s.size) && decide (s.extract k (k + q.size) = q)
theorem pre_at {s : ByteArray} {k : Nat} (hk : k ≤ s.size) (q : ByteArray) : pre (s.extract k s.size) q = at? s k q := by
  unfold pre at?
  rw [ByteArray.size_extract, ByteArray.extract_extract]
  by_cases h : k + q.size ≤ s.size
  · rw [decide_eq_true (p := q.size ≤ min s.size s.size - k) (by omega), decide_eq_true h, Nat.add_zero, show min (k + q.size) s.size = k + q.size by omega]
  · rw [decide_eq_false (p := q.size ≤ min s.size s.size - k) (by omega), decide_eq_false h]; rfl
theorem at_iff {s : ByteArray} {k : Nat} {q : ByteArray} : at? s k q = true ↔ k + q.size ≤ s.size ∧ ∀ i : Nat, i < q.size → bt s (k + i : Nat) = bt q i := by
  unfold at?
  rw [Bool.and_eq_true, decide_eq_true_eq, decide_eq_true_eq]
  exact ⟨fun h => ⟨h.1, (extract_eq h.1).1 h.2⟩, fun h => ⟨h.1, (extract_eq h.1).2 h.2⟩⟩
theorem at_slashes {s : ByteArray} {k : Nat} : at? s k ⟨#[47, 47]⟩ = decide (ba s k = 47 ∧ ba s (k + 1) = 47) := by
  rw [Bool.eq_iff_iff, at_iff, decide_eq_true_eq]
  constructor
  · rintro ⟨h1, h2⟩
    have e : (ByteArray.mk #[47, 47]).size = 2 := rfl
    rw [e] at h1 h2
    have a0 := h2 0 (by omega)
    have a1 := h2 1 (by omega)
    rw [ba_in (by omega), ba_in (by omega)]
    exact ⟨a0, a1⟩
  · rintro ⟨h1, h2⟩
    have l1 := ba_lt (s := s) (k := k) (by omega)
    have l2 := ba_lt (s := s) (k := k + 1) (by omega)
    rw [ba_in l1] at h1
    rw [ba_in l2] at h2
    refine ⟨l2, fun i hi => ?_⟩
    have e : (ByteArray.mk #[47, 47]).size = 2 := rfl
    rw [e] at hi
    obtain rfl | rfl : i = 0 ∨ i = 1 := by omega
    · exact h1
    · exact h2
theorem at_hex {s : ByteArray} {k : Nat} : at? s k ⟨#[48, 120]⟩ = decide (ba s k = 48 ∧ ba s (k + 1) = 120) := by
  rw [Bool.eq_iff_iff, at_iff, decide_eq_true_eq]
  constructor
  · rintro ⟨h1, h2⟩
    have e : (ByteArray.mk #[48, 120]).size = 2 := rfl
    rw [e] at h1 h2
    have a0 := h2 0 (by omega)
    have a1 := h2 1 (by omega)
    rw [ba_in (by omega), ba_in (by omega)]
    exact ⟨a0, a1⟩
  · rintro ⟨h1, h2⟩
    have l1 := ba_lt (s := s) (k := k) (by omega)
    have l2 := ba_lt (s := s) (k := k + 1) (by omega)
    rw [ba_in l1] at h1
    rw [ba_in l2] at h2
    refine ⟨l2, fun i hi => ?_⟩
    have e : (ByteArray.mk #[48, 120]).size = 2 := rfl
    rw [e] at hi
    obtain rfl | rfl : i = 0 ∨ i = 1 := by omega
    · exact h1
    · exact h2
/-- The place behind blanks and comments (cm: within one); false at a byte in a comment that no source has. -/
def skip (s : ByteArray) (cm : Bool) (k : Nat) : Nat × Bool :=
  if h : k < s.size then
    if cm then (if cls (bt s k) = 0 then (k, false) else skip s (decide (bt s k ≠ 10)) (k + 1))
    else if cls (bt s k) = 1 then skip s false (k + 1)
    else if ba s k = 47 ∧ ba s (k + 1) = 47 then skip s true (k + 2) else (k, true)
  else (k, true)
termination_by s.size - k
theorem skip_end {s : ByteArray} {cm : Bool} {k : Nat} (h : ¬ k < s.size) : skip s cm k = (k, true) := by unfold skip; rw [dif_neg h]
theorem skip_bad {s : ByteArray} {k : Nat} (h : k < s.size) (hc : cls (bt s k) = 0) : skip s true k = (k, false) := by unfold skip; rw [dif_pos h, if_pos rfl, if_pos hc]
theorem skip_in {s : ByteArray} {k : Nat} (h : k < s.size) (hc : cls (bt s k) ≠ 0) : skip s true k = skip s (decide (bt s k ≠ 10)) (k + 1) := by
  conv => lhs; unfold skip
  rw [dif_pos h, if_pos rfl, if_neg hc]
theorem skip_blank {s : ByteArray} {k : Nat} (h : k < s.size) (hc : cls (bt s k) = 1) : skip s false k = skip s false (k + 1) := by
  conv => lhs; unfold skip
  rw [dif_pos h, if_neg (by decide), if_pos hc]
theorem skip_open {s : ByteArray} {k : Nat} (hc : ba s k = 47 ∧ ba s (k + 1) = 47) : skip s false k = skip s true (k + 2) := by
  have h := ba_lt (s := s) (k := k) (by omega)
  conv => lhs; unfold skip
  rw [dif_pos h, if_neg (by decide), if_neg (by rw [← ba_in h, hc.1]; decide), if_pos hc]
theorem skip_done {s : ByteArray} {k : Nat} (h : k < s.size) (h1 : cls (bt s k) ≠ 1) (h2 : ¬ (ba s k = 47 ∧ ba s (k + 1) = 47)) : skip s false k = (k, true) := by unfold skip; rw [dif_pos h, if_neg (by decide), if_neg h1, if_neg h2]
theorem skip_run {s : ByteArray} : ∀ (n k : Nat), s.size - k ≤ n → skip s false k = skip s false (runA 1 s k)
  | n, k, hn => by
    by_cases h : k < s.size ∧ cls (bt s k) = 1
    · have e : runA 1 s k = runA 1 s (k + 1) := run_go h.1 (decide_eq_true h.2)
      rw [e, skip_blank h.1 h.2]
      cases n with
      | zero => omega
      | succ n => exact skip_run n (k + 1) (by omega)
    · have e : runA 1 s k = k := run_no fun q => h ⟨q.1, of_decide_eq_true q.2⟩
      rw [e]
theorem run_stop {c : Int → Bool} {s : ByteArray} : ∀ (n k : Nat), s.size - k ≤ n → ¬ (run c s k < s.size ∧ c (bt s (run c s k)) = true)
  | n, k, hn => by
    by_cases h : k < s.size ∧ c (bt s k) = true
    · rw [run_go h.1 h.2]
      cases n with
      | zero => omega
      | succ n => exact run_stop n (k + 1) (by omega)
    · rw [run_no h]; exact h
/-- From the slashes on one is in a comment. -/
theorem skip_slash {s : ByteArray} {k : Nat} (hc : ba s k = 47 ∧ ba s (k + 1) = 47) : skip s false k = skip s true k := by
  have h := ba_lt (s := s) (k := k) (by omega)
  have h2 := ba_lt (s := s) (k := k + 1) (by omega)
  rw [skip_open hc, skip_in h (by rw [← ba_in h, hc.1]; decide), decide_eq_true (p := bt s k ≠ 10) (by rw [← ba_in h, hc.1]; decide), skip_in h2 (by rw [← ba_in h2, hc.2]; decide), decide_eq_true (p := bt s (k + 1 : Nat) ≠ 10) (by rw [← ba_in h2, hc.2]; decide)]
theorem skip_ge {s : ByteArray} : ∀ (n k : Nat) (cm : Bool), s.size - k ≤ n → k ≤ s.size → k ≤ (skip s cm k).1 ∧ (skip s cm k).1 ≤ s.size
  | n, k, cm, hn, hk => by
    unfold skip
    split
    case isFalse h => exact ⟨Nat.le_refl _, hk⟩
    case isTrue h =>
      have ih : ∀ (m : Nat) (cm : Bool), k < m → m ≤ s.size → k ≤ (skip s cm m).1 ∧ (skip s cm m).1 ≤ s.size := fun m cm h1 h2 => by
        cases n with
        | zero => omega
        | succ n =>
          have := skip_ge n m cm (by omega) h2
          omega
      split
      · split
        · exact ⟨Nat.le_refl _, hk⟩
        · exact ih _ _ (by omega) (by omega)
      · split
        · exact ih _ _ (by omega) (by omega)
        · split
          · rename_i q
            have := ba_lt (s := s) (k := k + 1) (by omega)
            exact ih _ _ (by omega) (by omega)
          · exact ⟨Nat.le_refl _, hk⟩
end Go.Proofs.YtbhbjlhobdoomaaDoor
