import Derived.Test.YtbhbjlhobdoomaaDoorAx1
import Derived.Test.YtbhbjlhobdoomaaDoorKTy
set_option linter.unusedVariables false
set_option linter.unusedSimpArgs false
namespace Go.Proofs.YtbhbjlhobdoomaaDoor
open Go Go.AX
abbrev int (n : Int) : V := .raw (.int .i64 n)
abbrev byte (n : Int) : V := .raw (.int .u8 n)
abbrev bool (b : Bool) : V := .raw (.bool b)
abbrev str (s : ByteArray) : V := .raw (.string s)
/-- The class of a byte: 1 between tokens, 2 of words, 3 of words and numbers, 4 of signs, 0 of no source. -/
def cls (b : Int) : Int := if b = 32 ∨ b = 9 ∨ b = 10 then 1 else if (97 ≤ b ∧ b ≤ 122) ∨ (65 ≤ b ∧ b ≤ 90) ∨ b = 95 then 2 else if 48 ≤ b ∧ b ≤ 57 then 3 else if 32 < b ∧ b < 127 then 4 else 0
/-- A byte of a source, 0 behind it. -/
def ba (s : ByteArray) (k : Nat) : Int := if k < s.size then bt s k else 0
abbrev isLt (b : Int) : Prop := (97 ≤ b ∧ b ≤ 122) ∨ (65 ≤ b ∧ b ≤ 90) ∨ b = 95
abbrev isDg (b : Int) : Prop := 48 ≤ b ∧ b ≤ 57
abbrev isPt (b : Int) : Prop := isLt b ∨ isDg b
theorem cls2 (b : Int) : cls b = 2 ↔ isLt b := by unfold cls isLt; split <;> (try split) <;> (try split) <;> (try split) <;> omega
theorem cls3 (b : Int) : cls b = 3 ↔ isDg b := by unfold cls isDg; split <;> (try split) <;> (try split) <;> (try split) <;> omega
theorem cls1 (b : Int) : cls b = 1 ↔ b = 32 ∨ b = 9 ∨ b = 10 := by unfold cls; split <;> (try split) <;> (try split) <;> (try split) <;> omega
theorem cls0 (b : Int) : cls b = 0 ↔ ¬ (b = 9 ∨ b = 10 ∨ (32 ≤ b ∧ b ≤ 126)) := by unfold cls; split <;> (try split) <;> (try split) <;> (try split) <;> omega
theorem ba_in {s : ByteArray} {k : Nat} (h : k < s.size) : ba s k = bt s k := if_pos h
theorem ba_out {s : ByteArray} {k : Nat} (h : ¬ k < s.size) : ba s k = 0 := if_neg h
theorem ba_lt {s : ByteArray} {k : Nat} (h : ba s k ≠ 0) : k < s.size := by
  unfold ba at h
  split at h
  · assumption
  · exact absurd rfl h
/-- The first place from k on whose byte is none of some. -/
def run (c : Int → Bool) (s : ByteArray) (k : Nat) : Nat := if h : k < s.size then (if c (bt s k) = true then run c s (k + 1) else k) else k
termination_by s.size - k
theorem run_go {c : Int → Bool} {s : ByteArray} {k : Nat} (h : k < s.size) (hc : c (bt s k) = true) : run c s k = run c s (k + 1) := by
  conv => lhs; unfold run
  rw [dif_pos h, if_pos hc]
theorem run_no {c : Int → Bool} {s : ByteArray} {k : Nat} (h : ¬ (k < s.size ∧ c (bt s k) = true)) : run c s k = k := by
  unfold run
  split
  · rename_i h1; rw [if_neg fun hc => h ⟨h1, hc⟩]
  · rfl
theorem run_ge {c : Int → Bool} {s : ByteArray} : ∀ (n k : Nat), s.size - k ≤ n → k ≤ run c s k ∧ (k ≤ s.size → run c s k ≤ s.size)
  | n, k, hn => by
    by_cases h : k < s.size ∧ c (bt s k) = true
    · rw [run_go h.1 h.2]
      cases n with
      | zero => omega
      | succ n =>
        obtain ⟨h1, h2⟩ := run_ge (c := c) (s := s) n (k + 1) (by omega)
        exact ⟨by omega, fun _ => h2 (by omega)⟩
    · rw [run_no h]; exact ⟨Nat.le_refl _, id⟩
/-- The end of a word. -/
def wordEnd (s : ByteArray) (k : Nat) : Nat :=
  if h : isPt (ba s k) then wordEnd s (k + 1) else if h : ba s k = 46 ∧ isPt (ba s (k + 1)) then wordEnd s (k + 2) else k
termination_by s.size - k
decreasing_by
  · have := ba_lt (s := s) (k := k) (by unfold isPt isLt isDg at h; omega); omega
  · have := ba_lt (s := s) (k := k) (by omega); omega
theorem wordEnd_pt {s : ByteArray} {k : Nat} (h : isPt (ba s k)) : wordEnd s k = wordEnd s (k + 1) := by
  conv => lhs; unfold wordEnd
  rw [dif_pos h]
theorem wordEnd_dot {s : ByteArray} {k : Nat} (h : ¬ isPt (ba s k)) (h2 : ba s k = 46 ∧ isPt (ba s (k + 1))) : wordEnd s k = wordEnd s (k + 2) := by
  conv => lhs; unfold wordEnd
  rw [dif_neg h, dif_pos h2]
theorem wordEnd_end {s : ByteArray} {k : Nat} (h : ¬ isPt (ba s k)) (h2 : ¬ (ba s k = 46 ∧ isPt (ba s (k + 1)))) : wordEnd s k = k := by
  conv => lhs; unfold wordEnd
  rw [dif_neg h, dif_neg h2]
theorem wordEnd_run (s : ByteArray) : ∀ (n k : Nat), s.size - k ≤ n → wordEnd s k = wordEnd s (run (fun b => decide (isPt b)) s k)
  | n, k, hn => by
    by_cases h : k < s.size ∧ decide (isPt (bt s k)) = true
    · rw [run_go h.1 h.2, wordEnd_pt (by rw [ba_in h.1]; exact of_decide_eq_true h.2)]
      cases n with
      | zero => omega
      | succ n => exact wordEnd_run s n (k + 1) (by omega)
    · rw [run_no h]
/-- A saturating value of digits. -/
def dgo (b : Int) : Int := if 48 ≤ b ∧ b ≤ 57 then b - 48 else if 97 ≤ b ∧ b ≤ 102 then b - 87 else if 65 ≤ b ∧ b ≤ 70 then b - 55 else 99
def satv (base : Int) (s : ByteArray) (e : Nat) (k : Nat) (n : Int) : Int := if k < e then satv base s e (k + 1) (min (base * n + dgo (bt s k)) 281474976710656) else n
termination_by e - k
example : wordEnd ⟨#[97, 46, 98, 46, 46, 99]⟩ 0 = 3 := by decide +kernel
end Go.Proofs.YtbhbjlhobdoomaaDoor
