import Derived.Test.YtepmllodaoanmaaK17
set_option linter.unusedVariables false
set_option linter.unusedSimpArgs false
namespace Go.Proofs.Ytepmllodaoanmaa
open Go Go.AX
set_option maxHeartbeats 8000000
set_option maxRecDepth 20000
attribute [local irreducible] AW RL OP PureV ValV HV DL Tri TriR Fun RetOk ResV
theorem cap_b (n : Int) : 0 ≤ cap n ∧ cap n ≤ 4503599627370496 := by unfold cap; omega
theorem cap_in {n : Int} (h : 0 ≤ n ∧ n ≤ 4503599627370496) : cap n = n := by unfold cap; omega
theorem cap_min {n : Int} (h : 0 ≤ n) : cap n = min n 4503599627370496 := by unfold cap; omega
theorem cap_cap {a b : Int} (ha : 0 ≤ a) (hb' : 0 ≤ b) : cap (a + cap b) = cap (a + b) := by unfold cap; omega
theorem width_b (n : Int) : 0 ≤ width n ∧ width n ≤ 64 := wid_range 64 n
def szStep (p : Int × Int) (o : Bool) (s : Int × Int) : Int × Int := if o = true then (cap (p.1 + 1), cap (p.2 + 1 + s.2)) else (cap (p.1 + s.1), cap (p.2 + s.2))
mutual
/-- How many bits a type's values have, at least and at most. -/
def szT : Typ → Int × Int
  | .mk k nm lo hi o l =>
    if k = 0 then (1, 1)
    else if k = 2 then (cap (width (hi - lo) + 8 * lo), cap (width (hi - lo) + 8 * hi))
    else if k = 4 then szRow l (0, 0)
    else if k = 5 then (cap (width (l.length - 1) + (szAlt l (4503599627370496, 0)).1), cap (width (l.length - 1) + (szAlt l (4503599627370496, 0)).2))
    else if k = 6 then (cap (width (hi - lo) + (szHd l).1 * lo), cap (width (hi - lo) + (szHd l).2 * hi))
    else (width (hi - lo), width (hi - lo))
def szRow : List Typ → Int × Int → Int × Int
  | [], p => p
  | t :: ts, p => szRow ts (szStep p t.opt (szT t))
def szAlt : List Typ → Int × Int → Int × Int
  | [], p => p
  | t :: ts, p => szAlt ts (min p.1 (szT t).1, max p.2 (szT t).2)
def szHd : List Typ → Int × Int
  | [] => (0, 0)
  | t :: _ => szT t
end
theorem szT_eq (t : Typ) : szT t =
    (if t.kind = 0 then (1, 1)
    else if t.kind = 2 then (cap (width (t.hi - t.lo) + 8 * t.lo), cap (width (t.hi - t.lo) + 8 * t.hi))
    else if t.kind = 4 then szRow t.l (0, 0)
    else if t.kind = 5 then (cap (width (t.l.length - 1) + (szAlt t.l (4503599627370496, 0)).1), cap (width (t.l.length - 1) + (szAlt t.l (4503599627370496, 0)).2))
    else if t.kind = 6 then (cap (width (t.hi - t.lo) + (szHd t.l).1 * t.lo), cap (width (t.hi - t.lo) + (szHd t.l).2 * t.hi))
    else (width (t.hi - t.lo), width (t.hi - t.lo))) := by
  cases t
  rw [szT]
  rfl
def Bd (p : Int × Int) : Prop := (0 ≤ p.1 ∧ p.1 ≤ 4503599627370496) ∧ (0 ≤ p.2 ∧ p.2 ≤ 4503599627370496)
theorem szStep_b (p : Int × Int) (o : Bool) (s : Int × Int) : Bd (szStep p o s) := by
  unfold szStep
  split <;> exact ⟨cap_b _, cap_b _⟩
theorem szRow_b : ∀ (l : List Typ) (p : Int × Int), Bd p → Bd (szRow l p)
  | [], p, h => by rw [szRow]; exact h
  | t :: ts, p, h => by rw [szRow]; exact szRow_b ts _ (szStep_b _ _ _)
theorem szT_b (t : Typ) : Bd (szT t) := by
  rw [szT_eq]
  split
  · exact ⟨⟨by decide, by decide⟩, by decide, by decide⟩
  split
  · exact ⟨cap_b _, cap_b _⟩
  split
  · exact szRow_b _ _ ⟨⟨by decide, by decide⟩, by decide, by decide⟩
  split
  · exact ⟨cap_b _, cap_b _⟩
  split
  · exact ⟨cap_b _, cap_b _⟩
  · have := width_b (t.hi - t.lo)
    exact ⟨⟨this.1, by dsimp only; omega⟩, this.1, by dsimp only; omega⟩
theorem drop_eq {l : List Typ} {i : Nat} {t : Typ} (h : l[i]? = some t) : l.drop i = t :: l.drop (i + 1) := by
  obtain ⟨_, rfl⟩ := List.getElem?_eq_some_iff.1 h
  exact List.drop_eq_getElem_cons _
theorem okL_kid {row : Bool} : ∀ {l : List Typ} {sn : List ByteArray}, okL row l sn = true → ∀ x ∈ l, okT x = true
  | [], _, _, x, hx => by simp at hx
  | t :: ts, sn, h, x, hx => by
    rw [okL] at h
    simp only [Bool.and_eq_true] at h
    rcases List.mem_cons.1 hx with rfl | hx
    · exact h.2.1
    · exact okL_kid h.2.2 x hx
theorem okT_kid {t : Typ} (h : okT t = true) : ∀ x ∈ t.l, okT x = true := by
  intro x hx
  rw [okT_eq] at h
  have hp := List.length_pos_of_mem hx
  split at h
  · have := of_decide_eq_true h; omega
  split at h
  · have := of_decide_eq_true h; omega
  split at h
  · have := of_decide_eq_true h; omega
  split at h
  · have := of_decide_eq_true h; omega
  split at h
  · exact okL_kid (Bool.and_eq_true _ _ ▸ h).2 x hx
  split at h
  · exact okL_kid (Bool.and_eq_true _ _ ▸ h).2 x hx
  split at h
  · obtain ⟨h1, h2⟩ := (Bool.and_eq_true _ _).mp h
    have h1 := of_decide_eq_true h1
    match hl : t.l, hx, h1.2.2.2 with
    | [y], hx, _ =>
      rw [hl, okW] at h2
      obtain rfl : x = y := by simpa using hx
      exact ((Bool.and_eq_true _ _).mp h2).2
  · cases h
/-- What a right type's fields are. -/
theorem okT_cls {t : Typ} (h : okT t = true) : (t.kind = 0 ∧ t.lo = 0 ∧ t.hi = 0 ∧ t.l.length = 0) ∨ (t.kind = 7 ∧ t.lo = 0 ∧ t.hi = 0 ∧ t.l.length = 0)
    ∨ (t.kind = 1 ∧ -1099511627776 ≤ t.lo ∧ t.lo ≤ t.hi ∧ t.hi ≤ 1099511627776 ∧ t.l.length = 0)
    ∨ (t.kind = 2 ∧ 0 ≤ t.lo ∧ t.lo ≤ t.hi ∧ t.hi ≤ 255 ∧ t.l.length = 0) ∨ (t.kind = 3 ∧ t.lo = 0 ∧ 0 ≤ t.hi ∧ t.hi ≤ 255 ∧ t.l.length = 0)
    ∨ (t.kind = 4 ∧ t.lo = 0 ∧ t.hi = 0 ∧ t.l.length ≤ 20) ∨ (t.kind = 5 ∧ t.lo = 0 ∧ t.hi = 0 ∧ 0 < t.l.length ∧ t.l.length ≤ 20)
    ∨ (t.kind = 6 ∧ 0 ≤ t.lo ∧ t.lo ≤ t.hi ∧ t.hi ≤ 60 ∧ t.l.length = 1) := by
  rw [okT_eq] at h
  split at h
  · have := of_decide_eq_true h; omega
  split at h
  · have := of_decide_eq_true h; omega
  split at h
  · have := of_decide_eq_true h; omega
  split at h
  · have := of_decide_eq_true h; omega
  split at h
  · have := of_decide_eq_true (Bool.and_eq_true _ _ ▸ h).1; omega
  split at h
  · have := of_decide_eq_true (Bool.and_eq_true _ _ ▸ h).1; omega
  split at h
  · have := of_decide_eq_true (Bool.and_eq_true _ _ ▸ h).1; omega
  · cases h
end Go.Proofs.Ytepmllodaoanmaa
