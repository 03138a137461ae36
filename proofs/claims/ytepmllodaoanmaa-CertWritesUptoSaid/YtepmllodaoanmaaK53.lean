import Derived.Test.YtepmllodaoanmaaK52
set_option linter.unusedVariables false
set_option linter.unusedSimpArgs false
namespace Go.Proofs.Ytepmllodaoanmaa
open Go Go.AX
set_option maxHeartbeats 8000000
set_option maxRecDepth 20000
/-- The tag of a value. -/
def tagOf (t : Typ) (d : Dat) : Int := if t.kind = 0 then 1 else if t.kind = 1 then 2 else if t.kind = 2 then 4 else if t.kind = 3 then 10 else if t.kind = 4 then 48 else if t.kind = 5 then 160 + d.n else if t.kind = 6 then 49 else 5
mutual
/-- The body of a value by the basic rules. -/
def bodyT : Typ → Dat → List Int
  | .mk k _ _ _ _ l, d =>
    if k = 0 then [255 * d.n % 256]
    else if k = 1 ∨ k = 3 then numL d.n
    else if k = 2 then d.b
    else if k = 4 then rowB l d.l 0
    else if k = 5 then basAt l d.n.toNat d.l
    else if k = 6 then basHd l d.l
    else []
def rowB : List Typ → List Dat → Nat → List Int
  | [], _, _ => []
  | t :: ts, ds, i => match ds with
    | [] => []
    | d :: ds => (if d.set = true then tagd (128 + i) (if t.kind = 5 then tagd (tagOf t d) (bodyT t d) else bodyT t d) else []) ++ rowB ts ds (i + 1)
def basAt : List Typ → Nat → List Dat → List Int
  | [], _, _ => []
  | t :: ts, n, ds => match n with
    | 0 => match ds with
      | [] => []
      | d :: _ => tagd (tagOf t d) (bodyT t d)
    | n + 1 => basAt ts n ds
def basHd : List Typ → List Dat → List Int
  | [], _ => []
  | t :: _, ds => (ds.map fun d => tagd (tagOf t d) (bodyT t d)).flatten
end
/-- A value by the basic rules. -/
def basT (t : Typ) (d : Dat) : List Int := tagd (tagOf t d) (bodyT t d)
theorem bodyT_eq (t : Typ) (d : Dat) : bodyT t d = (if t.kind = 0 then [255 * d.n % 256]
    else if t.kind = 1 ∨ t.kind = 3 then numL d.n
    else if t.kind = 2 then d.b
    else if t.kind = 4 then rowB t.l d.l 0
    else if t.kind = 5 then basAt t.l d.n.toNat d.l
    else if t.kind = 6 then basHd t.l d.l
    else []) := by
  cases t
  rw [bodyT]
  rfl
/-- What stands of a part in a row. -/
def partB (t : Typ) (d : Dat) (i : Nat) : List Int := if d.set = true then tagd (128 + i) (if t.kind = 5 then basT t d else bodyT t d) else []
theorem rowB_take : ∀ {l : List Typ} {ds : List Dat} {i k : Nat} {t : Typ} {d : Dat}, l[i]? = some t → ds[i]? = some d → rowB (l.take (i + 1)) (ds.take (i + 1)) k = rowB (l.take i) (ds.take i) k ++ partB t d (k + i)
  | [], _, i, k, t, d, h, _ => by simp at h
  | u :: l, [], i, k, t, d, _, h => by simp at h
  | u :: l, e :: ds, 0, k, t, d, h, h2 => by
    simp at h h2
    subst h h2
    simp only [List.take_succ_cons, List.take_zero, rowB, List.nil_append, List.append_nil]
    rfl
  | u :: l, e :: ds, i + 1, k, t, d, h, h2 => by
    have := rowB_take (l := l) (ds := ds) (i := i) (k := k + 1) (by simpa using h) (by simpa using h2)
    simp only [List.take_succ_cons, rowB, List.append_assoc] at this ⊢
    rw [this, show k + (i + 1) = k + 1 + i by omega]
theorem basAt_eq : ∀ {l : List Typ} {n : Nat} {ds : List Dat} {t : Typ} {d : Dat}, l[n]? = some t → ds[0]? = some d → basAt l n ds = basT t d
  | [], n, ds, t, d, h, _ => by simp at h
  | u :: l, 0, [], t, d, h, h2 => by simp at h2
  | u :: l, 0, e :: ds, t, d, h, h2 => by
    simp at h h2
    subst h h2
    rw [basAt]
    rfl
  | u :: l, n + 1, ds, t, d, h, h2 => by
    rw [basAt]
    exact basAt_eq (by simpa using h) h2
theorem tagd_ge (tag : Int) (b : List Int) : b.length < (tagd tag b).length := by
  rw [tagd, List.length_cons, List.length_append]
  omega
end Go.Proofs.Ytepmllodaoanmaa
