import Derived.Test.YtepmllodaoanmaaK38
import Derived.Test.YtepmllodaoanmaaK36
set_option linter.unusedVariables false
set_option linter.unusedSimpArgs false
namespace Go.Proofs.Ytepmllodaoanmaa
open Go Go.AX
set_option maxHeartbeats 8000000
set_option maxRecDepth 20000
theorem wid_lt : ∀ (f : Nat) (n v : Int), 0 ≤ v → v ≤ n → n < 2 ^ f → v < 2 ^ (wid f n).toNat
  | 0, n, v, h1, h2, h3 => by
    have : (2 : Int) ^ 0 = 1 := rfl
    rw [wid]
    show v < 2 ^ 0
    omega
  | f + 1, n, v, h1, h2, h3 => by
    rw [wid]
    have hp : (2 : Int) ^ (f + 1) = 2 ^ f * 2 := Int.pow_succ ..
    split
    · have ih := wid_lt f (n / 2) (v / 2) (by omega) (by omega) (by omega)
      have hr := (wid_range f (n / 2)).1
      rw [show (1 + wid f (n / 2)).toNat = (wid f (n / 2)).toNat + 1 by omega, Int.pow_succ]
      omega
    · show v < 2 ^ 0
      have : (2 : Int) ^ 0 = 1 := rfl
      omega
theorem wid_le : ∀ (f k : Nat) (n : Int), n < 2 ^ k → wid f n ≤ k
  | 0, k, n, h => by rw [wid]; omega
  | f + 1, 0, n, h => by
    have : (2 : Int) ^ 0 = 1 := rfl
    rw [wid, if_neg (by omega)]
    omega
  | f + 1, k + 1, n, h => by
    have hp : (2 : Int) ^ (k + 1) = 2 ^ k * 2 := Int.pow_succ ..
    rw [wid]
    split
    · have := wid_le f k (n / 2) (by omega)
      omega
    · omega
theorem width_lt {n v : Int} (h1 : 0 ≤ v) (h2 : v ≤ n) (h3 : n < 281474976710656) : v < 2 ^ (width n).toNat := wid_lt 64 n v h1 h2 (by have : (2 : Int) ^ 64 = 18446744073709551616 := rfl; omega)
theorem width_48 {n : Int} (h3 : n < 281474976710656) : width n ≤ 48 := wid_le 64 48 n (by have : (2 : Int) ^ 48 = 281474976710656 := rfl; omega)
theorem width_0 (n : Int) : 0 ≤ width n := (wid_range 64 n).1
theorem put63I (p : Nat) (bs : List Int) (n u : Int) (hB : B01 bs) (hn : 0 ≤ n ∧ n ≤ 48) (hu : 0 ≤ u ∧ u < 2 ^ n.toNat) {sv : Value} {at_ : Nat} {full : Bool} {rows : List (List V)} (h : PkQ bs at_ full rows) :
    TriR Try.prog 63 [ptr p, int n, int u] [.box p 63 [.own sv, int at_, bool full], .vec sv 5 1 rows] fun v H' => v = .tup [] ∧ ∃ (sv' : Value) (at' : Nat) (full' : Bool) (rows' : List (List V)), H' = [.box p 63 [.own sv', int at', bool full'], .vec sv' 5 1 rows'] ∧ PkQ (bs ++ bitL u.toNat n.toNat) at' full' rows' := by
  have := put63Q p bs n.toNat u.toNat hB (by omega) (by
    have e : ((2 ^ n.toNat : Nat) : Int) = 2 ^ n.toNat := by simp
    omega) (sv := sv) h
  rwa [show ((n.toNat : Nat) : Int) = n by omega, show ((u.toNat : Nat) : Int) = u by omega] at this
/-- Which parts are there. -/
def optL : List Typ → List Dat → List Int
  | [], _ => []
  | t :: ts, ds => match ds with
    | [] => []
    | d :: ds => (if t.opt = true then [if d.set = true then 1 else 0] else []) ++ optL ts ds
def bytL (b : List Int) : List Int := (b.map fun c => bitL c.toNat 8).flatten
mutual
/-- The bits of a value by the packed rules. -/
def pkT : Typ → Dat → List Int
  | .mk k _ lo hi _ l, d =>
    if k = 0 then bitL d.n.toNat 1
    else if k = 1 ∨ k = 3 then bitL (d.n - lo).toNat (width (hi - lo)).toNat
    else if k = 2 then bitL (d.b.length - lo).toNat (width (hi - lo)).toNat ++ bytL d.b
    else if k = 4 then optL l d.l ++ pkRow l d.l
    else if k = 5 then bitL d.n.toNat (width (l.length - 1)).toNat ++ pkAt l d.n.toNat d.l
    else if k = 6 then bitL (d.l.length - lo).toNat (width (hi - lo)).toNat ++ pkHd l d.l
    else []
def pkRow : List Typ → List Dat → List Int
  | [], _ => []
  | t :: ts, ds => match ds with
    | [] => []
    | d :: ds => (if d.set = true then pkT t d else []) ++ pkRow ts ds
def pkAt : List Typ → Nat → List Dat → List Int
  | [], _, _ => []
  | t :: ts, n, ds => match n with
    | 0 => match ds with
      | [] => []
      | d :: _ => pkT t d
    | n + 1 => pkAt ts n ds
def pkHd : List Typ → List Dat → List Int
  | [], _ => []
  | t :: _, ds => (ds.map fun d => pkT t d).flatten
end
theorem pkT_eq (t : Typ) (d : Dat) : pkT t d = (if t.kind = 0 then bitL d.n.toNat 1
    else if t.kind = 1 ∨ t.kind = 3 then bitL (d.n - t.lo).toNat (width (t.hi - t.lo)).toNat
    else if t.kind = 2 then bitL (d.b.length - t.lo).toNat (width (t.hi - t.lo)).toNat ++ bytL d.b
    else if t.kind = 4 then optL t.l d.l ++ pkRow t.l d.l
    else if t.kind = 5 then bitL d.n.toNat (width (t.l.length - 1)).toNat ++ pkAt t.l d.n.toNat d.l
    else if t.kind = 6 then bitL (d.l.length - t.lo).toNat (width (t.hi - t.lo)).toNat ++ pkHd t.l d.l
    else []) := by
  cases t
  rw [pkT]
  rfl
theorem b01_nil : B01 [] := fun x hx => by cases hx
theorem b01_flat {l : List (List Int)} (h : ∀ x ∈ l, B01 x) : B01 l.flatten := fun y hy => by
  obtain ⟨x, hx, hy⟩ := List.mem_flatten.1 hy
  exact h x hx y hy
theorem optL_b : ∀ (l : List Typ) (ds : List Dat), B01 (optL l ds)
  | [], _ => b01_nil
  | t :: ts, [] => b01_nil
  | t :: ts, d :: ds => by
    rw [optL]
    refine b01_app ?_ (optL_b ts ds)
    split
    · intro x hx
      rw [List.mem_singleton.1 hx]
      split
      · exact .inr rfl
      · exact .inl rfl
    · exact b01_nil
theorem bytL_b (b : List Int) : B01 (bytL b) := b01_flat fun x hx => by
  obtain ⟨c, _, rfl⟩ := List.mem_map.1 hx
  exact bitL_b _ _
mutual
theorem pkT_b : ∀ (t : Typ) (d : Dat), B01 (pkT t d)
  | .mk k nm lo hi o l, d => by
    have h1 := pkRow_b l d.l
    have h2 := pkAt_b l d.n.toNat d.l
    have h3 := pkHd_b l d.l
    rw [pkT]
    repeat' split
    · exact bitL_b _ _
    · exact bitL_b _ _
    · exact b01_app (bitL_b _ _) (bytL_b _)
    · exact b01_app (optL_b _ _) h1
    · exact b01_app (bitL_b _ _) h2
    · exact b01_app (bitL_b _ _) h3
    · exact b01_nil
theorem pkRow_b : ∀ (l : List Typ) (ds : List Dat), B01 (pkRow l ds)
  | [], _ => b01_nil
  | t :: ts, [] => b01_nil
  | t :: ts, d :: ds => by
    rw [pkRow]
    refine b01_app ?_ (pkRow_b ts ds)
    split
    · exact pkT_b t d
    · exact b01_nil
theorem pkAt_b : ∀ (l : List Typ) (n : Nat) (ds : List Dat), B01 (pkAt l n ds)
  | [], _, _ => b01_nil
  | t :: ts, 0, [] => b01_nil
  | t :: ts, 0, d :: _ => by rw [pkAt]; exact pkT_b t d
  | t :: ts, n + 1, ds => by rw [pkAt]; exact pkAt_b ts n ds
theorem pkHd_b : ∀ (l : List Typ) (ds : List Dat), B01 (pkHd l ds)
  | [], _ => b01_nil
  | t :: _, ds => by
    rw [pkHd]
    refine b01_flat fun x hx => ?_
    obtain ⟨d, _, rfl⟩ := List.mem_map.1 hx
    exact pkT_b t d
end
theorem optL_take : ∀ {l : List Typ} {ds : List Dat} {i : Nat} {t : Typ} {d : Dat}, l[i]? = some t → ds[i]? = some d → optL (l.take (i + 1)) (ds.take (i + 1)) = optL (l.take i) (ds.take i) ++ (if t.opt = true then [if d.set = true then 1 else 0] else [])
  | [], _, i, t, d, h, _ => by simp at h
  | u :: l, [], i, t, d, _, h => by simp at h
  | u :: l, e :: ds, 0, t, d, h, h2 => by
    simp at h h2
    subst h h2
    simp only [List.take_succ_cons, List.take_zero, optL, List.nil_append, List.append_nil]
  | u :: l, e :: ds, i + 1, t, d, h, h2 => by
    have := optL_take (l := l) (ds := ds) (i := i) (by simpa using h) (by simpa using h2)
    simp only [List.take_succ_cons, optL, List.append_assoc] at this ⊢
    rw [this]
theorem pkRow_take : ∀ {l : List Typ} {ds : List Dat} {i : Nat} {t : Typ} {d : Dat}, l[i]? = some t → ds[i]? = some d → pkRow (l.take (i + 1)) (ds.take (i + 1)) = pkRow (l.take i) (ds.take i) ++ (if d.set = true then pkT t d else [])
  | [], _, i, t, d, h, _ => by simp at h
  | u :: l, [], i, t, d, _, h => by simp at h
  | u :: l, e :: ds, 0, t, d, h, h2 => by
    simp at h h2
    subst h h2
    simp only [List.take_succ_cons, List.take_zero, pkRow, List.nil_append, List.append_nil]
  | u :: l, e :: ds, i + 1, t, d, h, h2 => by
    have := pkRow_take (l := l) (ds := ds) (i := i) (by simpa using h) (by simpa using h2)
    simp only [List.take_succ_cons, pkRow, List.append_assoc] at this ⊢
    rw [this]
theorem flat_take {α : Type} {l : List α} {f : α → List Int} {i : Nat} {c : α} (h : l[i]? = some c) : ((l.take (i + 1)).map f).flatten = ((l.take i).map f).flatten ++ f c := by
  obtain ⟨g, rfl⟩ := List.getElem?_eq_some_iff.1 h
  rw [List.take_succ_eq_append_getElem g, List.map_append, List.flatten_append]
  simp
theorem pkAt_eq : ∀ {l : List Typ} {n : Nat} {ds : List Dat} {t : Typ} {d : Dat}, l[n]? = some t → ds[0]? = some d → pkAt l n ds = pkT t d
  | [], n, ds, t, d, h, _ => by simp at h
  | u :: l, 0, [], t, d, h, h2 => by simp at h2
  | u :: l, 0, e :: ds, t, d, h, h2 => by
    simp at h h2
    subst h h2
    rw [pkAt]
  | u :: l, n + 1, ds, t, d, h, h2 => by
    rw [pkAt]
    exact pkAt_eq (by simpa using h) h2
end Go.Proofs.Ytepmllodaoanmaa
