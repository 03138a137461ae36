import Derived.Test.YtobablbklkpchaaK28
import Derived.Test.YtobablbklkpchaaK25
set_option linter.unusedVariables false
set_option linter.unusedSimpArgs false
namespace Go.Proofs.Ytobablbklkpchaa
open Go Go.AX
set_option maxHeartbeats 1000000
/-! ### Runs over nodes -/
/-- What a node does: the run ends, or goes on at a place. -/
def stp (real : Int) (data : List Int) (n : Nd) (m : M) : Bool ⊕ (Nat × M) :=
  if n.i.op = 32 then .inl (decide (n.i.k ≠ 0))
  else if n.i.op = 31 then .inr (n.yes.toNat, m)
  else if isJp n.i then .inr ((if jmp n.i m then n.yes else n.no).toNat, m)
  else if (exec real data n.i m).dead then .inl false
  else .inr (n.yes.toNat, exec real data n.i m)
inductive Rn (real : Int) (data : List Int) (l : List Nd) : Nat → M → Bool → Nat → Prop
  | fin {a : Nat} {m : M} {n : Nd} {t : Bool} : l[a]? = some n → stp real data n m = .inl t → Rn real data l a m t 1
  | go {a b : Nat} {m m' : M} {n : Nd} {t : Bool} {c : Nat} : l[a]? = some n → stp real data n m = .inr (b, m') → Rn real data l b m' t c → Rn real data l a m t (c + 1)
section
variable {real : Int} {data : List Int}
theorem Rn.inv_go {l : List Nd} {a b : Nat} {m m' : M} {n : Nd} {t : Bool} {c : Nat} (h : Rn real data l a m t c) (hn : l[a]? = some n) (hs : stp real data n m = .inr (b, m')) : ∃ c0, c = c0 + 1 ∧ Rn real data l b m' t c0 := by
  cases h with
  | fin h1 h2 => rw [hn] at h1; cases h1; rw [hs] at h2; cases h2
  | go h1 h2 h3 => rw [hn] at h1; cases h1; rw [hs] at h2; cases h2; exact ⟨_, rfl, h3⟩
theorem Rn.inv_fin {l : List Nd} {a : Nat} {m : M} {n : Nd} {t u : Bool} {c : Nat} (h : Rn real data l a m t c) (hn : l[a]? = some n) (hs : stp real data n m = .inl u) : c = 1 ∧ t = u := by
  cases h with
  | fin h1 h2 => rw [hn] at h1; cases h1; rw [hs] at h2; cases h2; exact ⟨rfl, rfl⟩
  | go h1 h2 h3 => rw [hn] at h1; cases h1; rw [hs] at h2; cases h2
theorem Rn.node {l : List Nd} {a : Nat} {m : M} {t : Bool} {c : Nat} (h : Rn real data l a m t c) : ∃ n, l[a]? = some n := by
  cases h with
  | fin h1 _ => exact ⟨_, h1⟩
  | go h1 _ _ => exact ⟨_, h1⟩
theorem Rn.det {l : List Nd} {a : Nat} {m : M} {t u : Bool} {c d : Nat} (h : Rn real data l a m t c) (k : Rn real data l a m u d) : t = u ∧ c = d := by
  induction h generalizing d with
  | fin h1 h2 =>
    obtain ⟨rfl, rfl⟩ := k.inv_fin h1 h2
    exact ⟨rfl, rfl⟩
  | go h1 h2 _ ih =>
    obtain ⟨c0, rfl, k0⟩ := k.inv_go h1 h2
    obtain ⟨rfl, rfl⟩ := ih k0
    exact ⟨rfl, rfl⟩
/-- As good a run: as long at most. -/
def Rle (real : Int) (data : List Int) (l : List Nd) (a : Nat) (m : M) (t : Bool) (c : Nat) : Prop := ∃ c', c' ≤ c ∧ Rn real data l a m t c'
theorem stp_ret {n : Nd} {m : M} (h : n.i.op = 32) : stp real data n m = .inl (decide (n.i.k ≠ 0)) := by
  unfold stp
  rw [if_pos h]
theorem stp_jump {n : Nd} {m : M} (h : plainN n) : stp real data n m = .inr (n.yes.toNat, m) := by
  unfold stp
  rcases h with h | ⟨h, e⟩
  · rw [if_neg (by omega), if_pos h]
  · rw [if_neg (by simp only [isJp] at h; omega), if_neg (by simp only [isJp] at h; omega), if_pos h, ← e]
    simp
theorem stp_cond {n : Nd} {m : M} (h : isJp n.i) : stp real data n m = .inr ((if jmp n.i m then n.yes else n.no).toNat, m) := by
  unfold stp
  rw [if_neg (by simp only [isJp] at h; omega), if_neg (by simp only [isJp] at h; omega), if_pos h]
theorem jmp_same {i j : Ins} {m : M} (h1 : i.op = j.op) (h2 : i.k = j.k) : jmp i m = jmp j m := by simp only [jmp, h1, h2]
theorem thr_run {l : List Nd} {test : Ins} {is : Bool} {m : M} {t : Bool} (hj : isJp test → is = jmp test m) : ∀ (f : Nat) (to : Int) (c : Nat), Rn real data l to.toNat m t c → Rle real data l (thr l test is f to).toNat m t c
  | 0, to, c, h => ⟨c, Nat.le_refl _, h⟩
  | f + 1, to, c, h => by
    rw [thr]
    split
    · exact ⟨c, Nat.le_refl _, h⟩
    · rename_i n hn
      split
      · rename_i hp
        obtain ⟨c0, rfl, h0⟩ := h.inv_go hn (stp_jump hp)
        obtain ⟨c1, h1, h2⟩ := thr_run hj f _ c0 h0
        exact ⟨c1, by omega, h2⟩
      · split
        · rename_i hp
          obtain ⟨c0, rfl, h0⟩ := h.inv_go hn (stp_cond hp.1)
          rw [jmp_same hp.2.1 hp.2.2, ← hj (by simp only [isJp] at hp ⊢; omega)] at h0
          obtain ⟨c1, h1, h2⟩ := thr_run hj f _ c0 h0
          exact ⟨c1, by omega, h2⟩
        · exact ⟨c, Nat.le_refl _, h⟩
theorem set_run {l : List Nd} {k : Nat} {n n' : Nd} (hk : l[k]? = some n) (h1 : ∀ m t, stp real data n m = .inl t → stp real data n' m = .inl t)
    (h2 : ∀ m b m' t c, stp real data n m = .inr (b, m') → Rn real data l b m' t c → ∃ b', stp real data n' m = .inr (b', m') ∧ Rle real data l b' m' t c) :
    ∀ (c : Nat) (a : Nat) (m : M) (t : Bool), Rn real data l a m t c → Rle real data (l.set k n') a m t c := by
  intro c
  induction c using Nat.strongRecOn with
  | _ c ih =>
    intro a m t h
    have hset : ∀ q, (l.set k n')[q]? = if k = q then some n' else l[q]? := fun q => by
      rw [List.getElem?_set]
      split
      · rename_i e; subst e; rw [if_pos (List.getElem?_eq_some_iff.1 hk).1]
      · rfl
    cases h with
    | fin g1 g2 =>
      by_cases e : k = a
      · subst e
        rw [hk] at g1
        cases g1
        exact ⟨1, Nat.le_refl _, .fin (by rw [hset, if_pos rfl]) (h1 _ _ g2)⟩
      · exact ⟨1, Nat.le_refl _, .fin (by rw [hset, if_neg e]; exact g1) g2⟩
    | @go _ b _ m' n0 _ c0 g1 g2 g3 =>
      by_cases e : k = a
      · subst e
        rw [hk] at g1
        cases g1
        obtain ⟨b', g4, c1, g5, g6⟩ := h2 _ _ _ _ _ g2 g3
        obtain ⟨c2, g7, g8⟩ := ih c1 (by omega) _ _ _ g6
        exact ⟨c2 + 1, by omega, .go (by rw [hset, if_pos rfl]) g4 g8⟩
      · obtain ⟨c2, g7, g8⟩ := ih c0 (by omega) _ _ _ g3
        exact ⟨c2 + 1, by omega, .go (by rw [hset, if_neg e]; exact g1) g2 g8⟩
theorem Rle.refl {l : List Nd} {a : Nat} {m : M} {t : Bool} {c : Nat} (h : Rn real data l a m t c) : Rle real data l a m t c := ⟨c, Nat.le_refl _, h⟩
theorem set_yes_run {l : List Nd} {k : Nat} {n : Nd} (f : Nat) (hk : l[k]? = some n) (hc : n.i.op = 31 ∨ isJp n.i) {c a : Nat} {m : M} {t : Bool} (h : Rn real data l a m t c) :
    Rle real data (l.set k { n with yes := thr l n.i true f n.yes }) a m t c := by
  refine set_run hk (fun m t hs => ?_) (fun m b m' t c hs hr => ?_) c a m t h
  · rcases hc with hc | hc
    · rw [stp_jump (.inl hc)] at hs; cases hs
    · rw [stp_cond hc] at hs; cases hs
  · rcases hc with hc | hc
    · rw [stp_jump (.inl hc)] at hs
      cases hs
      exact ⟨_, stp_jump (.inl hc), thr_run (fun h => by simp only [isJp] at h; omega) f _ c hr⟩
    · rw [stp_cond hc] at hs
      cases hs
      refine ⟨_, stp_cond hc, ?_⟩
      dsimp only
      cases e : jmp n.i m
      · rw [e] at hr
        exact .refl (by simpa using hr)
      · rw [e] at hr
        exact thr_run (fun _ => e.symm) f _ c (by simpa using hr)
theorem set_no_run {l : List Nd} {k : Nat} {n : Nd} (f : Nat) (hk : l[k]? = some n) (hc : isJp n.i) {c a : Nat} {m : M} {t : Bool} (h : Rn real data l a m t c) :
    Rle real data (l.set k { n with no := thr l n.i false f n.no }) a m t c := by
  refine set_run hk (fun m t hs => ?_) (fun m b m' t c hs hr => ?_) c a m t h
  · rw [stp_cond hc] at hs; cases hs
  · rw [stp_cond hc] at hs
    cases hs
    refine ⟨_, stp_cond hc, ?_⟩
    dsimp only
    cases e : jmp n.i m
    · rw [e] at hr
      exact thr_run (fun _ => e.symm) f _ c (by simpa using hr)
    · rw [e] at hr
      exact .refl (by simpa using hr)
theorem Rle.bind {l l' : List Nd} {a : Nat} {m : M} {t : Bool} {c : Nat} (h : Rle real data l a m t c) (k : ∀ c, Rn real data l a m t c → Rle real data l' a m t c) : Rle real data l' a m t c := by
  obtain ⟨c1, h1, h2⟩ := h
  obtain ⟨c2, h3, h4⟩ := k c1 h2
  exact ⟨c2, by omega, h4⟩
theorem shTo_run {l : List Nd} {a : Nat} {m : M} {t : Bool} {c : Nat} (h : Rn real data l a m t c) : ∀ k, Rle real data (shTo l k) a m t c
  | 0 => .refl h
  | k + 1 => by
    refine (shTo_run h k).bind fun c h => ?_
    rw [shTo]
    split
    · rename_i n hn
      generalize shTo l k = g at *
      unfold shN
      split
      · rename_i hc
        have hY : Rle real data (g.set k (shY g k n)) a m t c := by
          unfold shY
          split
          · exact set_yes_run _ hn hc h
          · rw [set_same hn]; exact .refl h
        split
        · rename_i hc2
          refine hY.bind fun c h => ?_
          have hlt := (List.getElem?_eq_some_iff.1 hn).1
          have hk : (g.set k (shY g k n))[k]? = some (shY g k n) := by rw [List.getElem?_set_self hlt]
          have e1 := (shY_i g k n).1
          have e2 := (shY_i g k n).2.1
          have := set_no_run g.length hk (by rw [e1]; exact hc2.1) h
          have e3 : thr (g.set k (shY g k n)) (shY g k n).i false g.length (shY g k n).no = thr (g.set k (shY g k n)) n.i false g.length n.no := by rw [e1, e2]
          rw [List.set_set, e3] at this
          exact this
        · exact hY
      · rw [set_same hn]; exact .refl h
    · exact .refl h
/-- Nodes that differ in their marks alone. -/
def bare (n : Nd) : Nd := { n with rb := false }
theorem stp_bare (n : Nd) (m : M) : stp real data (bare n) m = stp real data n m := rfl
theorem bare_run {l l' : List Nd} (e : l.map bare = l'.map bare) {a : Nat} {m : M} {t : Bool} {c : Nat} (h : Rn real data l a m t c) : Rn real data l' a m t c := by
  have hb : ∀ (a : Nat) (n : Nd), l[a]? = some n → ∃ n', l'[a]? = some n' ∧ bare n' = bare n := fun a n hn => by
    have h1 : (l.map bare)[a]? = some (bare n) := by simp [hn]
    rw [e, List.getElem?_map] at h1
    cases h2 : l'[a]? with
    | none => rw [h2] at h1; cases h1
    | some n' => rw [h2] at h1; exact ⟨n', rfl, by simpa using h1⟩
  induction h with
  | fin h1 h2 =>
    obtain ⟨n', h3, h4⟩ := hb _ _ h1
    exact .fin h3 (by rw [← stp_bare, h4, stp_bare, h2])
  | go h1 h2 _ ih =>
    obtain ⟨n', h3, h4⟩ := hb _ _ h1
    exact .go h3 (by rw [← stp_bare, h4, stp_bare, h2]) ih
theorem setR_bare (l : List Nd) (q : Nat) : (setR l q).map bare = l.map bare := by
  unfold setR
  split
  · rename_i n hn
    rw [List.map_set]
    exact set_same (by simp [hn, bare])
  · rfl
theorem mkS_bare (l : List Nd) (n : Nd) : (mkS l n).map bare = l.map bare := by
  unfold mkS
  repeat' split
  · rfl
  · rw [setR_bare, setR_bare]
  · rw [setR_bare]
theorem mkTo_bare (l : List Nd) : ∀ k, (mkTo l k).map bare = l.map bare
  | 0 => setR_bare l 0
  | k + 1 => by
    rw [mkTo]
    split
    · rw [mkS_bare, mkTo_bare l k]
    · exact mkTo_bare l k
end
end Go.Proofs.Ytobablbklkpchaa
