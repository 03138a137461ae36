import Derived.Test.YtepmllodaoanmaaK18
set_option linter.unusedVariables false
set_option linter.unusedSimpArgs false
namespace Go.AX
open Go Go.AX
variable {P : Program} {N : Nat} {j : J P N} {s : Sl} {H : List Ch}
/-- A variable's part becomes what says less. -/
theorem st_box_le {a : Act} {w : World} {b B i : Nat} {v v' : V} {cells : List V} {H2 : List Ch} (hi : cells[i]? = some v) (hle : V.Le v v') (hu : Upd (.box b B cells) (.box b B (cells.set i v')) H H2) (st : St j s H a w) : St j s H2 a w := by
  obtain ⟨t, h1, h2⟩ := hu.split
  have st1 := st.perm h1
  have hb : blks (Ch.box b B (cells.set i v') :: t ++ j.F) = blks (Ch.box b B cells :: t ++ j.F) := rfl
  have ho : own (Ch.box b B (cells.set i v') :: t ++ j.F) = own (Ch.box b B cells :: t ++ j.F) := by unfold own; rw [hb]
  have ho' : own (Ch.box b B (cells.set i v') :: t) = own (Ch.box b B cells :: t) := rfl
  have st2 : St j s (Ch.box b B (cells.set i v') :: t) a w := by
    refine ⟨?_, ⟨?_, fun c hcm => ?_⟩, ?_, st1.df⟩
    · rw [ho]; exact st1.sl
    · rw [hb]; exact st1.hp.nd
    · rw [ho]
      rcases List.mem_cons.1 hcm with rfl | hcm
      · obtain ⟨l, k1, k2, k3⟩ := st1.hp.sat _ (List.mem_cons_self ..)
        obtain ⟨x, hx, hx2⟩ := concL_get k2 i _ hi
        have k4 := concL_set k2 i v' x (hle _ _ _ hx2)
        rw [show l.set i x = l by
          obtain ⟨h, rfl⟩ := List.getElem?_eq_some_iff.1 hx
          exact List.set_getElem_self _] at k4
        exact ⟨l, k1, k4, k3⟩
      · exact st1.hp.sat _ (List.mem_cons_of_mem _ hcm)
    · rw [ho']; exact st1.evo
  exact st2.perm h2.symm
theorem retok_box_le {fn : Func} {K : V → List Ch → Prop} {b B : Nat} {v v' : V} {cells : List V} {H2 : List Ch} (i : Nat) (hu : Upd (.box b B cells) (.box b B (cells.set i v')) H H2) (hi : cells[i]? = some v) (hle : V.Le v v') (h : RetOk j fn s H2 K) : RetOk j fn s H K :=
  fun a w st => h a w (st_box_le hi hle hu st)
theorem aw_box_le {Q : Exit → Sl → List Ch → Prop} {c : Code} {b B : Nat} {v v' : V} {cells : List V} {H2 : List Ch} (i : Nat) (hu : Upd (.box b B cells) (.box b B (cells.set i v')) H H2) (hi : cells[i]? = some v) (hle : V.Le v v') (h : AW j c Q s H2) : AW j c Q s H :=
  aw_weak (fun a w st => st_box_le hi hle hu st) h
theorem retok_box_freeze {fn : Func} {K : V → List Ch → Prop} {b B E k : Nat} {sv : Value} {cells : List V} {rows : List (List V)} {H1 H2 : List Ch} (i : Nat) (ht : Take (.vec sv E k rows) H H1) (hu : Upd (.box b B cells) (.box b B (cells.set i (.ro rows))) H1 H2) (hi : cells[i]? = some (.own sv)) (h : RetOk j fn s H2 K) : RetOk j fn s H K :=
  fun a w st => h a w (st_box_freeze ht hi hu st)
theorem aw_vec_nil {Q : Exit → Sl → List Ch → Prop} {c : Code} (E k : Nat) (h : AW j c Q s (.vec (.slice none 0 0) E k [] :: H)) : AW j c Q s H := aw_weak (fun a w st => st_vec_nil st E k) h
end Go.AX
namespace Go.Proofs.Ytepmllodaoanmaa
open Go Go.AX
set_option maxHeartbeats 8000000
set_option maxRecDepth 20000
attribute [local irreducible] AW RL OP PureV ValV HV DL Tri TriR Fun RetOk ResV
/-- A value of the notation. -/
inductive Dat where
  | mk (kind n : Int) (b : List Int) (set : Bool) (l : List Dat)
def Dat.kind : Dat → Int | .mk k _ _ _ _ => k
def Dat.n : Dat → Int | .mk _ n _ _ _ => n
def Dat.b : Dat → List Int | .mk _ _ b _ _ => b
def Dat.set : Dat → Bool | .mk _ _ _ s _ => s
def Dat.l : Dat → List Dat | .mk _ _ _ _ l => l
mutual
def Dat.cells : Dat → List V
  | .mk k n b s l => [int k, int n, .ro (b.map br), bool s, .ro (drows l)]
def drows : List Dat → List (List V)
  | [] => []
  | t :: ts => t.cells :: drows ts
end
theorem drows_eq : ∀ l, drows l = l.map Dat.cells
  | [] => by rw [drows]; rfl
  | t :: ts => by rw [drows, drows_eq ts]; rfl
theorem dcells_eq (t : Dat) : t.cells = [int t.kind, int t.n, .ro (t.b.map br), bool t.set, .ro (t.l.map Dat.cells)] := by
  cases t
  rw [Dat.cells, drows_eq]
  rfl
theorem dcells_len (t : Dat) : t.cells.length = 5 := by rw [dcells_eq]; rfl
def D00 : Dat := .mk 0 0 [] false []
mutual
/-- The least value of a type. -/
def lstT : Typ → Dat
  | .mk k nm lo hi o l =>
    .mk k (if k = 1 then lo else 0) (if k = 2 then List.replicate lo.toNat 0 else []) true
      (if k = 4 then lstRow l else if k = 5 then lstHd l 1 else if k = 6 then lstHd l lo.toNat else [])
def lstRow : List Typ → List Dat
  | [] => []
  | t :: ts => (if t.opt = true then D00 else lstT t) :: lstRow ts
def lstHd : List Typ → Nat → List Dat
  | [], _ => []
  | t :: _, n => List.replicate n (lstT t)
end
theorem lstT_eq (t : Typ) : lstT t = .mk t.kind (if t.kind = 1 then t.lo else 0) (if t.kind = 2 then List.replicate t.lo.toNat 0 else []) true
      (if t.kind = 4 then lstRow t.l else if t.kind = 5 then lstHd t.l 1 else if t.kind = 6 then lstHd t.l t.lo.toNat else []) := by
  cases t
  rw [lstT]
  rfl
theorem lstRow_take {l : List Typ} {i : Nat} {x : Typ} (h : l[i]? = some x) : lstRow (l.take (i + 1)) = lstRow (l.take i) ++ [if x.opt = true then D00 else lstT x] := by
  induction l generalizing i with
  | nil => simp at h
  | cons y l ih =>
    cases i with
    | zero =>
      simp at h
      subst h
      simp [lstRow]
    | succ i =>
      simp only [List.take_succ_cons, lstRow]
      rw [ih (by simpa using h)]
      rfl
theorem lstRow_len : ∀ l, (lstRow l).length = l.length
  | [] => rfl
  | t :: ts => by rw [lstRow, List.length_cons, lstRow_len ts]; rfl
end Go.Proofs.Ytepmllodaoanmaa
