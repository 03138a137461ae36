import Derived.Test.YtepmllodaoanmaaK24
import Derived.Test.YtepmllodaoanmaaAx0
import Derived.Test.YtepmllodaoanmaaRows
set_option linter.unusedVariables false
set_option linter.unusedSimpArgs false
set_option maxRecDepth 20000
namespace Go.Proofs.Ytepmllodaoanmaa
open Go Go.AX Go.RowKit Go.ChangeShapes Go.ChangeAt Go.WideShapes
section
variable {H : Type} {enc : TypeId × Value → H} {w : World}
theorem te3 : Try.prog.cellsOf 3 = 1 := by kernel_rfl
theorem te4 : Try.prog.cellsOf 4 = 1 := by kernel_rfl
theorem te9 : Try.prog.cellsOf 9 = 1 := by kernel_rfl
theorem te22 : Try.prog.cellsOf 22 = 1 := by kernel_rfl
theorem te24 : Try.prog.cellsOf 24 = 6 := by kernel_rfl
theorem bulk_pos {H : Type} (d : DataW H) : 1 ≤ Rows.uptoBulk d := by
  cases d with
  | lit l => cases l <;> simp [Rows.uptoBulk]
  | _ => simp [Rows.uptoBulk]
theorem rows_typs : ∀ {rows : List (List V)} {ds : List (DataW H)}, ds.length = rows.length → (∀ (i : Nat) d r, ds[i]? = some d → rows[i]? = some r → ∃ t : Typ, r = t.cells ∧ t.wt ≤ Rows.uptoBulk d) → ∃ ts : List Typ, rows = ts.map Typ.cells ∧ wtL ts ≤ Rows.uptoBulkAll ds
  | [], [], _, _ => ⟨[], by simp, by simp [wtL]⟩
  | r :: rows, d :: ds, hl, h => by
    obtain ⟨t, rfl, ht⟩ := h 0 d r rfl rfl
    obtain ⟨ts, rfl, hts⟩ := rows_typs (rows := rows) (ds := ds) (by simpa using hl) fun i d r h1 h2 => h (i + 1) d r (by simpa using h1) (by simpa using h2)
    exact ⟨t :: ts, by simp, by simp only [wtL, Rows.uptoBulkAll]; omega⟩
theorem bulk_two {l : List (DataW H)} {a b : DataW H} (h1 : l[1]? = some a) (h5 : l[5]? = some b) : Rows.uptoBulk a + Rows.uptoBulk b ≤ Rows.uptoBulkAll l := by
  match l, h1, h5 with
  | x0 :: x1 :: x2 :: x3 :: x4 :: x5 :: r, h1, h5 =>
    simp at h1 h5
    subst h1 h5
    simp only [Rows.uptoBulkAll]
    omega
theorem rdTyp : ∀ (k : Nat) (d : DataW H), SizeOf.sizeOf d < k → ∀ (fuel : Nat) (cs : List Value) (ps : List MemPlace), DataW.trod enc Try.prog w 0 (fun _ => true) true fuel 24 cs = some (d, ps) → ∃ t : Typ, t.wt ≤ Rows.uptoBulk d ∧ Rdg w cs t.cells := by
  intro k
  induction k with
  | zero => intro d hd; omega
  | succ k ih =>
    intro d hk fuel cs ps h
    obtain ⟨hlen, n, xs, hd, hxl, hf⟩ := rd_struct Try.underlying24 h
    rw [te24] at hlen
    obtain ⟨d0, _, _, r0⟩ := hf 0 _ rfl
    obtain ⟨d1, _, m1, r1⟩ := hf 1 _ rfl
    obtain ⟨d2, _, _, r2⟩ := hf 2 _ rfl
    obtain ⟨d3, _, _, r3⟩ := hf 3 _ rfl
    obtain ⟨d4, _, _, r4⟩ := hf 4 _ rfl
    obtain ⟨d5, _, m5, r5⟩ := hf 5 _ rfl
    obtain ⟨kd, _, _, q0⟩ := rd_int Try.underlying3 r0
    obtain ⟨nm, x1, y1, q1⟩ := rd_string Try.underlying9 r1
    obtain ⟨lo, _, _, q2⟩ := rd_int Try.underlying3 r2
    obtain ⟨hi, _, _, q3⟩ := rd_int Try.underlying3 r3
    obtain ⟨op, _, q4⟩ := rd_bool Try.underlying4 r4
    have hs5 : SizeOf.sizeOf d5 < SizeOf.sizeOf d := by
      rw [hd]
      have := List.sizeOf_lt_of_mem (List.mem_of_getElem? m5)
      simp only [DataW.agg.sizeOf_spec]
      omega
    obtain ⟨rows, ds, spare, q5, hl, hre, _, _, hd5⟩ := rd_slice (Re := fun d r => ∃ t : Typ, r = t.cells ∧ t.wt ≤ Rows.uptoBulk d) Try.underlying22 (by rw [te24]; decide) r5 fun d' hd' fuel cs ps h' => by
      obtain ⟨t, ht, q⟩ := ih d' (by omega) _ _ _ h'
      exact ⟨_, ⟨t, rfl, ht⟩, q⟩
    obtain ⟨ts, rfl, hts⟩ := rows_typs hl hre
    have hb5 := bulk_two m1 m5
    have hb : 1 + nm.size + wtL ts ≤ Rows.uptoBulk d := by
      have h1 : Rows.uptoBulk d1 = nm.size + 1 := by
        rw [y1]
        simp only [Rows.uptoBulk]
        rfl
      rw [hd]
      simp only [Rows.uptoBulk]
      rcases hd5 with ⟨rfl, hz⟩ | rfl
      · have : ts = [] := by simpa using hz
        subst this
        simp only [wtL]
        omega
      · simp only [Rows.uptoBulk] at hb5
        omega
    obtain ⟨c0, c1, c2, c3, c4, c5, rfl⟩ : ∃ c0 c1 c2 c3 c4 c5, cs = [c0, c1, c2, c3, c4, c5] := by
      match cs, hlen with
      | [a, b, c, d, e, f], _ => exact ⟨a, b, c, d, e, f, rfl⟩
    · simp only [List.getElem_toArray, List.getElem_cons_zero, List.getElem_cons_succ, te3, te4, te9, te22, List.drop_zero, List.drop_succ_cons, List.take_succ_cons, List.take_zero] at q0 q1 q2 q3 q4 q5
      refine ⟨.mk kd nm lo hi op ts, by rw [Typ.wt]; exact hb, ?_⟩
      rw [cells_eq]
      exact rdg_cons q0 (rdg_cons q1 (rdg_cons q2 (rdg_cons q3 (rdg_cons q4 q5))))
end
end Go.Proofs.Ytepmllodaoanmaa
