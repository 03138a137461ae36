import Derived.Test.YtepmllodaoanmaaK33
import Derived.Test.YtepmllodaoanmaaAx0
import Derived.Test.YtepmllodaoanmaaK27
set_option linter.unusedVariables false
set_option linter.unusedSimpArgs false
set_option maxRecDepth 20000
namespace Go.Proofs.Ytepmllodaoanmaa
open Go Go.AX Go.RowKit Go.ChangeShapes Go.ChangeAt Go.WideShapes
section
variable {H : Type} {enc : TypeId × Value → H} {w : World}
theorem te5 : Try.prog.cellsOf 5 = 1 := by kernel_rfl
theorem te25 : Try.prog.cellsOf 25 = 1 := by kernel_rfl
theorem te26 : Try.prog.cellsOf 26 = 1 := by kernel_rfl
theorem te28 : Try.prog.cellsOf 28 = 5 := by kernel_rfl
theorem bulkAll_len {H : Type} : ∀ l : List (DataW H), l.length ≤ Rows.uptoBulkAll l
  | [] => Nat.zero_le _
  | d :: l => by
    have := bulk_pos d
    have := bulkAll_len l
    simp only [Rows.uptoBulkAll, List.length_cons]
    omega
theorem bulk_mem {H : Type} {l : List (DataW H)} {i : Nat} {d : DataW H} (h : l[i]? = some d) : Rows.uptoBulk d ≤ Rows.uptoBulkAll l := by
  induction l generalizing i with
  | nil => simp at h
  | cons x r ih =>
    simp only [Rows.uptoBulkAll]
    cases i with
    | zero => simp at h; subst h; omega
    | succ i => have := ih (i := i) (by simpa using h); omega
theorem rows_bytes : ∀ {rows : List (List V)} {ds : List (DataW H)}, ds.length = rows.length → (∀ (i : Nat) d r, ds[i]? = some d → rows[i]? = some r → ∃ b : Int, r = br b ∧ 0 ≤ b ∧ b ≤ 255) → ∃ L : List Int, rows = L.map br ∧ Byt L
  | [], [], _, _ => ⟨[], by simp, fun x hx => by cases hx⟩
  | r :: rows, d :: ds, hl, h => by
    obtain ⟨b, rfl, hb⟩ := h 0 d r rfl rfl
    obtain ⟨L, rfl, hL⟩ := rows_bytes (rows := rows) (ds := ds) (by simpa using hl) fun i d r h1 h2 => h (i + 1) d r (by simpa using h1) (by simpa using h2)
    refine ⟨b :: L, by simp, fun x hx => ?_⟩
    rcases List.mem_cons.1 hx with rfl | hx
    · exact hb
    · exact hL x hx
theorem rdByt {fuel : Nat} {cs : List Value} {d : DataW H} {ps : List MemPlace} (h : DataW.trod enc Try.prog w 0 (fun _ => true) true fuel 25 cs = some (d, ps)) : ∃ L : List Int, Byt L ∧ L.length + 1 ≤ Rows.uptoBulk d ∧ Rdg w cs [.ro (L.map br)] := by
  obtain ⟨rows, ds, spare, hr, hl, hre, _, _, hd⟩ := rd_slice (Re := fun _ r => ∃ b : Int, r = br b ∧ 0 ≤ b ∧ b ≤ 255) Try.underlying25 (by rw [te5]; decide) h fun d' _ fuel cs ps h' => by
    obtain ⟨b, hw, _, q⟩ := rd_int Try.underlying5 h'
    refine ⟨_, ⟨b, rfl, ?_⟩, q⟩
    have e1 : IntKind.u8.min = 0 := by decide
    have e2 : IntKind.u8.max = 255 := by decide
    simp [Lit.wf, e1, e2] at hw
    omega
  obtain ⟨L, rfl, hb⟩ := rows_bytes hl hre
  refine ⟨L, hb, ?_, hr⟩
  rcases hd with ⟨rfl, hz⟩ | rfl
  · have : L = [] := by simpa using hz
    subst this
    simp [Rows.uptoBulk]
  · have := bulkAll_len ds
    simp only [Rows.uptoBulk]
    rw [hl, List.length_map] at this
    omega
theorem rows_dats : ∀ {rows : List (List V)} {ds : List (DataW H)}, ds.length = rows.length → (∀ (i : Nat) d r, ds[i]? = some d → rows[i]? = some r → ∃ t : Dat, r = t.cells ∧ t.wt ≤ Rows.uptoBulk d ∧ (Rows.uptoBulk d ≤ 1048576 → t.ok)) →
    ∃ ts : List Dat, rows = ts.map Dat.cells ∧ wtD ts ≤ Rows.uptoBulkAll ds ∧ (Rows.uptoBulkAll ds ≤ 1048576 → okD ts)
  | [], [], _, _ => ⟨[], by simp, by simp [wtD], fun _ => trivial⟩
  | r :: rows, d :: ds, hl, h => by
    obtain ⟨t, rfl, ht, hok⟩ := h 0 d r rfl rfl
    obtain ⟨ts, rfl, hts, hoks⟩ := rows_dats (rows := rows) (ds := ds) (by simpa using hl) fun i d r h1 h2 => h (i + 1) d r (by simpa using h1) (by simpa using h2)
    exact ⟨t :: ts, by simp, by simp only [wtD, Rows.uptoBulkAll]; omega, fun hb => by
      simp only [Rows.uptoBulkAll] at hb
      rw [okD]
      exact ⟨hok (by omega), hoks (by omega)⟩⟩
theorem bulk_two5 {l : List (DataW H)} {a b : DataW H} (h1 : l[2]? = some a) (h5 : l[4]? = some b) : Rows.uptoBulk a + Rows.uptoBulk b ≤ Rows.uptoBulkAll l := by
  match l, h1, h5 with
  | x0 :: x1 :: x2 :: x3 :: x4 :: r, h1, h5 =>
    simp at h1 h5
    subst h1 h5
    simp only [Rows.uptoBulkAll]
    omega
theorem rdDat : ∀ (k : Nat) (d : DataW H), SizeOf.sizeOf d < k → ∀ (fuel : Nat) (cs : List Value) (ps : List MemPlace), DataW.trod enc Try.prog w 0 (fun _ => true) true fuel 28 cs = some (d, ps) → ∃ t : Dat, (t.wt ≤ Rows.uptoBulk d ∧ (Rows.uptoBulk d ≤ 1048576 → t.ok)) ∧ Rdg w cs t.cells := by
  intro k
  induction k with
  | zero => intro d hd; omega
  | succ k ih =>
    intro d hk fuel cs ps h
    obtain ⟨hlen, n, xs, hd, hxl, hf⟩ := rd_struct Try.underlying28 h
    rw [te28] at hlen
    obtain ⟨d0, _, _, r0⟩ := hf 0 _ rfl
    obtain ⟨d1, _, _, r1⟩ := hf 1 _ rfl
    obtain ⟨d2, _, m2, r2⟩ := hf 2 _ rfl
    obtain ⟨d3, _, _, r3⟩ := hf 3 _ rfl
    obtain ⟨d4, _, m4, r4⟩ := hf 4 _ rfl
    obtain ⟨kd, _, _, q0⟩ := rd_int Try.underlying3 r0
    obtain ⟨nn, _, _, q1⟩ := rd_int Try.underlying3 r1
    obtain ⟨L, hL, hLb, q2⟩ := rdByt r2
    obtain ⟨st, _, q3⟩ := rd_bool Try.underlying4 r3
    have hs4 : SizeOf.sizeOf d4 < SizeOf.sizeOf d := by
      rw [hd]
      have := List.sizeOf_lt_of_mem (List.mem_of_getElem? m4)
      simp only [DataW.agg.sizeOf_spec]
      omega
    obtain ⟨rows, ds, spare, q4, hl, hre, _, _, hd5⟩ := rd_slice (Re := fun d r => ∃ t : Dat, r = t.cells ∧ t.wt ≤ Rows.uptoBulk d ∧ (Rows.uptoBulk d ≤ 1048576 → t.ok)) Try.underlying26 (by rw [te28]; decide) r4 fun d' hd' fuel cs ps h' => by
      obtain ⟨t, ht, q⟩ := ih d' (by omega) _ _ _ h'
      exact ⟨_, ⟨t, rfl, ht⟩, q⟩
    obtain ⟨ts, rfl, hts, hok⟩ := rows_dats hl hre
    have hb5 := bulk_two5 m2 m4
    have hd4 : wtD ts + 1 ≤ Rows.uptoBulk d4 ∧ (Rows.uptoBulk d4 ≤ 1048576 → okD ts) := by
      rcases hd5 with ⟨rfl, hz⟩ | rfl
      · have : ts = [] := by simpa using hz
        subst this
        exact ⟨by simp [wtD, Rows.uptoBulk], fun _ => trivial⟩
      · simp only [Rows.uptoBulk]
        exact ⟨by omega, fun h => hok (by omega)⟩
    obtain ⟨q, hbd, hb5⟩ : ∃ q, Rows.uptoBulk d = q + 1 ∧ Rows.uptoBulk d2 + Rows.uptoBulk d4 ≤ q := ⟨_, by rw [hd]; simp only [Rows.uptoBulk], hb5⟩
    obtain ⟨c0, c1, c2, c3, c4, rfl⟩ : ∃ c0 c1 c2 c3 c4, cs = [c0, c1, c2, c3, c4] := by
      match cs, hlen with
      | [a, b, c, d, e], _ => exact ⟨a, b, c, d, e, rfl⟩
    · simp only [List.getElem_toArray, List.getElem_cons_zero, List.getElem_cons_succ, te3, te4, te25, te26, List.drop_zero, List.drop_succ_cons, List.take_succ_cons, List.take_zero] at q0 q1 q2 q3 q4
      refine ⟨.mk kd nn L st ts, ⟨by rw [Dat.wt]; omega, fun hb => ?_⟩, ?_⟩
      · have hwl := wtD_len ts
        rw [Dat.ok]
        exact ⟨⟨hL, by omega, by omega⟩, hd4.2 (by omega)⟩
      · rw [dcells_eq]
        exact rdg_cons q0 (rdg_cons q1 (rdg_cons q2 (rdg_cons q3 q4)))
end
end Go.Proofs.Ytepmllodaoanmaa
