/- NoteTells: for every tree and every number whose reading is of bulk at most 1048576 the law returns true: the notes that the program finds are those of the reference. Conditions: none beyond the bound of the statement. -/
import Derived.Test.YtafpjnkfbfkjcaaK9
import Derived.Test.YtafpjnkfbfkjcaaAxRow
import Derived.Test.YtafpjnkfbfkjcaaRows
set_option linter.unusedVariables false
set_option linter.unusedSimpArgs false
namespace Go.Proofs.Ytafpjnkfbfkjcaa
open Go Go.AX Go.RowKit Go.ChangeShapes Go.ChangeAt Go.WideShapes
section
variable {H : Type} {enc : TypeId × Value → H} {w : World}
theorem e3 : Try.prog.cellsOf 3 = 1 := by kernel_rfl
theorem e9 : Try.prog.cellsOf 9 = 1 := by kernel_rfl
theorem e22 : Try.prog.cellsOf 22 = 1 := by kernel_rfl
theorem e24 : Try.prog.cellsOf 24 = 3 := by kernel_rfl
theorem e25 : Try.prog.cellsOf 25 = 1 := by kernel_rfl
theorem e27 : Try.prog.cellsOf 27 = 8 := by kernel_rfl
theorem e5 : Try.prog.cellsOf 5 = 1 := by kernel_rfl
theorem bulk_pos (d : DataW H) : 1 ≤ Rows.uptoBulk d := by
  cases d with
  | lit l => cases l <;> simp [Rows.uptoBulk]
  | _ => simp [Rows.uptoBulk]
theorem bulk_part {d : DataW H} {l : List (DataW H)} {i : Nat} (h : l[i]? = some d) : Rows.uptoBulk d ≤ Rows.uptoBulkAll l := by
  induction l generalizing i with
  | nil => simp at h
  | cons x r ih =>
    simp only [Rows.uptoBulkAll]
    cases i with
    | zero => simp at h; subst h; omega
    | succ i => have := ih (i := i) (by simpa using h); omega
theorem rdVal {fuel : Nat} {cs : List Value} {d : DataW H} {ps : List MemPlace} (h : DataW.trod enc Try.prog w 0 (fun _ => true) true fuel 24 cs = some (d, ps)) : ∃ vk vn vb, Rdg w cs [int vk, int vn, vb] := by
  obtain ⟨hlen, n, xs, hd, hxl, hf⟩ := rd_struct Try.underlying24 h
  rw [e24] at hlen
  obtain ⟨d0, _, _, r0⟩ := hf 0 _ rfl
  obtain ⟨d1, _, _, r1⟩ := hf 1 _ rfl
  obtain ⟨d2, _, _, r2⟩ := hf 2 _ rfl
  obtain ⟨k, _, _, q0⟩ := rd_int Try.underlying3 r0
  obtain ⟨m, _, _, q1⟩ := rd_int Try.underlying3 r1
  obtain ⟨rows, _, _, q2, _⟩ := rd_slice (Re := fun _ _ => True) Try.underlying22 (by rw [e5]; decide) r2 fun d' _ fuel cs ps h' => by
    obtain ⟨b, _, _, q⟩ := rd_int Try.underlying5 h'
    exact ⟨_, trivial, q⟩
  obtain ⟨c0, c1, c2, rfl⟩ : ∃ c0 c1 c2, cs = [c0, c1, c2] := by
    match cs, hlen with
    | [a, b, c], _ => exact ⟨a, b, c, rfl⟩
  · simp only [List.getElem_toArray, List.getElem_cons_zero, List.getElem_cons_succ, e3, e22, List.drop_zero, List.drop_succ_cons, List.take_succ_cons, List.take_zero] at q0 q1 q2
    exact ⟨k, m, .ro rows, rdg_cons q0 (rdg_cons q1 q2)⟩
theorem cntL_le : ∀ {ts : List Tree} {ds : List (DataW H)}, ts.length = ds.length → (∀ (i : Nat) (t : Tree) (d : DataW H), ts[i]? = some t → ds[i]? = some d → t.cnt ≤ Rows.uptoBulk d) → cntL ts ≤ Rows.uptoBulkAll ds
  | [], [], _, _ => by simp [cntL, Rows.uptoBulkAll]
  | t :: ts, d :: ds, hl, h => by
    have h0 := h 0 t d rfl rfl
    have ih := cntL_le (ts := ts) (ds := ds) (by simpa using hl) fun i t d h1 h2 => h (i + 1) t d (by simpa using h1) (by simpa using h2)
    simp only [cntL, Rows.uptoBulkAll]
    omega
theorem rows_trees : ∀ {rows : List (List V)} {ds : List (DataW H)}, ds.length = rows.length → (∀ (i : Nat) d r, ds[i]? = some d → rows[i]? = some r → ∃ t : Tree, r = t.cells ∧ t.cnt ≤ Rows.uptoBulk d) → ∃ ts : List Tree, rows = rowsOf ts ∧ cntL ts ≤ Rows.uptoBulkAll ds
  | [], [], _, _ => ⟨[], by simp [rowsOf], by simp [cntL]⟩
  | r :: rows, d :: ds, hl, h => by
    obtain ⟨t, rfl, ht⟩ := h 0 d r rfl rfl
    obtain ⟨ts, rfl, hts⟩ := rows_trees (rows := rows) (ds := ds) (by simpa using hl) fun i d r h1 h2 => h (i + 1) d r (by simpa using h1) (by simpa using h2)
    exact ⟨t :: ts, by simp [rowsOf], by simp only [cntL, Rows.uptoBulkAll]; omega⟩
theorem rdNode : ∀ (k : Nat) (d : DataW H), SizeOf.sizeOf d < k → ∀ (fuel : Nat) (cs : List Value) (ps : List MemPlace), DataW.trod enc Try.prog w 0 (fun _ => true) true fuel 27 cs = some (d, ps) → ∃ t : Tree, t.cnt ≤ Rows.uptoBulk d ∧ Rdg w cs t.cells := by
  intro k
  induction k with
  | zero => intro d hd; omega
  | succ k ih =>
    intro d hk fuel cs ps h
    obtain ⟨hlen, n, xs, hd, hxl, hf⟩ := rd_struct Try.underlying27 h
    rw [e27] at hlen
    obtain ⟨d0, _, _, r0⟩ := hf 0 _ rfl
    obtain ⟨d1, _, _, r1⟩ := hf 1 _ rfl
    obtain ⟨d2, _, _, r2⟩ := hf 2 _ rfl
    obtain ⟨d3, _, _, r3⟩ := hf 3 _ rfl
    obtain ⟨d4, _, _, r4⟩ := hf 4 _ rfl
    obtain ⟨d5, _, m5, r5⟩ := hf 5 _ rfl
    obtain ⟨kd, _, _, q0⟩ := rd_int Try.underlying3 r0
    obtain ⟨nm, _, _, q1⟩ := rd_string Try.underlying9 r1
    obtain ⟨at_, _, _, q2⟩ := rd_int Try.underlying3 r2
    obtain ⟨sz, _, _, q3⟩ := rd_int Try.underlying3 r3
    obtain ⟨vk, vn, vb, q4⟩ := rdVal r4
    have hs5 : SizeOf.sizeOf d5 < SizeOf.sizeOf d := by
      rw [hd]
      have := List.sizeOf_lt_of_mem (List.mem_of_getElem? m5)
      simp only [DataW.agg.sizeOf_spec]
      omega
    obtain ⟨rows, ds, spare, q5, hl, hre, _, _, hd5⟩ := rd_slice (Re := fun d r => ∃ t : Tree, r = t.cells ∧ t.cnt ≤ Rows.uptoBulk d) Try.underlying25 (by rw [e27]; decide) r5 fun d' hd' fuel cs ps h' => by
      obtain ⟨t, ht, q⟩ := ih d' (by omega) _ _ _ h'
      exact ⟨_, ⟨t, rfl, ht⟩, q⟩
    obtain ⟨ts, rfl, hts⟩ := rows_trees hl hre
    have hb5 := bulk_part m5
    have hb : 1 + cntL ts ≤ Rows.uptoBulk d := by
      rw [hd]
      simp only [Rows.uptoBulk]
      rcases hd5 with ⟨rfl, hz⟩ | rfl
      · have : ts = [] := by
          cases ts with
          | nil => rfl
          | cons t ts => simp [rowsOf] at hz
        subst this
        have := bulk_pos (H := H) .nil
        simp only [cntL]
        omega
      · simp only [Rows.uptoBulk] at hb5
        omega
    obtain ⟨c0, c1, c2, c3, c4, c5, c6, c7, rfl⟩ : ∃ c0 c1 c2 c3 c4 c5 c6 c7, cs = [c0, c1, c2, c3, c4, c5, c6, c7] := by
      match cs, hlen with
      | [a, b, c, d, e, f, g, h], _ => exact ⟨a, b, c, d, e, f, g, h, rfl⟩
    · simp only [List.getElem_toArray, List.getElem_cons_zero, List.getElem_cons_succ, e3, e9, e24, e25, List.drop_zero, List.drop_succ_cons, List.take_succ_cons, List.take_zero] at q0 q1 q2 q3 q4 q5
      exact ⟨.node kd nm at_ sz vk vn vb ts, hb, rdg_cons q0 (rdg_cons q1 (rdg_cons q2 (rdg_cons q3 (rdg_append q4 q5))))⟩
end
theorem own' : ownKnob Try.prog.godebug = none := by kernel_rfl
theorem laidOut : laidOutB Try.prog = true := by kernel_rfl
theorem contract (H : Type) (enc : TypeId × Value → H) (W : World) (base : Nat) (args : Array Value) (ds gs : List (DataW H)) (before : List MemPlace)
    (hval : ∀ (j : Nat) t v, Try.f3.params[j]? = some t → args[j]? = some v → Value.okWide Try.prog W .any base t v)
    (hW : DataW.Whole enc Try.prog Try.f3.params.toList Rows.noteTellsSpec.vars false W args.toList ds gs before) (hk : Rows.uptoSmall H (ds ++ gs) = true) :
    Calls Try.prog 3 args W fun e W' => ∃ v, e = .returned v ∧ Rows.noteTellsSpec.post enc Try.prog Try.f3 false true false false W args v W' := by
  have hW' := hW
  obtain ⟨p, q, hA0, hV, rfl, hfz, hnd⟩ := hW
  have hA : DataW.TrodAll enc Try.prog W 0 (fun _ => true) true Try.f3.params.toList args.toList ds p := hA0
  rw [Try.params3] at hA hval
  obtain ⟨v0, vs0, d0, ds0, p0, q0, hargs, rfl, rfl, h0, r0⟩ := trodAll_cons hA
  obtain ⟨v1, vs1, d1, ds1, p1, q1, rfl, rfl, rfl, h1, r1⟩ := trodAll_cons r0
  obtain ⟨rfl, rfl, rfl⟩ := trodAll_nil r1
  obtain rfl : args = #[v0, v1] := by cases args; simp_all
  obtain ⟨rfl, rfl⟩ := trodVars_none hV
  obtain ⟨packet, rfl, rfl, rfl, _⟩ := open_int Try.underlying3 (hval 1 3 v1 rfl rfl) h1
  obtain ⟨cs, rfl, _, _⟩ : ∃ cs, v0 = .agg cs ∧ cs.size = Try.prog.cellsOf 27 ∧ Row.okWide Try.prog W .any base 27 cs := by
    have := hval 0 27 v0 rfl rfl
    simpa only [Value.okWide, Try.underlying27] using this
  obtain ⟨fuel, hf⟩ := h0
  obtain ⟨t, ht, hr⟩ := rdNode _ d0 (Nat.lt_succ_self _) _ _ _ hf
  have hkb : Rows.uptoBulkAll ([d0, .lit (.int .i64 packet)] ++ []) ≤ 1048576 := of_decide_eq_true hk
  have hcnt : t.cnt ≤ 1048576 := by
    simp only [List.append_nil, Rows.uptoBulkAll] at hkb
    omega
  have hcall := calls_of_fun (tells3 packet t hcnt) (W := W) (xs := [.agg cs, .int .i64 packet]) ⟨_, _, rfl, ⟨cs.toList, by simp, hr.1, hr.2⟩, _, _, rfl, rfl, rfl⟩
  refine hcall.mono fun e W' ⟨x, he, hx, hb⟩ => ?_
  simp only [conc] at hx
  subst hx
  exact ⟨_, he, post_true laidOut (by kernel_rfl) rfl rfl Try.underlying4 hW' rfl hb⟩
set_option maxRecDepth 100000 in
theorem lifted (os : Os) (started : os.Started) (H : Type) (enc : TypeId × Value → H) (F : Stop.Interp) :
    ReturnsInHanded {} Try.checked os 3 .any ((Rows.OpenSpec.upto Rows.noteTellsSpec).pre6 enc Try.prog Try.f3 Rows.noteTellsUptoRow.domain false) (((Rows.OpenSpec.upto Rows.noteTellsSpec).at F).post enc Try.prog Try.f3 false true false false) := by
  refine returnsInHanded_of_cond (C := Try.checked) (s := Rows.OpenSpec.upto Rows.noteTellsSpec) (k := Rows.uptoSmall) rfl own' started (by kernel_rfl) Try.func3
    (OpenSpec.witness (enc := enc) (C := Try.checked) (s := Rows.OpenSpec.upto Rows.noteTellsSpec) (k := Rows.uptoSmall) rfl false ⟨#[], #[.agg #[.int .i64 0, .string ⟨#[]⟩, .int .i64 0, .int .i64 0, .int .i64 0, .int .i64 0, .slice none 0 0, .slice none 0 0], .int .i64 0], []⟩ 8 (by kernel_rfl) (by kernel_rfl) (by kernel_rfl)
      (x := ([.agg [.lit (.int .i64 0), .lit (.string []), .lit (.int .i64 0), .lit (.int .i64 0), .agg [.lit (.int .i64 0), .lit (.int .i64 0), .nil], .nil], .lit (.int .i64 0)], [], [])) (by kernel_rfl) rfl (by kernel_rfl)) ?_
  intro W base args ds gs before hval hW _ hk _
  exact contract H enc W base args ds gs before hval hW hk
theorem noteTellsUpto : Rows.NoteTellsUptoSaid :=
  OpenClaim.holds_of_cond 3 Try.f3 rfl rfl rfl rfl rfl rfl rfl ⟨rfl, rfl, rfl, rfl, rfl⟩ rfl rfl rfl rfl rfl (by kernel_rfl) Try.func3 (by kernel_rfl)
    (of_decide_eq_true (by kernel_rfl)) (by unfold Func.isWrapper; first | (rw [if_pos (by decide +kernel)]; kernel_rfl) | (rw [if_neg (by decide +kernel)]; exact ⟨rfl, rfl⟩))
    (fun os started H enc _ F => lifted os started H enc F)
#print axioms noteTellsUpto
end Go.Proofs.Ytafpjnkfbfkjcaa
