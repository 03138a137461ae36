import Derived.Test.YtbhbjlhobdoomaaDoorK41
import Derived.Test.YtbhbjlhobdoomaaDoorAx0
import Derived.Test.YtbhbjlhobdoomaaDoorRows
set_option linter.unusedVariables false
set_option linter.unusedSimpArgs false
set_option maxRecDepth 20000
namespace Go.Proofs.YtbhbjlhobdoomaaDoor
open Go Go.AX Go.RowKit Go.ChangeShapes Go.ChangeAt Go.WideShapes
section
variable {H : Type} {enc : TypeId × Value → H} {w : World}
theorem te3 : Tryd.prog.cellsOf 3 = 1 := by kernel_rfl
theorem te9 : Tryd.prog.cellsOf 9 = 1 := by kernel_rfl
theorem te33 : Tryd.prog.cellsOf 33 = 4 := by kernel_rfl
theorem i64_wf {n : Int} (h : (Lit.int .i64 n).wf = true) : I64 n := by
  have := h
  simp [Lit.wf] at this
  unfold I64
  first | omega | (constructor <;> omega) | exact this
theorem rows_toks : ∀ {rows : List (List V)} {ds : List (DataW H)}, ds.length = rows.length → (∀ (i : Nat) d r, ds[i]? = some d → rows[i]? = some r → ∃ t : GT, r = t.row ∧ I64 t.n ∧ t.t.size + 1 ≤ Rows.uptoBulk d) →
    ∃ ts : List GT, rows = ts.map GT.row ∧ (∀ t ∈ ts, I64 t.n) ∧ ts.length + txs ts ≤ Rows.uptoBulkAll ds
  | [], [], _, _ => ⟨[], by simp, by simp, by simp [txs]⟩
  | r :: rows, d :: ds, hl, h => by
    obtain ⟨t, rfl, hi, ht⟩ := h 0 d r rfl rfl
    obtain ⟨ts, rfl, his, hts⟩ := rows_toks (rows := rows) (ds := ds) (by simpa using hl) fun i d r h1 h2 => h (i + 1) d r (by simpa using h1) (by simpa using h2)
    have h3 : txs (t :: ts) = t.t.size + txs ts := rfl
    exact ⟨t :: ts, by simp, fun u hu => by
      rcases List.mem_cons.1 hu with rfl | hu
      · exact hi
      · exact his u hu, by simp only [Rows.uptoBulkAll, List.length_cons, h3]; omega⟩
theorem bulk_four {l : List (DataW H)} {b : DataW H} (h3 : l[3]? = some b) : Rows.uptoBulk b ≤ Rows.uptoBulkAll l := by
  match l, h3 with
  | x0 :: x1 :: x2 :: x3 :: r, h3 =>
    simp at h3
    subst h3
    simp only [Rows.uptoBulkAll]
    omega
theorem rdTok {fuel : Nat} {cs : List Value} {ps : List MemPlace} {d : DataW H} (h : DataW.trod enc Tryd.prog w 0 (fun _ => true) true fuel 33 cs = some (d, ps)) :
    ∃ t : GT, I64 t.n ∧ t.t.size + 1 ≤ Rows.uptoBulk d ∧ Rdg w cs t.row := by
  obtain ⟨hlen, n, xs, hd, hxl, hf⟩ := rd_struct Tryd.underlying33 h
  rw [te33] at hlen
  obtain ⟨d0, _, _, r0⟩ := hf 0 _ rfl
  obtain ⟨d1, _, _, r1⟩ := hf 1 _ rfl
  obtain ⟨d2, _, _, r2⟩ := hf 2 _ rfl
  obtain ⟨d3, _, m3, r3⟩ := hf 3 _ rfl
  obtain ⟨kd, _, _, q0⟩ := rd_int Tryd.underlying3 r0
  obtain ⟨nn, hw, _, q1⟩ := rd_int Tryd.underlying3 r1
  obtain ⟨aa, _, _, q2⟩ := rd_int Tryd.underlying3 r2
  obtain ⟨tt, x3, y3, q3⟩ := rd_string Tryd.underlying9 r3
  have hb3 := bulk_four m3
  have hb : tt.size + 1 ≤ Rows.uptoBulk d := by
    have h1 : Rows.uptoBulk d3 = tt.size + 1 := by
      rw [y3]
      simp only [Rows.uptoBulk]
      rfl
    rw [hd]
    simp only [Rows.uptoBulk]
    omega
  obtain ⟨c0, c1, c2, c3, rfl⟩ : ∃ c0 c1 c2 c3, cs = [c0, c1, c2, c3] := by
    match cs, hlen with
    | [a, b, c, d], _ => exact ⟨a, b, c, d, rfl⟩
  simp only [List.getElem_toArray, List.getElem_cons_zero, List.getElem_cons_succ, te3, te9, List.drop_zero, List.drop_succ_cons, List.take_succ_cons, List.take_zero] at q0 q1 q2 q3
  exact ⟨⟨kd, nn, aa, tt⟩, i64_wf hw, hb, rdg_cons q0 (rdg_cons q1 (rdg_cons q2 q3))⟩
theorem rdToks {fuel : Nat} {cs : List Value} {ps : List MemPlace} {d : DataW H} (h : DataW.trod enc Tryd.prog w 0 (fun _ => true) true fuel 23 cs = some (d, ps)) :
    ∃ l : List GT, (∀ t ∈ l, I64 t.n) ∧ l.length + txs l ≤ Rows.uptoBulk d ∧ Rdg w cs [.ro (l.map GT.row)] := by
  obtain ⟨rows, ds, spare, q, hl, hre, _, _, hd⟩ := rd_slice (Re := fun d r => ∃ t : GT, r = t.row ∧ I64 t.n ∧ t.t.size + 1 ≤ Rows.uptoBulk d) Tryd.underlying23 (by rw [te33]; decide) h fun d' hd' fuel cs ps h' => by
    obtain ⟨t, h1, h2, h3⟩ := rdTok h'
    exact ⟨_, ⟨t, rfl, h1, h2⟩, h3⟩
  obtain ⟨ts, rfl, his, hts⟩ := rows_toks hl hre
  refine ⟨ts, his, ?_, q⟩
  rcases hd with ⟨rfl, hz⟩ | rfl
  · have : ts = [] := by simpa using hz
    subst this
    exact Nat.zero_le _
  · simp only [Rows.uptoBulk]
    omega
end
end Go.Proofs.YtbhbjlhobdoomaaDoor
