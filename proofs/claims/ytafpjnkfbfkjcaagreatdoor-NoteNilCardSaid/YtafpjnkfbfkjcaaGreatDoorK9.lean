import Derived.Test.YtafpjnkfbfkjcaaGreatDoorK8
set_option linter.unusedVariables false
set_option linter.unusedSimpArgs false
namespace Go.Proofs.YtafpjnkfbfkjcaaGreatDoor
open Go Go.AX
set_option maxHeartbeats 4000000
attribute [local irreducible] AW RL OP PureV ValV HV DL Tri TriR Fun RetOk ResV
/-! ### The law: both keep the same notes -/
theorem alike_iff (a b : NoteD) : alike a b = true ↔ a.packet = b.packet ∧ a.grave = b.grave ∧ a.group = b.group ∧ a.text = b.text ∧ a.proto = b.proto := by simp [alike]
theorem sameD_iff (a b : NoteD) : sameD a b = true ↔ a.grave = b.grave ∧ a.group = b.group ∧ a.text = b.text ∧ a.proto = b.proto := by simp [sameD]
theorem alike_same (packet : Int) (x y : NoteD) : alike (setPk packet x) (setPk packet y) = sameR x y := by
  rw [Bool.eq_iff_iff, alike_iff, sameR, sameD_iff]
  exact ⟨fun ⟨_, h1, h2, h3, h4⟩ => ⟨h1.symm, h2.symm, h3.symm, h4.symm⟩, fun ⟨h1, h2, h3, h4⟩ => ⟨rfl, h1.symm, h2.symm, h3.symm, h4.symm⟩⟩
theorem addBy_set (packet : Int) (x : NoteD) : ∀ L, addBy alike (setPk packet x) (L.map (setPk packet)) = (addBy sameR x L).map (setPk packet)
  | [] => rfl
  | y :: ys => by
    simp only [List.map_cons, addBy]
    rw [show alike (setPk packet x) (setPk packet y) = sameR x y from alike_same packet x y]
    split
    · rfl
    · rw [addBy_set packet x ys]; rfl
theorem noteOfT_proto (t : Tree) (p : ByteArray) : noteOfT t p = (noteOfT t (bs [])).map fun x => { x with proto := p } := by
  obtain ⟨k, nm, a, sz, vk, vn, vb, ks⟩ := t
  simp only [noteOfT]
  repeat (first | rfl | split)
theorem step_same (packet : Int) (L : List NoteD) (v : Tree × ByteArray) : stepP packet (L.map (setPk packet)) v = (stepR L v).map (setPk packet) := by
  obtain ⟨t, p⟩ := v
  simp only [stepP, stepR]
  rw [noteOfT_proto t p]
  cases h : noteOfT t (bs []) with
  | none => rfl
  | some x =>
    simp only [Option.map_some]
    rw [← addBy_set]
    rfl
theorem notes_same (packet : Int) (t : Tree) : notesP packet t = (notesR t).map (setPk packet) := by
  have h : ∀ (vs : Vis) (L : List NoteD), vs.foldl (stepP packet) (L.map (setPk packet)) = (vs.foldl stepR L).map (setPk packet) := by
    intro vs
    induction vs with
    | nil => intro L; rfl
    | cons v vs ih => intro L; simp only [List.foldl_cons]; rw [step_same, ih]
  exact h _ []
/-! ### The known answer -/
def badT : Tree := .node 4 (bs [111, 100, 100]) 0 0 0 2 (.raw (.slice none 0 0)) []
def topT : Tree := .node 0 (bs [112]) 0 0 0 0 (.raw (.slice none 0 0)) [badT, badT]
theorem known_notes : notesP 3 topT = [⟨3, 2, bs [99, 104, 101, 99, 107], bs [111, 100, 100], bs [112], 0, 2⟩] := by
  rfl
theorem known5 : Fun Tryz.prog 9 [] (bool true) := by
  refine Fun.of (TriR.of (tri_of Tryz.func9 rfl Tryz.ntmps9 rfl fun j => ?_))
  repeat' (first | (with_reducible first | refine aw_seq ?_ | refine rl_nil ?_ | refine aw_region ?_ | refine then_n ?_ | refine aw_block ?_ | refine then_exit ?_ | refine then_ret ?_ | refine in_n ?_ | refine in_ret ?_ | refine aw_exit ?_ | refine aw_ret ?_ | refine aw_skip ?_ | refine in_exit_eq rfl ?_ | refine awr_succ ?_) | ((with_reducible refine k_assign ?_); refine rl_pure (pv_assign rfl) rfl rfl rfl ?_) | ((with_reducible refine k_load ?_); refine rl_val (vv_load_box_whole (by rfl) by_memb (by rfl) (by first | rfl | exact cells_len _)) rfl rfl rfl ?_) | ((with_reducible refine k_store ?_); refine rl_op rfl (op_store_box_whole (by rfl) (by rfl) (V.okc_or (by rfl)) by_upd (by first | rfl | exact cells_len _) (by first | rfl | exact cells_len _) ?_)) | ((with_reducible refine k_alloc ?_); refine rl_op rfl (op_alloc (by decide) rfl fun b => ?_)) | ((with_reducible refine k_build ?_); refine rl_pure (pv_build rfl by_fill) rfl rfl rfl ?_) | ((with_reducible refine k_buildSlice ?_); refine rl_op rfl (op_buildSlice_ro rfl rfl rfl (by rfl) (by rfl) (by rfl) (by rfl) rfl by_rows ?_)))
  refine rl_le 10 rfl (v' := .agg topT.cells) ?_ ?_
  · have hb : LeP [int 4, str (bs [111, 100, 100]), int 0, int 0, int 0, int 2, .raw (.slice none 0 0), .raw (.slice none 0 0)] badT.cells :=
      .cons (le_refl _) (.cons (le_refl _) (.cons (le_refl _) (.cons (le_refl _) (.cons (le_refl _) (.cons (le_refl _) (.cons (le_refl _) (.cons le_nil_ro .nil)))))))
    exact le_aggP (.cons (le_refl _) (.cons (le_refl _) (.cons (le_refl _) (.cons (le_refl _) (.cons (le_refl _) (.cons (le_refl _) (.cons (le_refl _) (.cons (le_ro (.cons hb (.cons hb .nil))) .nil))))))))
  (first | refine rl_op rfl (op_callR rfl rfl .nil (of6 3 topT (by decide)) rfl ?_) | refine dl_op (by assumption) by_wants (op_callR rfl rfl .nil (of6 3 topT (by decide)) rfl ?_))
  intro v H' h
  rcases h with ⟨h, _⟩ | ⟨_, h, _⟩ | ⟨_, _, sv, rfl, rfl⟩
  · omega
  · exact absurd h (by decide)
  rw [known_notes]
  repeat' (first | (with_reducible first | refine aw_seq ?_ | refine rl_nil ?_ | refine aw_region ?_ | refine then_n ?_ | refine aw_block ?_ | refine then_exit ?_ | refine then_ret ?_ | refine in_n ?_ | refine in_ret ?_ | refine aw_exit ?_ | refine aw_ret ?_ | refine aw_skip ?_ | refine in_exit_eq rfl ?_ | refine awr_succ ?_) | ((with_reducible refine k_move ?_); refine rl_pure (pv_move rfl) rfl rfl rfl ?_) | ((with_reducible refine k_assign ?_); refine rl_pure (pv_assign rfl) rfl rfl rfl ?_) | ((with_reducible refine k_load ?_); refine rl_val (vv_load_vp_whole (by rfl) by_memb by_bd (by rfl) (by first | rfl | exact cells_len _)) rfl rfl rfl ?_) | ((with_reducible refine k_eql ?_); (first | refine rl_pure (pv_eql rfl rfl) rfl rfl rfl ?_ | refine rl_pure (pv_eql_agg rfl rfl (by rfl)) rfl rfl rfl ?_)) | ((with_reducible refine k_extract ?_); refine rl_pure (pv_extract rfl rfl) rfl rfl rfl ?_) | ((with_reducible refine k_len ?_); refine rl_pure (pv_len_own' (by rfl) by_memb by_len) rfl rfl rfl ?_) | ((with_reducible refine k_indexAddr ?_); refine rl_pure (pv_indexAddr_own (by rfl) by_memb rfl (by first | omega | (simp only [List.length_cons, List.length_nil, List.length_append, List.length_map, List.length_replicate, List.length_set]; omega))) rfl rfl rfl ?_) | ((with_reducible refine k_build ?_); refine rl_pure (pv_build rfl by_fill) rfl rfl rfl ?_) | ((with_reducible refine k_pick ?_); refine rl_pure (pv_pick_t rfl by_bd rfl) rfl rfl rfl ?_) | ((with_reducible refine k_guard ?_); refine rl_on_yes rfl rfl rfl by_bd rfl ?_))
  (first | refine ret_r (ret1 rfl by_res (List.nil_sublist _) ⟨_, rfl, ?_⟩) | refine ret_n (ret1 rfl by_res (List.nil_sublist _) ⟨_, rfl, ?_⟩))
  exact ⟨rfl, rfl⟩
end Go.Proofs.YtafpjnkfbfkjcaaGreatDoor
