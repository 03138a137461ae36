import Derived.Test.YtafpjnkfbfkjcaaGreatDoorK2
set_option linter.unusedVariables false
set_option linter.unusedSimpArgs false
namespace Go.Proofs.YtafpjnkfbfkjcaaGreatDoor
open Go Go.AX
set_option maxHeartbeats 2000000
attribute [local irreducible] AW RL OP PureV ValV HV DL Tri TriR Fun RetOk ResV
theorem idx_spec (eq : NoteD → NoteD → Bool) (x : NoteD) : ∀ (L : List NoteD) (n : Nat), (∃ i y, idxBy eq x L n = (n + i : Nat) ∧ L[i]? = some y ∧ addBy eq x L = L.set i y.more) ∨ (idxBy eq x L n = -1 ∧ addBy eq x L = L ++ [x])
  | [], n => .inr ⟨rfl, rfl⟩
  | y :: ys, n => by
    by_cases h : eq x y
    · exact .inl ⟨0, y, by simp [idxBy, h], rfl, by simp [addBy, h]⟩
    · rcases idx_spec eq x ys (n + 1) with ⟨i, z, h1, h2, h3⟩ | ⟨h1, h2⟩
      · refine .inl ⟨i + 1, z, ?_, by simpa using h2, by simp [addBy, h, h3]⟩
        simp only [idxBy, h, if_false, Bool.false_eq_true]
        have : ((n : Int) + 1) = ((n + 1 : Nat) : Int) := by omega
        rw [this, h1]
        omega
      · refine .inr ⟨?_, by simp [addBy, h, h2]⟩
        simp only [idxBy, h, if_false, Bool.false_eq_true]
        have : ((n : Int) + 1) = ((n + 1 : Nat) : Int) := by omega
        rw [this, h1]
/-- What the program does at a place. -/
def stepP (packet : Int) (L : List NoteD) (v : Tree × ByteArray) : List NoteD :=
  match noteOfT v.1 (bs []) with
  | some x => addBy alike { x with packet := packet, proto := v.2 } L
  | none => L
theorem addBy_len (eq : NoteD → NoteD → Bool) (x : NoteD) : ∀ L, (addBy eq x L).length ≤ L.length + 1
  | [] => by simp [addBy]
  | y :: ys => by
    simp only [addBy]
    split
    · simp
    · simpa using addBy_len eq x ys
theorem stepP_len (packet : Int) (L : List NoteD) (v : Tree × ByteArray) : (stepP packet L v).length ≤ L.length + 1 := by
  simp only [stepP]
  split
  · exact addBy_len _ _ _
  · omega
theorem foldP_len (packet : Int) : ∀ (vs : Vis) (L : List NoteD), (vs.foldl (stepP packet) L).length ≤ L.length + vs.length
  | [], L => by simp
  | v :: vs, L => by
    have h1 := foldP_len packet vs (stepP packet L v)
    have h2 := stepP_len packet L v
    simp only [List.foldl_cons, List.length_cons]
    omega
/-- What the program's closure keeps: how many places it has met, and the notes so far. -/
def Keep13 (bn bp bo : Nat) (packet : Int) (vs : Vis) (H : List Ch) : Prop :=
  ∃ sv, H = [.box bn 3 [int vs.length], .box bp 3 [int packet], .box bo 33 [.own sv], .vec sv 38 7 ((vs.foldl (stepP packet) []).map NoteD.cells)]
abbrev cap13 (bn bp bo : Nat) : List V := [.raw (.pointer (some ⟨bn, 0, none⟩)), .raw (.pointer (some ⟨bp, 0, none⟩)), .raw (.pointer (some ⟨bo, 0, none⟩))]
theorem map_set_more (L : List NoteD) (i : Nat) (y : NoteD) : (L.map NoteD.cells).set i (setAll y.cells 6 [.raw (.int .i64 (IntKind.i64.wrap (y.times + 1)))]) = (L.set i y.more).map NoteD.cells := by
  rw [List.map_set]; rfl
theorem sub13 (bn bp bo : Nat) (packet : Int) (vs : Vis) (t : Tree) (p : ByteArray) (H : List Ch) (hI : Keep13 bn bp bo packet vs H) (hn : vs.length < 1048576) :
    TriR Tryz.prog 115 ([.agg t.cells, str p] ++ cap13 bn bp bo) H fun _ H' => Keep13 bn bp bo packet (vs ++ [(t, p)]) H' := by
  obtain ⟨sv, rfl⟩ := hI
  have hfold : (vs ++ [(t, p)]).foldl (stepP packet) [] = stepP packet (vs.foldl (stepP packet) []) (t, p) := by simp
  have hlen := foldP_len packet vs []
  simp only [Keep13, hfold]
  simp only [List.length_append, List.length_cons, List.length_nil, Nat.zero_add] at hlen ⊢
  have hcl : ∀ t : Tree, t.cells.length = 8 := cells_len
  generalize vs.foldl (stepP packet) [] = L at hlen ⊢
  have hno := noteOf_fun t
  simp only [stepP]
  refine TriR.of (tri_of Tryz.func115 rfl Tryz.ntmps115 rfl fun j => ?_)
  cases hx : noteOfT t (bs []) with
  | none =>
    simp only [hx, Option.getD_none, Option.isSome_none] at hno
    repeat' (first | (with_reducible first | refine aw_seq ?_ | refine rl_nil ?_ | refine aw_region ?_ | refine then_n ?_ | refine aw_block ?_ | refine then_exit ?_ | refine then_ret ?_ | refine in_n ?_ | refine in_ret ?_ | refine aw_exit ?_ | refine aw_ret ?_ | refine aw_skip ?_ | refine in_exit_eq rfl ?_ | refine awr_succ ?_) | ((with_reducible refine k_move ?_); refine rl_pure (pv_move rfl) rfl rfl rfl ?_) | ((with_reducible refine k_assign ?_); refine rl_pure (pv_assign rfl) rfl rfl rfl ?_) | ((with_reducible refine k_load ?_); (first | refine rl_val (vv_load_box (by rfl) by_memb (by rfl) by_bd) rfl rfl rfl ?_ | refine rl_val (vv_load_box_whole (by rfl) by_memb (by rfl) (by first | rfl | exact cells_len _)) rfl rfl rfl ?_)) | ((with_reducible refine k_store ?_); refine rl_op rfl (op_store_box_whole (by rfl) (by rfl) (V.okc_or (by rfl)) by_upd (by first | rfl | exact cells_len _) (by first | rfl | exact cells_len _) ?_)) | ((with_reducible refine k_alloc ?_); refine rl_op rfl (op_alloc (by decide) rfl fun b => ?_)) | ((with_reducible refine k_box ?_); refine rl_op rfl (op_box rfl (V.okc_or (by rfl)) rfl fun b => ?_)) | ((with_reducible refine k_add ?_); refine rl_pure (pv_add_in rfl rfl (by omega)) rfl rfl rfl ?_) | ((with_reducible refine k_not ?_); refine rl_pure (pv_not rfl) rfl rfl rfl ?_) | ((with_reducible refine k_extract ?_); refine rl_pure (pv_extract rfl rfl) rfl rfl rfl ?_) | ((with_reducible refine k_cond ?_); refine aw_cond_t rfl ?_) | ((with_reducible refine k_callv ?_); refine rl_op rfl (op_callF rfl rfl (hno) rfl ?_)))
    (first | refine ret_r (retok_pick (.cons (.there (.there .here)) (.cons (.there (.there .here)) (.cons (.there (.there .here)) (.cons (.there (.there .here)) .nil)))) (ret0 rfl  (List.Sublist.refl _) ⟨_, rfl, ?_⟩)) | refine ret_n (retok_pick (.cons (.there (.there .here)) (.cons (.there (.there .here)) (.cons (.there (.there .here)) (.cons (.there (.there .here)) .nil)))) (ret0 rfl  (List.Sublist.refl _) ⟨_, rfl, ?_⟩)))
    exact ⟨sv, rfl⟩
  | some x =>
    simp only [hx, Option.getD_some, Option.isSome_some] at hno
    repeat' (first | (with_reducible first | refine aw_seq ?_ | refine rl_nil ?_ | refine aw_region ?_ | refine then_n ?_ | refine aw_block ?_ | refine then_exit ?_ | refine then_ret ?_ | refine in_n ?_ | refine in_ret ?_ | refine aw_exit ?_ | refine aw_ret ?_ | refine aw_skip ?_ | refine in_exit_eq rfl ?_ | refine awr_succ ?_) | ((with_reducible refine k_move ?_); refine rl_pure (pv_move rfl) rfl rfl rfl ?_) | ((with_reducible refine k_assign ?_); refine rl_pure (pv_assign rfl) rfl rfl rfl ?_) | ((with_reducible refine k_load ?_); (first | refine rl_val (vv_load_box (by rfl) by_memb (by rfl) by_bd) rfl rfl rfl ?_ | refine rl_val (vv_load_box_whole (by rfl) by_memb (by rfl) (by first | rfl | exact cells_len _)) rfl rfl rfl ?_)) | ((with_reducible refine k_fieldAddr ?_); refine rl_pure (pv_fieldAddr rfl) rfl rfl rfl ?_) | ((with_reducible refine k_store ?_); (first | refine rl_op rfl (op_store_box_whole (by rfl) (by rfl) (V.okc_or (by rfl)) by_upd (by first | rfl | exact cells_len _) (by first | rfl | exact cells_len _) ?_) | refine rl_op rfl (op_store_box (by rfl) (by rfl) (V.okc_or (by rfl)) by_upd (by rfl) (by first | exact Nat.le_of_ble_eq_true rfl | assumption) ?_))) | ((with_reducible refine k_alloc ?_); refine rl_op rfl (op_alloc (by decide) rfl fun b => ?_)) | ((with_reducible refine k_box ?_); refine rl_op rfl (op_box rfl (V.okc_or (by rfl)) rfl fun b => ?_)) | ((with_reducible refine k_add ?_); refine rl_pure (pv_add_in rfl rfl (by omega)) rfl rfl rfl ?_) | ((with_reducible refine k_not ?_); refine rl_pure (pv_not rfl) rfl rfl rfl ?_) | ((with_reducible refine k_extract ?_); refine rl_pure (pv_extract rfl rfl) rfl rfl rfl ?_) | ((with_reducible refine k_makeFunc ?_); refine rl_pure (pv_makeFunc rfl) rfl rfl rfl ?_) | ((with_reducible refine k_cond ?_); refine aw_cond_f rfl ?_) | ((with_reducible refine k_callv ?_); refine rl_op rfl (op_callF rfl rfl (hno) rfl ?_)))
    have hI := index15 { x with packet := packet, proto := p } L sv
    rcases idx_spec alike { x with packet := packet, proto := p } L 0 with ⟨i, y, h1, h2, h3⟩ | ⟨h1, h3⟩
    · have h1' : idxBy alike { x with packet := packet, proto := p } L 0 = (i : Int) := by simpa using h1
      simp only [h1'] at hI
      (first | refine rl_op rfl (op_callR rfl rfl (.cons (.there (.there (.there (.there (.there .here))))) (.cons .here .nil)) (hI _) rfl ?_) | refine dl_op (by assumption) by_wants (op_callR rfl rfl (.cons (.there (.there (.there (.there (.there .here))))) (.cons .here .nil)) (hI _) rfl ?_))
      rintro _ _ ⟨rfl, rfl⟩
      have hy : (L.map NoteD.cells)[i]? = some y.cells := by simp [h2]
      have hi : i < L.length := (List.getElem?_eq_some_iff.1 h2).1
      repeat' (first | (with_reducible first | refine aw_seq ?_ | refine rl_nil ?_ | refine aw_region ?_ | refine then_n ?_ | refine aw_block ?_ | refine then_exit ?_ | refine then_ret ?_ | refine in_n ?_ | refine in_ret ?_ | refine aw_exit ?_ | refine aw_ret ?_ | refine aw_skip ?_ | refine in_exit_eq rfl ?_ | refine awr_succ ?_) | ((with_reducible refine k_move ?_); refine rl_pure (pv_move rfl) rfl rfl rfl ?_) | ((with_reducible refine k_assign ?_); refine rl_pure (pv_assign rfl) rfl rfl rfl ?_) | ((with_reducible refine k_load ?_); (first | refine rl_val (vv_load_vp (by rfl) by_memb by_bd (by rfl) by_bd) rfl rfl rfl ?_ | refine rl_val (vv_load_box (by rfl) by_memb (by rfl) by_bd) rfl rfl rfl ?_)) | ((with_reducible refine k_fieldAddr ?_); refine rl_pure (pv_fieldAddr_vp rfl) rfl rfl rfl ?_) | ((with_reducible refine k_store ?_); refine rl_op rfl (op_store_vp (by rfl) (by rfl) (V.okc_or (by rfl)) by_upd by_bd (by rfl) (by first | exact Nat.le_of_ble_eq_true rfl | assumption) ?_)) | ((with_reducible refine k_geq ?_); refine rl_pure (pv_geq rfl rfl) rfl rfl rfl ?_) | ((with_reducible refine k_indexAddr ?_); refine rl_pure (pv_indexAddr_own (by rfl) by_memb rfl (by first | omega | (simp only [List.length_cons, List.length_nil, List.length_append, List.length_map, List.length_replicate, List.length_set]; omega))) rfl rfl rfl ?_) | ((with_reducible refine k_cond ?_); refine aw_cond_t rfl ?_) | ((with_reducible refine k_add ?_); refine rl_pure (pv_add rfl rfl) rfl rfl rfl ?_))
      (first | refine ret_r (retok_pick (.cons (.there (.there (.there .here))) (.cons (.there (.there (.there .here))) (.cons (.there (.there (.there .here))) (.cons .here .nil)))) (ret0 rfl  (List.Sublist.refl _) ⟨_, rfl, ?_⟩)) | refine ret_n (retok_pick (.cons (.there (.there (.there .here))) (.cons (.there (.there (.there .here))) (.cons (.there (.there (.there .here))) (.cons .here .nil)))) (ret0 rfl  (List.Sublist.refl _) ⟨_, rfl, ?_⟩)))
      refine ⟨sv, ?_⟩
      show _ = [Ch.box bn 3 _, _, _, Ch.vec sv 38 7 ((addBy alike _ L).map NoteD.cells)]
      rw [h3, ← map_set_more]
      rfl
    · have h1' : idxBy alike { x with packet := packet, proto := p } L 0 = -1 := by simpa using h1
      simp only [h1'] at hI
      (first | refine rl_op rfl (op_callR rfl rfl (.cons (.there (.there (.there (.there (.there .here))))) (.cons .here .nil)) (hI _) rfl ?_) | refine dl_op (by assumption) by_wants (op_callR rfl rfl (.cons (.there (.there (.there (.there (.there .here))))) (.cons .here .nil)) (hI _) rfl ?_))
      rintro _ _ ⟨rfl, rfl⟩
      repeat' (first | (with_reducible first | refine aw_seq ?_ | refine rl_nil ?_ | refine aw_region ?_ | refine then_n ?_ | refine aw_block ?_ | refine then_exit ?_ | refine then_ret ?_ | refine in_n ?_ | refine in_ret ?_ | refine aw_exit ?_ | refine aw_ret ?_ | refine aw_skip ?_ | refine in_exit_eq rfl ?_ | refine awr_succ ?_) | ((with_reducible refine k_move ?_); refine rl_pure (pv_move rfl) rfl rfl rfl ?_) | ((with_reducible refine k_assign ?_); refine rl_pure (pv_assign rfl) rfl rfl rfl ?_) | ((with_reducible refine k_load ?_); (first | refine rl_val (vv_load_box (by rfl) by_memb (by rfl) by_bd) rfl rfl rfl ?_ | refine rl_val (vv_load_box_whole (by rfl) by_memb (by rfl) (by first | rfl | exact cells_len _)) rfl rfl rfl ?_)) | ((with_reducible refine k_geq ?_); refine rl_pure (pv_geq rfl rfl) rfl rfl rfl ?_) | ((with_reducible refine k_buildSlice ?_); refine rl_op rfl (op_buildSlice_ro rfl rfl rfl (by rfl) (by rfl) (by rfl) (by rfl) rfl by_rows ?_)) | ((with_reducible refine k_cond ?_); refine aw_cond_f rfl ?_))
      (first | refine rl_op rfl (op_append rfl .here rfl rfl rfl rfl (by intro r hr; rcases List.mem_singleton.1 hr with rfl; rfl) (by first | omega | (simp only [List.length_map, List.length_cons, List.length_nil]; omega)) rfl fun sv' => ?_) | (refine dl_op (by assumption) by_wants (op_append rfl .here rfl rfl rfl rfl (by intro r hr; rcases List.mem_singleton.1 hr with rfl; rfl) (by first | omega | (simp only [List.length_map, List.length_cons, List.length_nil]; omega)) rfl fun sv' => ?_); intro jd hjd))
      repeat' (first | (with_reducible first | refine aw_seq ?_ | refine rl_nil ?_ | refine aw_region ?_ | refine then_n ?_ | refine aw_block ?_ | refine then_exit ?_ | refine then_ret ?_ | refine in_n ?_ | refine in_ret ?_ | refine aw_exit ?_ | refine aw_ret ?_ | refine aw_skip ?_ | refine in_exit_eq rfl ?_ | refine awr_succ ?_) | ((with_reducible refine k_store ?_); refine rl_op rfl (op_store_box_whole (by rfl) (by rfl) (V.okc_or (by rfl)) by_upd (by first | rfl | exact cells_len _) (by first | rfl | exact cells_len _) ?_)))
      (first | refine ret_r (retok_pick (.cons (.there (.there (.there .here))) (.cons (.there (.there (.there .here))) (.cons (.there (.there (.there .here))) (.cons .here .nil)))) (ret0 rfl  (List.Sublist.refl _) ⟨_, rfl, ?_⟩)) | refine ret_n (retok_pick (.cons (.there (.there (.there .here))) (.cons (.there (.there (.there .here))) (.cons (.there (.there (.there .here))) (.cons .here .nil)))) (ret0 rfl  (List.Sublist.refl _) ⟨_, rfl, ?_⟩)))
      refine ⟨sv', ?_⟩
      show _ = [Ch.box bn 3 _, _, _, Ch.vec sv' 38 7 ((addBy alike _ L).map NoteD.cells)]
      rw [h3, List.map_append]
      rfl
end Go.Proofs.YtafpjnkfbfkjcaaGreatDoor
