import Derived.Test.YtbhbjlhobdoomaaDoorK20
import Derived.Shelf.Strings.Fields
import Derived.Test.YtbhbjlhobdoomaaDoorAx1
set_option linter.unusedVariables false
set_option linter.unusedSimpArgs false
namespace Go.Proofs.YtbhbjlhobdoomaaDoor
open Go Go.AX Go.Shelf
set_option maxHeartbeats 4000000
set_option maxRecDepth 20000
def lays157_ren : Go.Shelf.Ren := ⟨fun | 157 => 61 | 229 => 78 | 199 => 79 | 261 => 97 | 311 => 106 | 312 => 107 | n => n, fun | 9 => 9 | 31 => 51 | 3 => 3 | 5 => 5 | 4 => 4 | 119 => 94 | 0 => 0 | 40 => 96 | 152 => 114 | 21 => 21 | 154 => 116 | 51 => 90 | 141 => 118 | 196 => 128 | 193 => 125 | 198 => 131 | 49 => 129 | 194 => 126 | 201 => 134 | 226 => 137 | 46 => 55 | 227 => 138 | n => n, fun | 0 => 1 | 6 => 2 | n => n⟩
theorem lays157 : Lays.n157 Tryd.prog lays157_ren where
  mixed := by kernel_rfl
  f157 := Tryd.func61.trans (congrArg some (by kernel_rfl))
  f199 := Tryd.func79.trans (congrArg some (by kernel_rfl))
  f229 := Tryd.func78.trans (congrArg some (by kernel_rfl))
  f261 := Tryd.func97.trans (congrArg some (by kernel_rfl))
  f311 := Tryd.func106.trans (congrArg some (by kernel_rfl))
  f312 := Tryd.func107.trans (congrArg some (by kernel_rfl))
  t0 := Tryd.underlying0
  a0 := Tryd.isAgg0
  z0 := Tryd.sizeOf0
  v0 := Tryd.zeroValue0
  t3 := Tryd.underlying3
  a3 := Tryd.isAgg3
  z3 := Tryd.sizeOf3
  v3 := Tryd.zeroValue3
  t4 := Tryd.underlying4
  a4 := Tryd.isAgg4
  z4 := Tryd.sizeOf4
  v4 := Tryd.zeroValue4
  t5 := Tryd.underlying5
  a5 := Tryd.isAgg5
  z5 := Tryd.sizeOf5
  v5 := Tryd.zeroValue5
  t9 := Tryd.underlying9
  a9 := Tryd.isAgg9
  z9 := Tryd.sizeOf9
  v9 := Tryd.zeroValue9
  t21 := Tryd.underlying21
  a21 := Tryd.isAgg21
  z21 := Tryd.sizeOf21
  v21 := Tryd.zeroValue21
  t31 := Tryd.underlying51
  a31 := Tryd.isAgg51
  z31 := Tryd.sizeOf51
  v31 := Tryd.zeroValue51
  t40 := Tryd.underlying96
  a40 := Tryd.isAgg96
  z40 := Tryd.sizeOf96
  v40 := Tryd.zeroValue96
  t46 := Tryd.underlying55
  a46 := Tryd.isAgg55
  z46 := Tryd.sizeOf55
  v46 := Tryd.zeroValue55
  t49 := Tryd.underlying129
  a49 := Tryd.isAgg129
  z49 := Tryd.sizeOf129
  v49 := Tryd.zeroValue129
  t51 := Tryd.underlying90
  a51 := Tryd.isAgg90
  z51 := Tryd.sizeOf90
  v51 := Tryd.zeroValue90
  t119 := Tryd.underlying94
  a119 := Tryd.isAgg94
  z119 := Tryd.sizeOf94
  t141 := Tryd.underlying118
  a141 := Tryd.isAgg118
  z141 := Tryd.sizeOf118
  v141 := Tryd.zeroValue118
  t152 := Tryd.underlying114
  a152 := Tryd.isAgg114
  z152 := Tryd.sizeOf114
  v152 := Tryd.zeroValue114
  t154 := Tryd.underlying116
  a154 := Tryd.isAgg116
  z154 := Tryd.sizeOf116
  v154 := Tryd.zeroValue116
  t193 := Tryd.underlying125
  a193 := Tryd.isAgg125
  z193 := Tryd.sizeOf125
  v193 := Tryd.zeroValue125
  t194 := Tryd.underlying126
  a194 := Tryd.isAgg126
  z194 := Tryd.sizeOf126
  v194 := Tryd.zeroValue126
  t196 := Tryd.underlying128
  a196 := Tryd.isAgg128
  z196 := Tryd.sizeOf128
  v196 := Tryd.zeroValue128
  t198 := Tryd.underlying131
  a198 := Tryd.isAgg131
  z198 := Tryd.sizeOf131
  v198 := Tryd.zeroValue131
  t201 := Tryd.underlying134
  a201 := Tryd.isAgg134
  z201 := Tryd.sizeOf134
  v201 := Tryd.zeroValue134
  t226 := Tryd.underlying137
  a226 := Tryd.isAgg137
  z226 := Tryd.sizeOf137
  v226 := Tryd.zeroValue137
  t227 := Tryd.underlying138
  a227 := Tryd.isAgg138
  z227 := Tryd.sizeOf138
  v227 := Tryd.zeroValue138
  g0 := by kernel_rfl
  g6 := by kernel_rfl
/-- The table of the bytes that are blanks. -/
def spaceV : List Value := Lib.asciiSpaceTab.map fun z => Value.int .u8 z
def ks : List (Nat × TypeId × List Value) := [(lays157_ren.g 0, 94, spaceV)]
theorem fields61 (s : ByteArray) (hs : s.size < 4294967281) (hascii : ∀ (j : Nat) b, s.data.toList[j]? = some b → b.toNat < 128) (hm : (Lib.fields s.data.toList).length ≤ maxLen) :
    FunK Tryd.prog ks 61 [str s] (.ro ((Lib.fields s.data.toList).map fun l => [str ⟨l.toArray⟩])) := by
  have := funK_of_calls (P := Tryd.prog) (ks := ks) (f := 61) (args := [.string s]) (u := .ro ((Lib.fields s.data.toList).map fun l => [str ⟨l.toArray⟩])) fun W hW => ?_
  · exact this
  have hT : ∀ c : Nat, c < 256 → W.cell? ⟨lays157_ren.g 0, c, none⟩ = some (.int .u8 (if Lib.isSp (UInt8.ofNat c) then 1 else 0)) := fun c hc => by
    have h1 : W.heap[1]? = some (.cells spaceV.toArray 94 (0, 0)) := hW _ (List.mem_singleton.2 rfl)
    have h2 : spaceV[c]? = some (.int .u8 (if Lib.isSp (UInt8.ofNat c) then 1 else 0)) := by
      unfold spaceV Lib.asciiSpaceTab
      rw [List.map_map, List.getElem?_map, List.getElem?_range hc]
      rfl
    show W.cell? ⟨1, c, none⟩ = _
    simp only [World.cell?, h1]
    simpa using h2
  refine (Any.strings_Fields_core lays157 (by kernel_rfl) s W hs hascii hT).mono fun e w' ⟨he, hw⟩ => ?_
  subst hw
  refine ⟨_, he, ⟨rfl, rfl, rfl, by simp, fun b hb => heap_alloc_old W _ hb⟩, fun ow how => ?_⟩
  have := conc_ro_new (W := W) (w' := W.alloc (.cells ((Lib.fields s.data.toList).map fun l => Value.string ⟨l.toArray⟩).toArray 9)) (ow := ow) how (A := W.heap.size) (c := (Lib.fields s.data.toList).length) (n := (Lib.fields s.data.toList).length) (vs := (Lib.fields s.data.toList).map fun l => Value.string ⟨l.toArray⟩) (Nat.le_refl _) (by simp) (by simp) (Nat.le_refl _) hm fun i v hi => by
    refine ⟨?_, ?_⟩
    · simp only [World.cell?, heap_alloc_new]
      simpa using hi
    · rw [List.getElem?_map] at hi
      cases h : (Lib.fields s.data.toList)[i]? with
      | none => rw [h] at hi; cases hi
      | some l => rw [h] at hi; cases hi; rfl
  rw [List.map_map] at this
  exact this
def signsText : ByteArray := ⟨([60, 60, 32, 62, 62, 32, 61, 61, 32, 33, 61, 32, 60, 61, 32, 62, 61, 32, 38, 38, 32, 124, 124, 32, 46, 46, 32, 123, 32, 125, 32, 40, 32, 41, 32, 91, 32, 93, 32].append [44, 32, 59, 32, 58, 32, 63, 32, 43, 32, 45, 32, 42, 32, 47, 32, 37, 32, 38, 32, 124, 32, 94, 32, 126, 32, 60, 32, 62, 32, 33, 32, 61, 32, 46, 32, 35, 32, 64]).toArray⟩
theorem signsText_ascii : ∀ b ∈ signsText.data.toList, b.toNat < 128 := by decide +kernel
theorem signsText_fields : Lib.fields signsText.data.toList = sigs.map fun g => g.data.toList := by decide +kernel
theorem signs42 : FunK Tryd.prog ks 42 [] (.ro (rowS sigs)) := by
  have h := fields61 signsText (by decide +kernel) (fun j b hj => signsText_ascii b (List.mem_of_getElem? hj)) (by rw [signsText_fields]; decide +kernel)
  rw [signsText_fields, List.map_map] at h
  refine TriR.of (tri_of Tryd.func42 rfl Tryd.ntmps42 rfl fun j => ?_)
  repeat' (first | (with_reducible first | refine aw_seq ?_ | refine rl_nil ?_ | refine aw_region ?_ | refine then_n ?_ | refine aw_block ?_ | refine then_exit ?_ | refine then_ret ?_ | refine in_n ?_ | refine in_ret ?_ | refine aw_exit ?_ | refine aw_ret ?_ | refine aw_skip ?_ | refine in_exit_eq rfl ?_ | refine awr_succ ?_) | ((with_reducible refine k_assign ?_); refine rl_pure (pv_assign rfl) rfl rfl rfl ?_))
  (first | refine rl_op rfl (op_callR rfl rfl (.cons .here .nil) h rfl ?_) | refine dl_op (by assumption) by_wants (op_callR rfl rfl (.cons .here .nil) h rfl ?_))
  rintro _ _ ⟨rfl, rfl⟩
  repeat' (first | (with_reducible first | refine aw_seq ?_ | refine rl_nil ?_ | refine aw_region ?_ | refine then_n ?_ | refine aw_block ?_ | refine then_exit ?_ | refine then_ret ?_ | refine in_n ?_ | refine in_ret ?_ | refine aw_exit ?_ | refine aw_ret ?_ | refine aw_skip ?_ | refine in_exit_eq rfl ?_ | refine awr_succ ?_) | ((with_reducible refine k_assign ?_); refine rl_pure (pv_assign rfl) rfl rfl rfl ?_))
  refine ret_r (ret1 rfl by_res (H' := ks.map kbox) (by rw [List.map_nil, List.append_nil]; exact List.Sublist.refl _) ⟨_, rfl, ?_, rfl⟩)
  refine congrArg V.ro (List.map_congr_left fun g _ => ?_)
  show [str ⟨g.data.toList.toArray⟩] = [str g]
  rw [Array.toArray_toList]
end Go.Proofs.YtbhbjlhobdoomaaDoor
