import Derived.Test.YtbhbjlhobdoomaaDoorK19
set_option linter.unusedVariables false
set_option linter.unusedSimpArgs false
namespace Go.Proofs.YtbhbjlhobdoomaaDoor
open Go Go.AX
set_option maxHeartbeats 4000000
set_option maxRecDepth 20000
/-- A text stands in another one at a place, and what follows it there is nothing or the end of a line. -/
structure Emb (J s : ByteArray) (d : Nat) : Prop where
  le : d + s.size ≤ J.size
  eq : ∀ k : Nat, k < s.size → bt J (d + k : Nat) = bt s k
  nx : d + s.size < J.size → bt J (d + s.size : Nat) = 10
variable {J s : ByteArray} {d : Nat}
theorem emb_in (E : Emb J s d) {k : Nat} (h : k < s.size) : ba J (d + k) = ba s k := by
  rw [ba_in h, ba_in (by have := E.le; omega), E.eq k h]
theorem emb_end (E : Emb J s d) : ba J (d + s.size) = 0 ∨ ba J (d + s.size) = 10 := by
  by_cases h : d + s.size < J.size
  · right; rw [ba_in h, E.nx h]
  · left; exact ba_out h
theorem ba_end (s : ByteArray) : ba s s.size = 0 := ba_out (Nat.lt_irrefl _)
/-- What asks of a byte that is neither 0 nor 10 asks the same in both. -/
theorem emb_ask (E : Emb J s d) {c : Int → Prop} (h0 : ¬ c 0) (h1 : ¬ c 10) {k : Nat} (hk : k ≤ s.size) : c (ba J (d + k)) ↔ c (ba s k) := by
  rcases Nat.lt_or_ge k s.size with h | h
  · rw [emb_in E h]
  · obtain rfl : k = s.size := by omega
    rw [ba_end]
    rcases emb_end E with e | e
    · rw [e]
    · rw [e]; exact ⟨fun q => absurd q h1, fun q => absurd q h0⟩
theorem emb_run (E : Emb J s d) {c : Int → Bool} (h1 : c 10 = false) : ∀ (n k : Nat), s.size - k ≤ n → k ≤ s.size → run c J (d + k) = d + run c s k
  | n, k, hn, hk => by
    have hle := E.le
    by_cases h : k < s.size ∧ c (bt s k) = true
    · rw [run_go h.1 h.2, run_go (s := J) (k := d + k) (by omega) (by rw [E.eq k h.1]; exact h.2)]
      cases n with
      | zero => omega
      | succ n => exact emb_run E h1 n (k + 1) (by omega) (by omega)
    · rw [run_no h, run_no]
      rintro ⟨q1, q2⟩
      rcases Nat.lt_or_ge k s.size with g | g
      · rw [E.eq k g] at q2; exact h ⟨g, q2⟩
      · obtain rfl : k = s.size := by omega
        rw [E.nx q1, h1] at q2; cases q2
theorem emb_pt (E : Emb J s d) {k : Nat} (hk : k ≤ s.size) : isPt (ba J (d + k)) ↔ isPt (ba s k) := emb_ask E (c := fun b => isPt b) (by unfold isPt isLt isDg; omega) (by unfold isPt isLt isDg; omega) hk
theorem emb_dg (E : Emb J s d) {k : Nat} (hk : k ≤ s.size) : isDg (ba J (d + k)) ↔ isDg (ba s k) := emb_ask E (c := fun b => isDg b) (by unfold isDg; omega) (by unfold isDg; omega) hk
theorem emb_is (E : Emb J s d) {x : Int} (h0 : x ≠ 0) (h1 : x ≠ 10) {k : Nat} (hk : k ≤ s.size) : ba J (d + k) = x ↔ ba s k = x := emb_ask E (c := fun b => b = x) (fun e => h0 e.symm) (fun e => h1 e.symm) hk
theorem pt_lt {k : Nat} (h : isPt (ba s k)) : k < s.size := ba_lt (by unfold isPt isLt isDg at h; omega)
theorem emb_word (E : Emb J s d) : ∀ (n k : Nat), s.size - k ≤ n → k ≤ s.size → wordEnd J (d + k) = d + wordEnd s k
  | n, k, hn, hk => by
    by_cases h : isPt (ba s k)
    · have := pt_lt h
      rw [wordEnd_pt h, wordEnd_pt (s := J) (k := d + k) ((emb_pt E hk).2 h)]
      cases n with
      | zero => omega
      | succ n => exact emb_word E n (k + 1) (by omega) (by omega)
    · have h' : ¬ isPt (ba J (d + k)) := fun q => h ((emb_pt E hk).1 q)
      by_cases h2 : ba s k = 46 ∧ isPt (ba s (k + 1))
      · have := pt_lt h2.2
        rw [wordEnd_dot h h2, wordEnd_dot (s := J) (k := d + k) h' ⟨(emb_is E (by decide) (by decide) hk).2 h2.1, (emb_pt E (k := k + 1) (by omega)).2 h2.2⟩]
        cases n with
        | zero => omega
        | succ n => exact emb_word E n (k + 2) (by omega) (by omega)
      · rw [wordEnd_end h h2, wordEnd_end h']
        rintro ⟨q1, q2⟩
        have q1' := (emb_is E (by decide) (by decide) hk).1 q1
        have hlt := ba_lt (s := s) (k := k) (by omega)
        exact h2 ⟨q1', (emb_pt E (k := k + 1) (by omega)).1 q2⟩
theorem emb_satv (E : Emb J s d) {base : Int} {e : Nat} (he : e ≤ s.size) : ∀ (m k : Nat) (n : Int), e - k ≤ m → satv base J (d + e) (d + k) n = satv base s e k n
  | m, k, n, hm => by
    by_cases h : k < e
    · rw [satv_go h, satv_go (s := J) (k := d + k) (e := d + e) (by omega), E.eq k (by omega)]
      cases m with
      | zero => omega
      | succ m => exact emb_satv E he m (k + 1) _ (by omega)
    · rw [satv_end h, satv_end (by omega)]
theorem emb_val (E : Emb J s d) {base : Int} {f e : Nat} (he : e ≤ s.size) : val base J (d + f) (d + e) = val base s f e := emb_satv E he _ _ _ (Nat.le_refl _)
abbrev shp (d : Nat) (q : Nat × Nat) : Nat × Nat := (d + q.1, d + q.2)
theorem emb_runD (E : Emb J s d) {k : Nat} (hk : k ≤ s.size) : runD J (d + k) = d + runD s k := emb_run E (by decide) _ k (Nat.le_refl _) hk
theorem emb_runX (E : Emb J s d) {k : Nat} (hk : k ≤ s.size) : runX J (d + k) = d + runX s k := emb_run E (by decide) _ k (Nat.le_refl _) hk
theorem emb_parts (E : Emb J s d) : ∀ (n k : Nat), s.size - k ≤ n → k ≤ s.size → parts J (d + k) = (parts s k).map (shp d)
  | n, k, hn, hk => by
    have hg := runD_ge s k
    have hge := hg.2 hk
    have hr := emb_runD E hk
    by_cases h : ba s (runD s k) = 46 ∧ isDg (ba s (runD s k + 1))
    · have hl := ba_lt (s := s) (k := runD s k + 1) (by omega)
      have h' : ba J (runD J (d + k)) = 46 ∧ isDg (ba J (runD J (d + k) + 1)) := by
        rw [hr]
        exact ⟨(emb_is E (by decide) (by decide) hge).2 h.1, (emb_dg E (k := runD s k + 1) (by omega)).2 h.2⟩
      rw [parts_more h, parts_more h', hr, List.map_cons]
      cases n with
      | zero => omega
      | succ n => exact congrArg _ (emb_parts E n (runD s k + 1) (by omega) (by omega))
    · rw [parts_last h, parts_last, hr]
      · rfl
      · rw [hr]
        rintro ⟨q1, q2⟩
        have q1' := (emb_is E (by decide) (by decide) hge).1 q1
        have hlt := ba_lt (s := s) (k := runD s k) (by omega)
        exact h ⟨q1', (emb_dg E (k := runD s k + 1) (by omega)).1 q2⟩
theorem pEnd_map (d : Nat) : ∀ l : List (Nat × Nat), l ≠ [] → pEnd (l.map (shp d)) = d + pEnd l
  | [], h => absurd rfl h
  | [q], _ => rfl
  | _ :: p :: l, _ => pEnd_map d (p :: l) (by simp)
theorem emb_pv (E : Emb J s d) {q : Nat × Nat} (h : q.2 ≤ s.size) : pv J (shp d q) = pv s q := emb_val E h
theorem emb_okP (E : Emb J s d) {l : List (Nat × Nat)} (h : ∀ q ∈ l, q.2 ≤ s.size) : okP J (l.map (shp d)) = okP s l := by
  have hall : ∀ l : List (Nat × Nat), (∀ q ∈ l, q.2 ≤ s.size) → ((l.map (shp d)).all fun q => decide (pv J q ≤ 255)) = l.all fun q => decide (pv s q ≤ 255) := fun l => by
    induction l with
    | nil => intro _; rfl
    | cons a l ih =>
      intro hl
      rw [List.map_cons, List.all_cons, List.all_cons, ih (fun q hq => hl q (List.mem_cons_of_mem _ hq)), emb_pv E (hl a (List.mem_cons_self ..))]
  by_cases h1 : l.length = 1
  · match l, h1 with
    | [q], _ =>
      show decide (pv J (shp d q) ≤ 281474976710655) = decide (pv s q ≤ 281474976710655)
      rw [emb_pv E (h q (List.mem_singleton.2 rfl))]
  · rw [okP_many h1, okP_many (by rw [List.length_map]; exact h1), List.length_map, hall l h]
theorem emb_numP (E : Emb J s d) {l : List (Nat × Nat)} (h : ∀ q ∈ l, q.2 ≤ s.size) : numP J (l.map (shp d)) = numP s l := by
  have hf : ∀ (l : List (Nat × Nat)) (n : Int), (∀ q ∈ l, q.2 ≤ s.size) → (l.map (shp d)).foldl (fun n q => 256 * n + pv J q) n = l.foldl (fun n q => 256 * n + pv s q) n := fun l => by
    induction l with
    | nil => intro _ _; rfl
    | cons a l ih =>
      intro n hl
      rw [List.map_cons, List.foldl_cons, List.foldl_cons, ih _ (fun q hq => hl q (List.mem_cons_of_mem _ hq)), emb_pv E (hl a (List.mem_cons_self ..))]
  by_cases h1 : l.length = 1
  · match l, h1 with
    | [q], _ =>
      show pv J (shp d q) = pv s q
      rw [emb_pv E (h q (List.mem_singleton.2 rfl))]
  · rw [numP_many h1, numP_many (by rw [List.length_map]; exact h1), hf l 0 h]
theorem emb_hex (E : Emb J s d) {k : Nat} (hk : k < s.size) : (ba J (d + k) = 48 ∧ ba J (d + k + 1) = 120) ↔ (ba s k = 48 ∧ ba s (k + 1) = 120) := by
  rw [emb_is E (by decide) (by decide) (Nat.le_of_lt hk), show d + k + 1 = d + (k + 1) from rfl, emb_is E (by decide) (by decide) hk]
theorem emb_num (E : Emb J s d) {k : Nat} (hk : k < s.size) : numN J (d + k) = numN s k ∧ numE J (d + k) = d + numE s k ∧ numO J (d + k) = numO s k := by
  have hb := fun q hq => (parts_bound _ k (Nat.le_refl _) (Nat.le_of_lt hk) q hq).2.2
  unfold numN numE numO
  by_cases h : ba s k = 48 ∧ ba s (k + 1) = 120
  · have hl := ba_lt (s := s) (k := k + 1) (by omega)
    have hr := emb_runX E (k := k + 2) (by omega)
    have hr2 : runX J (d + k + 2) = d + runX s (k + 2) := hr
    have hrb : runX s (k + 2) ≤ s.size := (run_ge (c := fun b => decide (dgo b < 16)) _ (k + 2) (Nat.le_refl _)).2 (by omega)
    have hv : val 16 J (d + k + 2) (d + runX s (k + 2)) = val 16 s (k + 2) (runX s (k + 2)) := by have := emb_val E (base := 16) (f := k + 2) hrb; exact this
    rw [if_pos h, if_pos h, if_pos h, if_pos ((emb_hex E hk).2 h), if_pos ((emb_hex E hk).2 h), if_pos ((emb_hex E hk).2 h), hr2, hv]
    refine ⟨rfl, rfl, ?_⟩
    rw [Bool.eq_iff_iff, decide_eq_true_eq, decide_eq_true_eq]
    omega
  · have h' : ¬ (ba J (d + k) = 48 ∧ ba J (d + k + 1) = 120) := fun q => h ((emb_hex E hk).1 q)
    rw [if_neg h, if_neg h, if_neg h, if_neg h', if_neg h', if_neg h', emb_parts E _ k (Nat.le_refl _) (Nat.le_of_lt hk)]
    exact ⟨emb_numP E hb, pEnd_map d _ (parts_ne s k), emb_okP E hb⟩
theorem emb_esc (E : Emb J s d) {k : Nat} (hk : k ≤ s.size) {r : Int × Nat} (h : esc s k = some r) : esc J (d + k) = some (r.1, d + r.2) := by
  unfold esc at h
  split at h
  · rename_i h1
    have hl := ba_lt (s := s) (k := k) (by omega)
    cases h
    unfold esc
    rw [emb_in E hl, if_pos h1]
    rfl
  · rename_i h1
    split at h
    · rename_i h2
      have hl := ba_lt (s := s) (k := k) (by omega)
      cases h
      unfold esc
      rw [emb_in E hl, if_neg h1, if_pos h2]
      rfl
    · rename_i h2
      split at h
      · rename_i h3
        have hl := dgo_in h3.2.2
        cases h
        unfold esc
        rw [emb_in E (k := k) (by omega), show d + k + 1 = d + (k + 1) from rfl, show d + k + 2 = d + (k + 2) from rfl, emb_in E (k := k + 1) (by omega), emb_in E (k := k + 2) hl, if_neg h1, if_neg h2, if_pos h3]
        rfl
      · cases h
theorem emb_tx (E : Emb J s d) : ∀ (n k : Nat), s.size - k ≤ n → ∀ r, tx s k = some r → tx J (d + k) = some (r.1, d + r.2)
  | n, k, hn, r, hr => by
    by_cases h : k < s.size
    · have hJ : d + k < J.size := by have := E.le; omega
      have hb := E.eq k h
      by_cases h1 : bt s k = 34
      · rw [tx_quote h h1] at hr
        cases hr
        rw [tx_quote hJ (by rw [hb]; exact h1)]
        rfl
      · by_cases h2 : bt s k = 10 ∨ cls (bt s k) = 0
        · rw [tx_bad h h2] at hr; cases hr
        · by_cases h3 : bt s k = 92
          · cases he : esc s (k + 1) with
            | none => rw [tx_esc0 h h3 he] at hr; cases hr
            | some q =>
              have hq := esc_gt he
              rw [tx_esc1 h h3 he] at hr
              obtain ⟨u, hu, rfl⟩ := Option.map_eq_some_iff.1 hr
              cases n with
              | zero => omega
              | succ n =>
                have := emb_tx E n q.2 (by omega) u hu
                rw [tx_esc1 (s := J) (k := d + k) (r := (q.1, d + q.2)) hJ (by rw [hb]; exact h3) (emb_esc E (k := k + 1) h he), this]
                rfl
          · rw [tx_byte h h1 h2 h3] at hr
            obtain ⟨u, hu, rfl⟩ := Option.map_eq_some_iff.1 hr
            cases n with
            | zero => omega
            | succ n =>
              have := emb_tx E n (k + 1) (by omega) u hu
              rw [tx_byte (s := J) (k := d + k) hJ (by rw [hb]; exact h1) (by rw [hb]; exact h2) (by rw [hb]; exact h3), show d + k + 1 = d + (k + 1) from rfl, this, hb]
              rfl
    · rw [tx_end h] at hr; cases hr
theorem sigs_nl : ∀ g ∈ sigs, ∀ i : Fin 2, i.val < g.size → bt g (i.val : Nat) ≠ 10 := by decide +kernel
theorem emb_at (E : Emb J s d) {k : Nat} (hk : k ≤ s.size) {g : ByteArray} (hg : g ∈ sigs) : at? J (d + k) g = at? s k g := by
  rw [Bool.eq_iff_iff, at_iff, at_iff]
  have hle := E.le
  have hs2 := (sigs_small g hg).1
  constructor
  · rintro ⟨h1, h2⟩
    by_cases h : k + g.size ≤ s.size
    · refine ⟨h, fun i hi => ?_⟩
      rw [← h2 i hi, ← E.eq (k + i) (by omega), Nat.add_assoc]
    · exfalso
      have hi : s.size - k < g.size := by omega
      have h3 := h2 (s.size - k) hi
      rw [show d + k + (s.size - k) = d + s.size by omega, E.nx (by omega)] at h3
      exact sigs_nl g hg ⟨s.size - k, by omega⟩ hi h3.symm
  · rintro ⟨h1, h2⟩
    refine ⟨by omega, fun i hi => ?_⟩
    rw [← h2 i hi, ← E.eq (k + i) (by omega), Nat.add_assoc]
theorem find_congr {L : List ByteArray} {P Q : ByteArray → Bool} (h : ∀ g ∈ L, P g = Q g) : L.find? P = L.find? Q := by
  induction L with
  | nil => rfl
  | cons a L ih =>
    rw [List.find?_cons, List.find?_cons, h a (List.mem_cons_self ..), ih fun g hg => h g (List.mem_cons_of_mem _ hg)]
theorem emb_sgn (E : Emb J s d) {k : Nat} (hk : k ≤ s.size) : sgn sigs J (d + k) = sgn sigs s k := find_congr fun g hg => emb_at E hk hg
theorem emb_extract (E : Emb J s d) {k e : Nat} (he : e ≤ s.size) : J.extract (d + k) (d + e) = s.extract k e := by
  have hle := E.le
  refine byteArray_ext_bt ?_ fun i hi => ?_
  · rw [ByteArray.size_extract, ByteArray.size_extract]; omega
  · rw [ByteArray.size_extract] at hi
    rw [bt_extract (by omega), bt_extract (by omega), ← E.eq (k + i) (by omega)]
    rw [Nat.add_assoc]
theorem emb_tk (E : Emb J s d) {k : Nat} (hk : k < s.size) (hok : (tk sigs s k).ok = true) : tk sigs J (d + k) = { tk sigs s k with e := d + (tk sigs s k).e } := by
  have hb := E.eq k hk
  have hgt := tk_gt hk hok
  unfold tk at hok hgt ⊢
  rw [hb]
  by_cases h1 : isLt (bt s k)
  · rw [if_pos h1] at hok hgt
    rw [if_pos h1, if_pos h1, emb_word E _ k (Nat.le_refl _) (Nat.le_of_lt hk), emb_extract E hgt.2]
    rw [show ((d + wordEnd s k : Nat) : Int) - (d + k : Nat) = (wordEnd s k : Int) - k by omega]
  · rw [if_neg h1] at hok hgt
    rw [if_neg h1, if_neg h1]
    by_cases h2 : isDg (bt s k)
    · obtain ⟨n1, n2, n3⟩ := emb_num E hk
      rw [if_pos h2, if_pos h2, n1, n2, n3]
    · rw [if_neg h2] at hok hgt
      rw [if_neg h2, if_neg h2]
      by_cases h3 : bt s k = 34
      · rw [if_pos h3] at hok
        rw [if_pos h3, if_pos h3]
        dsimp only at hok ⊢
        unfold txO at hok
        cases ht : tx s (k + 1) with
        | none => rw [ht] at hok; cases hok
        | some r =>
          have := emb_tx E _ (k + 1) (Nat.le_refl _) r ht
          have h4 : tx J (d + k + 1) = some (r.1, d + r.2) := this
          unfold txO txR
          rw [h4, ht]
          rfl
      · rw [if_neg h3, if_neg h3]
        unfold sgT
        rw [emb_sgn E (Nat.le_of_lt hk)]
        dsimp only
        rw [Nat.add_assoc]
theorem emb_skip (E : Emb J s d) : ∀ (n k : Nat) (cm : Bool), s.size - k ≤ n → k ≤ s.size → (skip s cm k).2 = true →
    ((skip s cm k).1 < s.size → skip J cm (d + k) = (d + (skip s cm k).1, true)) ∧ ((skip s cm k).1 = s.size → ∃ cm2, skip J cm (d + k) = skip J cm2 (d + s.size))
  | n, k, cm, hn, hk, hok => by
    by_cases h : k < s.size
    · have hJ : d + k < J.size := by have := E.le; omega
      have hb := E.eq k h
      have ih : ∀ (m : Nat) (cm : Bool), k < m → m ≤ s.size → (skip s cm m).2 = true → ((skip s cm m).1 < s.size → skip J cm (d + m) = (d + (skip s cm m).1, true)) ∧ ((skip s cm m).1 = s.size → ∃ cm2, skip J cm (d + m) = skip J cm2 (d + s.size)) := fun m cm h1 h2 h3 => by
        cases n with
        | zero => omega
        | succ n => exact emb_skip E n m cm (by omega) h2 h3
      cases cm with
      | true =>
        by_cases h0 : cls (bt s k) = 0
        · rw [skip_bad h h0] at hok; cases hok
        · rw [skip_in h h0] at hok ⊢
          rw [skip_in (s := J) (k := d + k) hJ (by rw [hb]; exact h0), hb]
          exact ih (k + 1) _ (by omega) h hok
      | false =>
        by_cases h0 : cls (bt s k) = 1
        · rw [skip_blank h h0] at hok ⊢
          rw [skip_blank (s := J) (k := d + k) hJ (by rw [hb]; exact h0)]
          exact ih (k + 1) _ (by omega) h hok
        · by_cases h2 : ba s k = 47 ∧ ba s (k + 1) = 47
          · have hl := ba_lt (s := s) (k := k + 1) (by omega)
            rw [skip_open h2] at hok ⊢
            rw [skip_open (s := J) (k := d + k) ⟨by rw [emb_in E h]; exact h2.1, by rw [show d + k + 1 = d + (k + 1) from rfl, emb_in E hl]; exact h2.2⟩]
            exact ih (k + 2) _ (by omega) (by omega) hok
          · rw [skip_done h h0 h2]
            rw [skip_done (s := J) (k := d + k) hJ (by rw [hb]; exact h0) fun q => h2 ⟨by rw [← emb_in E h]; exact q.1, (emb_is E (by decide) (by decide) (k := k + 1) h).1 q.2⟩]
            exact ⟨fun _ => rfl, fun q => by dsimp only at q; omega⟩
    · obtain rfl : k = s.size := by omega
      rw [skip_end h]
      exact ⟨fun q => absurd q (Nat.lt_irrefl _), fun _ => ⟨cm, rfl⟩⟩
/-- A token, further on. -/
def shT (d : Nat) (t : Tok) : Tok := ⟨t.kd, t.n, d + t.a, t.t⟩
theorem emb_lxq (E : Emb J s d) : ∀ (n k : Nat), s.size - k ≤ n → k ≤ s.size → (lxq s (skip s false k)).2 = none →
    ∃ cm2, lxq J (skip J false (d + k)) = ((lxq s (skip s false k)).1.map (shT d) ++ (lxq J (skip J cm2 (d + s.size))).1, (lxq J (skip J cm2 (d + s.size))).2)
  | n, k, hn, hk, hok => by
    have hsk := emb_skip E _ k false (Nat.le_refl _) hk
    have hge := skip_ge (s := s) _ k false (Nat.le_refl _) hk
    rcases hr : skip s false k with ⟨r, ok⟩
    rw [hr] at hsk hge hok
    dsimp only at hge
    cases ok with
    | false => rw [lxq_wrong] at hok; cases hok
    | true =>
      obtain ⟨s1, s2⟩ := hsk rfl
      dsimp only at s1 s2
      rcases Nat.lt_or_ge r s.size with hlt | hlt
      · rw [s1 hlt]
        have hJ : d + r < J.size := by have := E.le; omega
        cases htk : (tk sigs s r).ok with
        | false => rw [lxq_bad hlt htk] at hok; cases hok
        | true =>
          have hgt := tk_gt hlt htk
          have hE := emb_tk E hlt htk
          rw [lxq_tok hlt htk] at hok ⊢
          cases n with
          | zero => omega
          | succ n =>
            obtain ⟨cm2, h2⟩ := emb_lxq E n (tk sigs s r).e (by omega) hgt.2 hok
            refine ⟨cm2, ?_⟩
            rw [lxq_tok (s := J) (k := d + r) hJ (by rw [hE]; exact htk), hE]
            dsimp only
            rw [h2]
            rfl
      · obtain rfl : r = s.size := by omega
        obtain ⟨cm2, h2⟩ := s2 rfl
        refine ⟨cm2, ?_⟩
        rw [h2, lxq_end (Nat.lt_irrefl _)]
        simp
end Go.Proofs.YtbhbjlhobdoomaaDoor
