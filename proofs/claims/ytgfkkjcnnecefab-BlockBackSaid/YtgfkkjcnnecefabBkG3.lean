/- The walks of code.fine, code.Cost, and the reference's countsFine, CostOf. -/
import Derived.Test.YtgfkkjcnnecefabBkG2
import Derived.Test.YtgfkkjcnnecefabShelf
import Derived.Deep.QuietTactic
import Derived.BigQuiet

namespace Go.Proofs.Ytgfkkjcnnecefab
open Go.RowKit Go.Lib Pl

theorem fold_min_ge : ∀ (l : List Int) (a b : Int), b ≤ l.foldl min a ↔ b ≤ a ∧ ∀ x ∈ l, b ≤ x
  | [], a, b => by simp
  | x :: l, a, b => by
    rw [List.foldl_cons, fold_min_ge l]
    simp only [List.mem_cons, forall_eq_or_imp]
    constructor
    · rintro ⟨h1, h2⟩; exact ⟨by omega, by omega, h2⟩
    · rintro ⟨h1, h2, h3⟩; exact ⟨by omega, h3⟩
theorem fold_max_le : ∀ (l : List Int) (a b : Int), l.foldl max a ≤ b ↔ a ≤ b ∧ ∀ x ∈ l, x ≤ b
  | [], a, b => by simp
  | x :: l, a, b => by
    rw [List.foldl_cons, fold_max_le l]
    simp only [List.mem_cons, forall_eq_or_imp]
    constructor
    · rintro ⟨h1, h2⟩; exact ⟨by omega, by omega, h2⟩
    · rintro ⟨h1, h2, h3⟩; exact ⟨by omega, h3⟩
theorem minOf_ge {l : List Int} (h : l ≠ []) (b : Int) : b ≤ Lib.minOf l ↔ ∀ x ∈ l, b ≤ x := by
  unfold Lib.minOf
  rw [fold_min_ge]
  cases l with
  | nil => exact absurd rfl h
  | cons a l =>
    simp only [List.headD_cons, List.mem_cons, forall_eq_or_imp]
    exact ⟨fun h => h.2, fun h => ⟨h.1, h⟩⟩
theorem maxOf_le {l : List Int} (h : l ≠ []) (b : Int) : Lib.maxOf l ≤ b ↔ ∀ x ∈ l, x ≤ b := by
  unfold Lib.maxOf
  rw [fold_max_le]
  cases l with
  | nil => exact absurd rfl h
  | cons a l =>
    simp only [List.headD_cons, List.mem_cons, forall_eq_or_imp]
    exact ⟨fun h => h.2, fun h => ⟨h.1, h⟩⟩
theorem fine_iff (c : List Int) : fineB c = true ↔ (∀ x ∈ c, 0 ≤ x) ∧ ∀ x ∈ c, x ≤ 2048 := by
  constructor
  · intro h
    have := fine_all h
    exact ⟨fun x hx => (this x hx).1, fun x hx => (this x hx).2⟩
  · rintro ⟨h1, h2⟩
    exact fine_of_all fun x hx => ⟨h1 x hx, h2 x hx⟩

set_option maxHeartbeats 1000000 in
set_option maxRecDepth 100000 in
theorem fine_any (c : List Int) (w : World) (hc : c.length = 16) :
    Calls Try.prog 17 #[A16 c] w fun e w' => e = .returned (.bool (fineB c)) ∧ Below w.heap.size w w' := by
  have hg0 := heap_alloc_new w (.cells (cells16 c) 22)
  have hbel := (Below.refl w.heap.size w).alloc (Nat.le_refl _) (.cells (cells16 c) 22)
  have HBEL := hide hbel
  have hne : c ≠ [] := by intro e; rw [e] at hc; simp at hc
  have hcell : ∀ j, j < c.length → (w.alloc (.cells (cells16 c) 22)).cell? ⟨w.heap.size, 0 + j, none⟩ = some (.int .i64 (c.getD j 0)) := fun j hj => by
    rw [Nat.zero_add]
    refine cell16 hg0 ?_
    rw [List.getD_eq_getElem?_getD, List.getElem?_eq_getElem hj]; rfl
  have ht : c.take 16 = c := List.take_of_length_le (by omega)
  have K1 := Try.slices_Min_int w.heap.size 0 16 16 c (w.alloc (.cells (cells16 c) 22)) (by omega) (by omega) (by omega) hcell
  have K2 := Try.slices_Max_int w.heap.size 0 16 16 c (w.alloc (.cells (cells16 c) 22)) (by omega) (by omega) (by omega) hcell
  rw [ht] at K1 K2
  have hf := fine_iff c
  rw [← minOf_ge hne, ← maxOf_le hne] at hf
  obtain ⟨a, ha⟩ : ∃ a, a = Lib.minOf c := ⟨_, rfl⟩
  obtain ⟨b, hb⟩ : ∃ b, b = Lib.maxOf c := ⟨_, rfl⟩
  rw [← ha] at K1 hf
  rw [← hb] at K2 hf
  have K1 := hide K1
  have K2 := hide K2
  clear ha hb hcell hg0 hbel ht hne
  cases hfb : fineB c with
  | true =>
    obtain ⟨h1, h2⟩ := hf.1 hfb
    clear hf hfb
    go_enter Try.func17, Try.ntmps17
    go_wp2_with (first
      | (go_at_call 29; refine (unhide K1).mono ?_; rintro e w1 ⟨rfl, rfl⟩)
      | (go_at_call 30; refine (unhide K2).mono ?_; rintro e w1 ⟨rfl, rfl⟩))
    go_ret
    exact ⟨rfl, unhide HBEL⟩
  | false =>
    have hcs : (a < 0) ∨ (0 ≤ a ∧ 2048 < b ∧ decide (b ≤ 2048) = false) := by
      by_cases h1 : a < 0
      · exact .inl h1
      · refine .inr ⟨by omega, ?_⟩
        rcases Int.lt_or_le 2048 b with h2 | h2
        · exact ⟨h2, by simp; omega⟩
        · have := hf.2 ⟨by omega, h2⟩
          rw [hfb] at this; cases this
    clear hf hfb
    rcases hcs with h1 | ⟨h1, h2, h3⟩
    all_goals
      go_enter Try.func17, Try.ntmps17
      go_wp2_with (first
        | (go_at_call 29; refine (unhide K1).mono ?_; rintro e w1 ⟨rfl, rfl⟩)
        | (go_at_call 30; refine (unhide K2).mono ?_; rintro e w1 ⟨rfl, rfl⟩))
      go_ret
      exact ⟨rfl, unhide HBEL⟩

theorem badC_take {l : List Int} {k : Nat} {x : Int} (h : l[k]? = some x) : (l.take (k + 1)).any badC = ((l.take k).any badC || badC x) := by
  rw [List.take_add_one, h, List.any_append]; simp
theorem badC_of_take {l : List Int} {k : Nat} (h : (l.take k).any badC = true) : l.any badC = true := by
  rw [List.any_eq_true] at h ⊢
  obtain ⟨x, hx, hb⟩ := h
  exact ⟨x, List.mem_of_mem_take hx, hb⟩

/-- what has been summed -/
def Summed (l c : List Int) (k : Nat) (s : Int) : Prop := s = dotL (l.take k) (c.take k) ∧ lackL (l.take k) (c.take k) = false ∧ 0 ≤ s ∧ s ≤ 30720 * k
theorem Summed.step {l c : List Int} {k : Nat} {s x y : Int} (h : Summed l c k s) (hx : l[k]? = some x) (hy : c[k]? = some y) (bx : 0 ≤ x ∧ x ≤ 15) (by' : 0 ≤ y ∧ y ≤ 2048) (hl : ¬ (0 < y ∧ x = 0)) : Summed l c (k + 1) (s + y * x) := by
  obtain ⟨h1, h2, h3, h4⟩ := h
  have hm := mul_le_cost y x by' bx
  refine ⟨by rw [dot_take hx hy, h1], by rw [lack_take hx hy, h2]; simpa using hl, by omega, ?_⟩
  rw [Int.natCast_add, Int.mul_add]; omega

theorem costE_code {l c : List Int} (h : checkE l ≠ 0) : costE l c = checkE l ∧ costN l c = 0 := by unfold costE costN; simp [h]
theorem costE_range {l c : List Int} (h : checkE l = 0) (h2 : fineB c = false) : costE l c = 3 ∧ costN l c = 0 := by unfold costE costN; simp [h, h2]
theorem costE_none {l c : List Int} (h : checkE l = 0) (h2 : fineB c = true) (h3 : lackL l c = true) : costE l c = 5 ∧ costN l c = 0 := by unfold costE costN; simp [h, h2, h3]
theorem costE_ok {l c : List Int} (h : checkE l = 0) (h2 : fineB c = true) (h3 : lackL l c = false) : costE l c = 0 ∧ costN l c = dotL l c := by unfold costE costN; simp [h, h2, h3]

set_option maxHeartbeats 4000000 in
set_option maxRecDepth 100000 in
theorem cost_any (l c : List Int) (w : World) (hl : l.length = 16) (hc : c.length = 16) :
    Calls Try.prog 10 #[A16 l, A16 c] w fun e w' => e = .returned (.tuple #[I (costN l c), I (costE l c)]) ∧ Below w.heap.size w w' := by
  obtain ⟨w0, hw0⟩ : ∃ w0, w0 = (w.alloc (.cells (cells16 l) 22)).alloc (.cells (cells16 c) 22) := ⟨_, rfl⟩
  have hg1 : w0.heap[w.heap.size]? = some (.cells (cells16 l) 22 (0, 0)) := by
    rw [hw0]
    exact (Below.heap_alloc _ _ _ (by simp)).trans (heap_alloc_new w _)
  have hg2 : w0.heap[w.heap.size + 1]? = some (.cells (cells16 c) 22 (0, 0)) := by
    rw [hw0]
    have := heap_alloc_new (w.alloc (.cells (cells16 l) 22)) (.cells (cells16 c) 22)
    simpa using this
  have hbel : Below w.heap.size w w0 := by rw [hw0]; exact ((Below.refl _ _).alloc (Nat.le_refl _) _).alloc (by simp) _
  have hsz : w0.heap.size = w.heap.size + 2 := by rw [hw0]; simp
  have CK := checkCode_any l w0 hl
  have CF := fun (W : World) => fine_any c W hc
  have HG1 := hide hg1
  have HG2 := hide hg2
  have HL := hide hl
  have HC := hide hc
  have HBEL := hide hbel
  have HSZ := hide hsz
  have HW0 := hide hw0
  clear hg1 hg2 hl hc hbel hsz hw0
  go_enter Try.func10, Try.ntmps10
  obtain ⟨e0, he0⟩ : ∃ e0, e0 = checkE l := ⟨_, rfl⟩
  rw [← he0] at CK
  have CK := hide CK
  have HE0 := hide he0
  clear he0
  by_cases h0 : e0 = 0
  · subst h0
    have hv := checkE_zero (unhide HE0).symm
    have HV := hide hv.1
    clear hv
    go_wp2_with (first
      | (refine wpList_load16 rfl (.tmp 2) rfl w.heap.size rfl l (unhide HL) (by rw [← unhide HW0]; exact unhide HG1) ?_; rw [← unhide HW0])
      | fail)
    refine (unhide CK).mono ?_
    rintro e w1 ⟨rfl, hb1⟩
    have hg1 := (hb1.block w.heap.size (by have := unhide HSZ; omega)).trans (unhide HG1)
    have hg2 := (hb1.block (w.heap.size + 1) (by have := unhide HSZ; omega)).trans (unhide HG2)
    have HG3 := hide hg1
    have HG4 := hide hg2
    have hb1' := (unhide HBEL).trans (hb1.mono (unhide HBEL).size)
    have HB1 := hide hb1'
    clear hg1 hg2 hb1 hb1'
    obtain ⟨fb, hfb⟩ : ∃ fb, fb = fineB c := ⟨_, rfl⟩
    rw [← hfb] at CF
    have CF := hide CF
    have HFB := hide hfb
    clear hfb
    cases fb with
    | false =>
      go_wp2_with (first
        | (refine wpList_load16 rfl (.tmp 3) rfl (w.heap.size + 1) rfl c (unhide HC) (unhide HG4) ?_)
        | fail)
      refine (unhide CF _).mono ?_
      rintro e w2 ⟨rfl, hb2⟩
      go_wp2_with fail
      go_ret2
      obtain ⟨e1, e2⟩ := costE_range (unhide HE0).symm (unhide HFB).symm
      rw [e1, e2]
      exact ⟨rfl, (unhide HB1).trans (hb2.mono (unhide HB1).size)⟩
    | true =>
      have HCV := hide (fine_all (unhide HFB).symm)
      go_wp2_with (first
        | (refine wpList_load16 rfl (.tmp 3) rfl (w.heap.size + 1) rfl c (unhide HC) (unhide HG4) ?_)
        | fail)
      refine (unhide CF _).mono ?_
      rintro e w2 ⟨rfl, hb2⟩
      have hs1 := (Array.getElem?_eq_some_iff.1 (unhide HG4)).1
      have hg1 := (hb2.block w.heap.size (by omega)).trans (unhide HG3)
      have hg2 := (hb2.block (w.heap.size + 1) hs1).trans (unhide HG4)
      have HG5 := hide hg1
      have HG6 := hide hg2
      have hb2' := (unhide HB1).trans (hb2.mono (unhide HB1).size)
      have HB2 := hide hb2'
      clear hg1 hg2 hb2 hb2' hs1
      go_wp2_with (first
        | (refine wpList_load16 rfl (.tmp 3) rfl (w.heap.size + 1) rfl c (unhide HC) (unhide HG6) ?_)
        | fail)
      go_loop [7, 8, 9, 19] (fun s _ _ i => ∃ (k : Nat) (r : Int), k ≤ 16 ∧ i = .int .i64 k ∧ s = .int .i64 r ∧ Summed l c k r) (fun _ _ _ i => 16 - (intOf i).toNat)
      case atStart => exact ⟨0, 0, by omega, rfl, rfl, by simp [Summed, dotL, lackL]⟩
      case round =>
        obtain ⟨k, r, hk, rfl, rfl, hsm⟩ := hrel
        have hr0 := hsm.2.2.1
        have hr1 := hsm.2.2.2
        have HSM := hide hsm
        clear hsm
        by_cases hk16 : k < 16
        · obtain ⟨x, hx⟩ : ∃ x, l[k]? = some x := ⟨_, List.getElem?_eq_getElem (by have := unhide HL; omega)⟩
          obtain ⟨y, hy⟩ : ∃ y, c[k]? = some y := ⟨_, List.getElem?_eq_getElem (by have := unhide HC; omega)⟩
          have hix := run_index16 c (unhide HC) k y hy
          have hcx := cell16 (unhide HG5) hx
          have bx := unhide HV x (List.mem_of_getElem? hx)
          have bY := unhide HCV y (List.mem_of_getElem? hy)
          have hml := mul_le_cost y x bY bx
          have hmw : IntKind.i64.wrap (y * x) = y * x := IntWalk.i64_in _ ⟨by omega, by omega⟩
          have hmw2 : wrap64 (y * x) = y * x := IntWalk.wrap64_in _ ⟨by omega, by omega⟩
          have HX := hide hx
          have HY := hide hy
          have HBX := hide bx
          have HBY := hide bY
          clear hx hy bx bY
          by_cases hlk : 0 < y ∧ x = 0
          · obtain ⟨h1, rfl⟩ := hlk
            have hres : lackL l c = true := lack_of_take (k := k + 1) (by rw [lack_take (unhide HX) (unhide HY)]; simp [h1])
            have HRES := hide hres
            clear hres hml hmw hmw2
            go_wp2_with fail
            go_ret2
            obtain ⟨e1, e2⟩ := costE_none (unhide HE0).symm (unhide HFB).symm (unhide HRES)
            rw [e1, e2]
            exact ⟨rfl, unhide HB2⟩
          · have hst := (unhide HSM).step (unhide HX) (unhide HY) (unhide HBX) (unhide HBY) hlk
            have HST := hide hst
            have hcs : (¬ 0 < y) ∨ (0 < y ∧ (x == 0) = false) := by
              by_cases h : 0 < y
              · exact .inr ⟨h, by rw [beq_eq_false_iff_ne]; exact fun e => hlk ⟨h, e⟩⟩
              · exact .inl h
            clear hst hlk
            rcases hcs with h1 | ⟨h1, h2⟩
            all_goals
              go_wp2_with fail
              go_round
              case rel => exact ⟨k + 1, r + y * x, by omega, by go_num, rfl, unhide HST⟩
              case measure => simp [intOf]; omega
        · have hk16' : k = 16 := by omega
          have hsm := unhide HSM
          unfold Summed at hsm
          rw [hk16', List.take_of_length_le (by have := unhide HL; omega), List.take_of_length_le (by have := unhide HC; omega)] at hsm
          have HS9 := hide hsm
          clear hsm hk16'
          go_wp2_with fail
          go_ret2
          obtain ⟨e1, e2⟩ := costE_ok (unhide HE0).symm (unhide HFB).symm (unhide HS9).2.1
          rw [e1, e2, ← (unhide HS9).1]
          exact ⟨rfl, unhide HB2⟩
  · have z1 : ((e0 : Int) == 0) = false := by rw [beq_eq_false_iff_ne]; omega
    have z2 : ((e0 : Int) != 0) = true := by rw [bne_iff_ne]; omega
    have H0 := hide h0
    clear h0
    go_wp2_with (first
      | (refine wpList_load16 rfl (.tmp 2) rfl w.heap.size rfl l (unhide HL) (by rw [← unhide HW0]; exact unhide HG1) ?_; rw [← unhide HW0])
      | fail)
    refine (unhide CK).mono ?_
    rintro e w1 ⟨rfl, hb1⟩
    go_wp2_with fail
    go_ret2
    obtain ⟨e1, e2⟩ := costE_code (c := c) (by rw [← unhide HE0]; exact unhide H0)
    rw [e1, e2, ← unhide HE0]
    exact ⟨rfl, (unhide HBEL).trans (hb1.mono (unhide HBEL).size)⟩

end Go.Proofs.Ytgfkkjcnnecefab

/- The reference's BuildOf. -/
namespace Go.Proofs.Ytgfkkjcnnecefab
open Go.RowKit Go.Lib Pl

theorem encR_congr {t u : Tr} (h1 : t.1 = u.1) (h : ∀ j, j < 16 → has t j = has u j) : encR t = encR u := by
  unfold encR
  rw [h1]
  repeat rw [h _ (by omega)]
theorem encR_set {t u : Tr} {k : Nat} {v : Bool} (hk : k < 16) (h1 : t.1 = u.1) (h : ∀ j, j < 16 → has u j = if j = k then v else has t j) : (encR t).toArray.setIfInBounds k (.bool v) = (encR u).toArray := by
  apply Array.ext_getElem?
  intro j
  rw [Array.getElem?_setIfInBounds, List.getElem?_toArray, List.getElem?_toArray, List.size_toArray, encR_len]
  by_cases hj : j < 16
  · rw [encR_get u hj, encR_get t hj, h j hj]
    by_cases e : k = j
    · subst e; simp; omega
    · rw [if_neg e, if_neg (fun h => e h.symm)]
  · rw [if_neg (by omega)]
    by_cases e : j = 16
    · subst e; rw [encR_w, encR_w, h1]
    · rw [List.getElem?_eq_none (by rw [encR_len]; omega), List.getElem?_eq_none (by rw [encR_len]; omega)]
theorem encR_nil (x : Nat) : (encR (x, [])).toArray = #[.bool false, .bool false, .bool false, .bool false, .bool false, .bool false, .bool false, .bool false, .bool false, .bool false, .bool false, .bool false, .bool false, .bool false, .bool false, .bool false, I (x : Int)] := rfl
theorem encR_all0 (y : Nat) : (#[.bool false, .bool false, .bool false, .bool false, .bool false, .bool false, .bool false, .bool false, .bool false, .bool false, .bool false, .bool false, .bool false, .bool false, .bool false, .bool false, .int .i64 (y : Int)] : Array Value).all (·.oneCell') = true := all_oneCell_toArray (encR_one (y, []))
theorem has_def (t : Tr) (j : Nat) : has t j = decide (j ∈ t.2) := by unfold has; rfl
theorem has_one {x k : Nat} : ∀ j, j < 16 → has (x, [k]) j = if j = k then true else has (x, []) j := by
  intro j hj
  rw [has_def, has_def]
  by_cases e : j = k
  · subst e; simp
  · rw [if_neg e]; simp [e]
theorem has_mgI {a b : Tr} (ha : VT a) (hb : VT b) (i : Nat) (hi : i < 16) : ∀ j, j < 16 → has (mgI a b (i + 1)) j = if j = i then (has a i || has b i) else has (mgI a b i) j := by
  intro j hj
  rw [has_def, has_def, has_def, has_def]
  unfold mgI
  simp only
  have hm := mem_mg ha.lt hb.lt j
  by_cases e : j = i
  · subst e
    rw [if_pos rfl, ← Bool.decide_or, decide_eq_decide, List.mem_filter, hm]
    simp
  · rw [if_neg e, decide_eq_decide, List.mem_filter, List.mem_filter]
    simp only [decide_eq_true_eq]
    constructor
    · rintro ⟨h1, h2⟩; exact ⟨h1, by omega⟩
    · rintro ⟨h1, h2⟩; exact ⟨h1, by omega⟩
theorem mem_mgI {a b : Tr} (ha : VT a) (hb : VT b) (i : Nat) : (i ∈ mg a.2 b.2) ↔ (has a i || has b i) = true := by
  rw [mem_mg ha.lt hb.lt, has_def, has_def, Bool.or_eq_true, decide_eq_true_eq, decide_eq_true_eq]
theorem zero16v (w : World) : (zeroValue 22).run Try.prog w = .ok (A16 (Lf fun _ => 0)) w := (zero_of_info (n := 16) (by kernel_rfl)).1 w
theorem cells16_set (l : List Int) (i : Nat) (v : Int) : (cells16 l).setIfInBounds i (.int .i64 v) = cells16 (l.set i v) := by
  simp [cells16, List.map_set]
theorem cells16_one (l : List Int) : (cells16 l).all (·.oneCell') = true := by
  rw [Array.all_eq_true_iff_forall_mem]
  intro v hv
  simp only [cells16, List.mem_toArray, List.mem_map] at hv
  obtain ⟨x, _, rfl⟩ := hv
  rfl

/-- the three arrays -/
structure BAt (c L : List Int) (w wr : World) (B : Nat) : Prop where
  a : wr.heap[B]? = some (.cells (cells16 c) 22 (0, 0))
  z : wr.heap[B + 1]? = some (.cells (cells16 (Lf fun _ => 0)) 22 (0, 0))
  o : wr.heap[B + 2]? = some (.cells (cells16 L) 22 (0, 0))
  bel : Below B w wr
theorem BAt.size {c L : List Int} {w wr : World} {B : Nat} (h : BAt c L w wr B) : B + 3 ≤ wr.heap.size := (Array.getElem?_eq_some_iff.1 h.o).1
theorem BAt.below {c L : List Int} {w wr w1 : World} {B : Nat} (h : BAt c L w wr B) (hb : Below wr.heap.size wr w1) : BAt c L w w1 B := by
  have s := h.size
  exact ⟨(hb.block _ (by omega)).trans h.a, (hb.block _ (by omega)).trans h.z, (hb.block _ (by omega)).trans h.o, h.bel.trans (hb.mono (by omega))⟩
theorem BAt.below3 {c L : List Int} {w wr w1 : World} {B : Nat} (h : BAt c L w wr B) (hb : Below (B + 3) wr w1) : BAt c L w w1 B :=
  ⟨(hb.block _ (by omega)).trans h.a, (hb.block _ (by omega)).trans h.z, (hb.block _ (by omega)).trans h.o, h.bel.trans (hb.mono (by omega))⟩
theorem BAt.put {c L : List Int} {w wr : World} {B : Nat} (h : BAt c L w wr B) (i : Nat) (v : Int) : BAt c (L.set i v) w (wr.setCell ⟨B + 2, i, none⟩ (.int .i64 v)) B := by
  refine ⟨?_, ?_, ?_, ?_⟩
  · rw [heap_setCell_other _ _ _ _ (by show B ≠ B + 2; omega)]; exact h.a
  · rw [heap_setCell_other _ _ _ _ (by show B + 1 ≠ B + 2; omega)]; exact h.z
  · rw [heap_setCell_same _ _ _ _ _ _ h.o, cells16_set]
  · exact h.bel.setCell (by show B ≤ B + 2; omega) _
theorem BAt.start (c : List Int) (w : World) : BAt c (Lf fun _ => 0) w (((w.alloc (.cells (cells16 c) 22)).alloc (.cells (cells16 (Lf fun _ => 0)) 22)).alloc (.cells (cells16 (Lf fun _ => 0)) 22)) w.heap.size := by
  have e1 : (w.alloc (.cells (cells16 c) 22)).heap.size = w.heap.size + 1 := by simp
  have e2 : ((w.alloc (.cells (cells16 c) 22)).alloc (.cells (cells16 (Lf fun _ => 0)) 22)).heap.size = w.heap.size + 2 := by simp
  refine ⟨?_, ?_, ?_, (((Below.refl _ _).alloc (Nat.le_refl _) _).alloc (by simp) _).alloc (by simp; omega) _⟩
  · exact (Below.heap_alloc _ _ _ (by rw [e2]; omega)).trans (heap_alloc2_old _ _ _)
  · exact (Below.heap_alloc _ _ _ (by rw [e2]; omega)).trans (heap_alloc2_new _ _ _)
  · rw [← e2]; exact heap_alloc_new _ _
theorem BAt.res {c L : List Int} {w wr : World} {B : Nat} (h : BAt c L w wr B) (cs : Array Value) : (wr.setRow (B + 1) cs).heap[B + 1]? = some (.cells cs 22 (0, 0)) := setRow_heap _ _ _ _ _ _ h.z
theorem own_part {w : World} {base n : Nat} {v : Value} {e : TypeId} {size : Nat} {xs : List Value} (h : w.ownsRow base e size v n xs) {w' : World} (hg : ∀ k, base ≤ k → k < w.heap.size → w'.heap[k]? = w.heap[k]?) : w'.ownsRow base e size v n xs := by
  refine ⟨h.1, ?_⟩
  rcases h.2 with hn | ⟨g, cap, cur, hv, hb, hg', rest⟩
  · exact .inl hn
  · exact .inr ⟨g, cap, cur, hv, hb, (hg g hb (Array.getElem?_eq_some_iff.1 hg').1).trans hg', rest⟩
theorem sizeI : (Try.prog.info? 22).map (·.size) = some 16 := by kernel_rfl
theorem cells16_size {l : List Int} (h : l.length = 16) : (cells16 l).size = 16 := by simp [cells16, h]

def slLen : Value → Nat
  | .slice _ n _ => n
  | _ => 0
theorem own_upto {w : World} {base n : Nat} {v : Value} {e : TypeId} {size : Nat} {xs : List Value} (h : w.ownsRow base e size v n xs) {D : Nat} (hD : w.heap.size ≤ D) {w' : World} (hg : ∀ k, base ≤ k → k < D → w'.heap[k]? = w.heap[k]?) : w'.ownsRow base e size v n xs :=
  own_part h fun k h1 h2 => hg k h1 (by omega)
theorem build_le : ∀ (f : Nat) (l : List Tr) (i : Nat), build f l i ≤ f
  | 0, _, _ => Nat.le_refl _
  | f + 1, l, i => by
    rw [build]
    split
    · have := build_le f (‹List Tr› ++ [mgT ‹Tr› ‹Tr›]) i
      rename_i a b r _
      have := build_le f (r ++ [mgT a b]) i
      split <;> omega
    · omega
theorem cell_set_same {w : World} {p : Addr} {v : Value} (h : w.cell? p = some v) (u : Value) : (w.setCell p u).cell? p = some u := World.cell?_setCell_same' w p u (by rw [h]; rfl)
theorem cell_set_block {w : World} {p q : Addr} {u : Value} (h : q.block ≠ p.block) : (w.setCell p u).cell? q = w.cell? q :=
  World.cell?_of_block (Below.heap_setCell w p u q.block h)
theorem frozen_set {w : World} {p q : Addr} {u : Value} : (w.setCell p u).frozen? q = w.frozen? q := by simp

end Go.Proofs.Ytgfkkjcnnecefab

/- An array of 16 numbers in a variable. -/
namespace Go.Proofs.Ytgfkkjcnnecefab
open Go.RowKit Go.Lib Pl

/-- an array in a variable -/
structure BoxL (l : List Int) (w wr : World) (B D : Nat) : Prop where
  o : wr.heap[D]? = some (.cells (cells16 l) 22 (0, 0))
  le : B ≤ D
  bel : Below B w wr
theorem BoxL.lt {l : List Int} {w wr : World} {B D : Nat} (h : BoxL l w wr B D) : D < wr.heap.size := (Array.getElem?_eq_some_iff.1 h.o).1
theorem BoxL.below {l : List Int} {w wr w1 : World} {B D : Nat} (h : BoxL l w wr B D) (hb : Below wr.heap.size wr w1) : BoxL l w w1 B D :=
  ⟨(hb.block _ h.lt).trans h.o, h.le, h.bel.trans (hb.mono (Nat.le_of_lt (Nat.lt_of_le_of_lt h.le h.lt)))⟩
theorem BoxL.grown {l : List Int} {w wr w1 : World} {B D : Nat} {r : Option Nat} (h : BoxL l w wr B D) (hg : wr.grownBy w1 r) (hr : ∀ k, r = some k → D + 1 ≤ k) : BoxL l w w1 B D :=
  have hle := h.le
  ⟨(hg.block D h.lt (fun e => by have := hr D e.symm; omega)).trans h.o, h.le, h.bel.grown hg (Nat.le_of_lt (Nat.lt_of_le_of_lt h.le h.lt)) (fun k hk => by have := hr k hk; omega)⟩
theorem BoxL.drew {l : List Int} {w wr : World} {B D : Nat} (h : BoxL l w wr B D) : BoxL l w wr.drew B D := ⟨h.o, h.le, h.bel.drew⟩
theorem BoxL.alloc {l : List Int} {w wr : World} {B D : Nat} (h : BoxL l w wr B D) (o : Obj) : BoxL l w (wr.alloc o) B D := h.below ((Below.refl _ _).alloc (Nat.le_refl _) _)
theorem BoxL.put {l : List Int} {w wr : World} {B D : Nat} (h : BoxL l w wr B D) (i : Nat) (v : Int) : BoxL (l.set i v) w (wr.setCell ⟨D, i, none⟩ (.int .i64 v)) B D :=
  ⟨by rw [heap_setCell_same _ _ _ _ _ _ h.o, cells16_set], h.le, h.bel.setCell h.le _⟩
theorem BoxL.new (l : List Int) (w : World) : BoxL l w (w.alloc (.cells (cells16 l) 22)) w.heap.size w.heap.size := ⟨heap_alloc_new _ _, Nat.le_refl _, (Below.refl _ _).alloc (Nat.le_refl _) _⟩
/-- the array, laid into a new variable -/
theorem BoxL.laid {w w1 : World} {B : Nat} (l : List Int) (hb : Below B w w1) (hB : B ≤ w1.heap.size) : BoxL l w ((w1.alloc (.cells (cells16 (Lf fun _ => 0)) 22)).setRow w1.heap.size (cells16 l)) B w1.heap.size :=
  ⟨setRow_heap _ _ _ _ _ _ (heap_alloc_new _ _), hB, below_setRow (hb.alloc hB _) hB _⟩
theorem BoxL.free {l : List Int} {w wr : World} {B D : Nat} (h : BoxL l w wr B D) (i : Nat) : wr.frozen? ⟨D, i, none⟩ = false := frozen_of_row _ _ _ _ _ h.o
theorem BoxL.get {l : List Int} {w wr : World} {B D : Nat} (h : BoxL l w wr B D) {k : Nat} {x : Int} (hk : l[k]? = some x) : wr.cell? ⟨D, k, none⟩ = some (.int .i64 x) := cell16 h.o hk

end Go.Proofs.Ytgfkkjcnnecefab

/- Plain mathematics of chapter 2: reading toks; the laws of going back. No program in sight. -/
namespace Go.Proofs.Ytgfkkjcnnecefab
namespace Pl

theorem takeF_len : ∀ (f i n : Nat) (s : Bytes) (k : Nat) (r : Bytes), takeF f i n s = some (k, r) → r.length < s.length
  | 0, _, _, _, _, _, h => by simp [takeF] at h
  | f + 1, _, _, [], _, _, h => by simp [takeF] at h
  | f + 1, i, n, c :: t, k, r, h => by
    rw [takeF] at h
    split at h
    · have := takeF_len f _ _ t k r h; simp; omega
    · split at h
      · simp at h
      · simp only [Option.some.injEq, Prod.mk.injEq] at h
        obtain ⟨_, rfl⟩ := h; simp
theorem take_len {s : Bytes} {k : Nat} {r : Bytes} (h : take s = some (k, r)) : r.length < s.length := takeF_len 5 0 0 s k r h
theorem tokFrom_len {s r : Bytes} {t : Tok} (h : tokFrom s = some (t, r)) : r.length < s.length := by
  unfold tokFrom at h
  cases hk : take s with
  | none => rw [hk] at h; simp at h
  | some p =>
    obtain ⟨n, q⟩ := p
    have h1 := take_len hk
    rw [hk] at h
    simp only at h
    by_cases h2 : n % 2 = 0
    · rw [if_pos h2] at h
      by_cases h3 : q.length < n / 2
      · rw [if_pos h3] at h; simp at h
      · rw [if_neg h3] at h
        simp only [Option.some.injEq, Prod.mk.injEq] at h
        obtain ⟨_, rfl⟩ := h
        simp; omega
    · rw [if_neg h2] at h
      cases hf : take q with
      | none => rw [hf] at h; simp at h
      | some p2 =>
        obtain ⟨f, q2⟩ := p2
        have h3 := take_len hf
        rw [hf] at h
        simp only [Option.some.injEq, Prod.mk.injEq] at h
        obtain ⟨_, rfl⟩ := h
        omega

/-- all toks of some bytes, their form alone -/
def toksF : Nat → Bytes → Option (List Tok)
  | _, [] => some []
  | 0, _ :: _ => none
  | f + 1, c :: s' =>
    match tokFrom (c :: s') with
    | none => none
    | some (t, rest) => (toksF f rest).map (t :: ·)
def toksOf (s : Bytes) : Option (List Tok) := toksF s.length s

theorem toksF_fuel : ∀ (f g : Nat) (s : Bytes), s.length ≤ f → s.length ≤ g → toksF f s = toksF g s
  | f, g, [], _, _ => by cases f <;> cases g <;> rfl
  | 0, _, _ :: _, h, _ => by simp at h
  | _, 0, _ :: _, _, h => by simp at h
  | f + 1, g + 1, c :: s', hf, hg => by
    rw [toksF, toksF]
    cases h : tokFrom (c :: s') with
    | none => rfl
    | some p =>
      obtain ⟨t, r⟩ := p
      have := tokFrom_len h
      simp at this hf hg
      simp only
      rw [toksF_fuel f g r (by omega) (by omega)]
theorem readF_fuel (d : Nat) : ∀ (f g : Nat) (m : Bytes) (b : Bool) (s : Bytes), s.length ≤ f → s.length ≤ g → readF d f m b s = readF d g m b s
  | f, g, _, _, [], _, _ => by cases f <;> cases g <;> rfl
  | 0, _, _, _, _ :: _, h, _ => by simp at h
  | _, 0, _, _, _ :: _, _, h => by simp at h
  | f + 1, g + 1, m, b, c :: s', hf, hg => by
    rw [readF, readF]
    cases h : tokFrom (c :: s') with
    | none => rfl
    | some p =>
      obtain ⟨t, r⟩ := p
      have := tokFrom_len h
      simp at this hf hg
      simp only
      rw [readF_fuel d f g _ _ r (by omega) (by omega)]

theorem toksOf_nil : toksOf [] = some [] := rfl
theorem toksOf_none {s : Bytes} (hs : s ≠ []) (h : tokFrom s = none) : toksOf s = none := by
  cases s with
  | nil => exact absurd rfl hs
  | cons c s => unfold toksOf; rw [List.length_cons, toksF, h]
theorem toksOf_some {s r : Bytes} {t : Tok} (hs : s ≠ []) (h : tokFrom s = some (t, r)) : toksOf s = (toksOf r).map (t :: ·) := by
  cases s with
  | nil => exact absurd rfl hs
  | cons c s =>
    have := tokFrom_len h
    simp at this
    unfold toksOf; rw [List.length_cons, toksF, h]
    simp only
    rw [toksF_fuel s.length r.length r (by omega) (Nat.le_refl _)]
/-- what is read from a place on -/
def readR (d : Nat) (m : Bytes) (b : Bool) (s : Bytes) : Option (List Tok) := readF d s.length m b s
theorem readR_nil (d : Nat) (m : Bytes) (b : Bool) : readR d m b [] = some [] := rfl
theorem readR_none {d : Nat} {m : Bytes} {b : Bool} {s : Bytes} (hs : s ≠ []) (h : tokFrom s = none) : readR d m b s = none := by
  cases s with
  | nil => exact absurd rfl hs
  | cons c s => unfold readR; rw [List.length_cons, readF, h]
theorem readR_bad {d : Nat} {m : Bytes} {b : Bool} {s r : Bytes} {t : Tok} (hs : s ≠ []) (h : tokFrom s = some (t, r)) (he : tokE d m b t ≠ 0) : readR d m b s = none := by
  cases s with
  | nil => exact absurd rfl hs
  | cons c s => unfold readR; rw [List.length_cons, readF, h]; simp only; rw [if_pos he]
theorem readR_some {d : Nat} {m : Bytes} {b : Bool} {s r : Bytes} {t : Tok} (hs : s ≠ []) (h : tokFrom s = some (t, r)) (he : tokE d m b t = 0) :
    readR d m b s = (readR d (tokS m t) (isLit t) r).map (t :: ·) := by
  cases s with
  | nil => exact absurd rfl hs
  | cons c s =>
    have := tokFrom_len h
    simp at this
    unfold readR; rw [List.length_cons, readF, h]; simp only; rw [if_neg (by omega)]
    rw [readF_fuel d s.length r.length _ _ r (by omega) (Nat.le_refl _)]

/-- no error: some bytes more, and no more than there may be -/
theorem tokS_grow {d : Nat} {s : Bytes} {b : Bool} {t : Tok} (h : tokE d s b t = 0) (hd : d ≤ s.length) : s.length < (tokS s t).length ∧ (tokS s t).length - d ≤ 512 := by
  unfold tokE at h
  unfold tokS
  by_cases h1 : t.lit ≠ []
  · rw [if_pos h1] at h ⊢
    have hl : 0 < t.lit.length := List.length_pos_iff.2 h1
    split at h
    · omega
    · split at h
      · omega
      · simp; omega
  · rw [if_neg h1] at h ⊢
    rw [copyB_len]
    split at h
    · omega
    · split at h
      · omega
      · omega
theorem playF_room (d : Nat) : ∀ (l : List Tok) (s : Bytes) (b : Bool), (playF d s b l).2 = 0 → d ≤ s.length → s.length - d ≤ 512 → l.length + (s.length - d) ≤ 512
  | [], _, _, _, _, h => by simpa using h
  | t :: l, s, b, h, hd, hr => by
    rw [playF] at h
    by_cases he : tokE d s b t ≠ 0
    · rw [if_pos he] at h; exact absurd h he
    · rw [if_neg he] at h
      obtain ⟨h1, h2⟩ := tokS_grow (Decidable.not_not.1 he) hd
      have := playF_room d l _ _ h (by omega) h2
      simp; omega
theorem play_room {dict : Bytes} {l : List Tok} (h : (play dict l).2 = 0) : l.length ≤ 512 := by
  unfold play at h
  by_cases hd : maxDict < dict.length
  · rw [if_pos hd] at h; simp at h
  · rw [if_neg hd] at h
    have := playF_room dict.length l dict false h (Nat.le_refl _) (by omega)
    omega

/-- the toks of what is right -/
theorem playF_each (d : Nat) : ∀ (l : List Tok) (s : Bytes) (b : Bool), (playF d s b l).2 = 0 → d ≤ s.length → s.length - d ≤ 512 → ∀ t ∈ l, t.lit.length ≤ 512 ∧ 0 ≤ t.len ∧ t.len ≤ 64 ∧ 0 ≤ t.far ∧ t.far ≤ (d + 512 : Nat)
  | [], _, _, _, _, _ => by simp
  | t :: l, s, b, h, hd, hr => by
    rw [playF] at h
    by_cases he : tokE d s b t ≠ 0
    · rw [if_pos he] at h; exact absurd h he
    · rw [if_neg he] at h
      have he : tokE d s b t = 0 := Decidable.not_not.1 he
      obtain ⟨h1, h2⟩ := tokS_grow he hd
      intro u hu
      rcases List.mem_cons.1 hu with rfl | hu
      · unfold tokE at he
        by_cases h3 : u.lit ≠ []
        · rw [if_pos h3] at he
          split at he
          · omega
          · split at he
            · omega
            · rename_i h4 h5
              simp only [not_or, Decidable.not_not] at h4
              exact ⟨by omega, by omega, by omega, by omega, by omega⟩
        · rw [if_neg h3] at he
          simp only [ne_eq, Decidable.not_not] at h3
          rw [h3]
          split at he
          · omega
          · split at he
            · omega
            · exact ⟨by simp, by omega, by omega, by omega, by omega⟩
      · exact playF_each d l _ _ h (by omega) h2 u hu
theorem play_each {dict : Bytes} {l : List Tok} (h : (play dict l).2 = 0) : ∀ t ∈ l, t.lit.length ≤ 512 ∧ 0 ≤ t.len ∧ t.len ≤ 64 ∧ 0 ≤ t.far ∧ t.far ≤ 1000 := by
  unfold play at h
  by_cases hd : maxDict < dict.length
  · rw [if_pos hd] at h; simp at h
  · rw [if_neg hd] at h
    intro t ht
    have := playF_each dict.length l dict false h (Nat.le_refl _) (by omega) t ht
    unfold maxDict at hd
    omega

theorem readF_eq (d : Nat) : ∀ (f : Nat) (m : Bytes) (b : Bool) (s : Bytes), s.length ≤ f →
    readF d f m b s = match toksF f s with | none => none | some l => if (playF d m b l).2 = 0 then some l else none
  | f, m, b, [], _ => by cases f <;> simp [readF, toksF, playF]
  | 0, _, _, _ :: _, h => by simp at h
  | f + 1, m, b, c :: s', hf => by
    rw [readF, toksF]
    cases h : tokFrom (c :: s') with
    | none => rfl
    | some p =>
      obtain ⟨t, r⟩ := p
      have := tokFrom_len h
      simp at this hf
      simp only
      rw [readF_eq d f _ _ r (by omega)]
      cases toksF f r with
      | none => simp
      | some l =>
        simp only [Option.map_some]
        rw [playF]
        by_cases he : tokE d m b t ≠ 0
        · rw [if_pos he, if_pos he, if_neg he]
        · rw [if_neg he, if_neg he]
          by_cases h0 : (playF d (tokS m t) (isLit t) l).2 = 0
          · rw [if_pos h0, if_pos h0]; rfl
          · rw [if_neg h0, if_neg h0]; rfl
/-- B3: what is read -/
theorem read_eq {dict : Bytes} (hd : dict.length ≤ 256) (s : Bytes) : read dict s = match toksOf s with | none => none | some l => if (play dict l).2 = 0 then some l else none := by
  unfold read toksOf
  rw [readF_eq dict.length s.length dict false s (Nat.le_refl _)]
  cases toksF s.length s with
  | none => rfl
  | some l =>
    have e : play dict l = playF dict.length dict false l := by unfold play; exact if_neg (by unfold maxDict; omega)
    simp only; rw [e]
theorem read_none {dict s : Bytes} (hd : dict.length ≤ 256) (h : toksOf s = none) : read dict s = none := by rw [read_eq hd, h]
theorem read_bad {dict s : Bytes} {l : List Tok} (hd : dict.length ≤ 256) (h : toksOf s = some l) (hp : (play dict l).2 ≠ 0) : read dict s = none := by rw [read_eq hd, h]; exact if_neg hp
theorem read_good {dict s : Bytes} {l : List Tok} (hd : dict.length ≤ 256) (h : toksOf s = some l) (hp : (play dict l).2 = 0) : read dict s = some l := by rw [read_eq hd, h]; exact if_pos hp
theorem read_many {dict s r : Bytes} {l : List Tok} (hd : dict.length ≤ 256) (h : toksOf s = (toksOf r).map (l ++ ·)) (hl : 512 < l.length) : read dict s = none := by
  cases hr : toksOf r with
  | none => rw [hr] at h; exact read_none hd h
  | some k =>
    rw [hr] at h
    refine read_bad hd h fun hp => ?_
    have := play_room hp
    simp at this; omega

/-- a right tok's bytes, read -/
theorem tokFrom_tokB {d : Nat} {s : Bytes} {b : Bool} {t : Tok} (h : tokE d s b t = 0) (hs : s.length ≤ 1000) (rest : Bytes) : tokFrom (tokB t ++ rest) = some (t, rest) := by
  unfold tokE at h
  unfold tokB tokFrom
  by_cases h1 : t.lit ≠ []
  · rw [if_pos h1] at h ⊢
    split at h
    · omega
    · split at h
      · omega
      · rename_i h2 h3
        rw [List.append_assoc, take_nb (by unfold maxNum; omega)]
        have e1 : 2 * t.lit.length % 2 = 0 := by omega
        have e2 : 2 * t.lit.length / 2 = t.lit.length := by omega
        simp only [e1, e2, if_true]
        rw [if_neg (by simp)]
        obtain ⟨lit, far, len⟩ := t
        simp at h2 ⊢
        exact ⟨h2.1.symm, h2.2.1.symm⟩
  · rw [if_neg h1] at h ⊢
    split at h
    · omega
    · split at h
      · omega
      · rename_i h2 h3
        obtain ⟨lit, far, len⟩ := t
        simp only [ne_eq, Decidable.not_not] at h1
        subst h1
        simp only [not_or, Int.not_lt] at h2
        rw [List.append_assoc, take_nb (by unfold maxNum; omega)]
        have e1 : (2 * len.toNat + 1) % 2 = 1 := by omega
        have e2 : (2 * len.toNat + 1) / 2 = len.toNat := by omega
        simp only [e1, e2]
        rw [if_neg (by omega), take_nb (by unfold maxNum; omega)]
        simp only [Option.some.injEq, Prod.mk.injEq, and_true]
        congr 1 <;> omega
theorem tokB_ne (t : Tok) (h : tokB t = []) : False := by
  unfold tokB at h
  split at h <;> (have := congrArg List.length h; simp at this; have h2 := nb_pos (2 * t.lit.length); have h3 := nb_pos (2 * t.len.toNat + 1); first | (simp at h2; simp_all; done) | simp_all)
theorem toksOf_toksB (d : Nat) : ∀ (l : List Tok) (s : Bytes) (b : Bool), (playF d s b l).2 = 0 → d ≤ s.length → s.length - d ≤ 512 → d ≤ 256 → toksOf (toksB l) = some l
  | [], _, _, _, _, _, _ => rfl
  | t :: l, s, b, h, hd, hr, hd2 => by
    rw [playF] at h
    by_cases he : tokE d s b t ≠ 0
    · rw [if_pos he] at h; exact absurd h he
    · rw [if_neg he] at h
      have he : tokE d s b t = 0 := by omega
      obtain ⟨h1, h2⟩ := tokS_grow he hd
      rw [toksB, toksOf_some (fun e => tokB_ne t (List.append_eq_nil_iff.1 e).1) (tokFrom_tokB he (by omega) (toksB l)), toksOf_toksB d l _ _ h (by omega) h2 hd2]
      rfl
/-- READ OF WRITE IS THE TOKS -/
theorem read_write {dict : Bytes} {l : List Tok} (h : (write dict l).2 = 0) : read dict (write dict l).1 = some l := by
  unfold write at h ⊢
  by_cases hp : (play dict l).2 ≠ 0
  · rw [if_pos hp] at h; exact absurd h hp
  · rw [if_neg hp]
    have hp : (play dict l).2 = 0 := by omega
    have hd : dict.length ≤ 256 := by
      by_cases hd : dict.length ≤ 256
      · exact hd
      · unfold play at hp; rw [if_pos (by unfold maxDict; omega)] at hp; simp at hp
    refine read_good hd (toksOf_toksB dict.length l dict false ?_ (Nat.le_refl _) (by omega) hd) hp
    unfold play at hp; rwa [if_neg (by unfold maxDict; omega)] at hp

/-- what is read was written so -/
theorem tokB_tokFrom {d : Nat} {m : Bytes} {b : Bool} {s r : Bytes} {t : Tok} (h : tokFrom s = some (t, r)) (he : tokE d m b t = 0) : s = tokB t ++ r := by
  unfold tokFrom at h
  cases hk : take s with
  | none => rw [hk] at h; simp at h
  | some p =>
    obtain ⟨n, q⟩ := p
    obtain ⟨hs, _⟩ := take_some hk
    rw [hk] at h
    simp only at h
    by_cases h2 : n % 2 = 0
    · rw [if_pos h2] at h
      by_cases h3 : q.length < n / 2
      · rw [if_pos h3] at h; simp at h
      · rw [if_neg h3] at h
        simp only [Option.some.injEq, Prod.mk.injEq] at h
        obtain ⟨rfl, rfl⟩ := h
        have hne : q.take (n / 2) ≠ [] := by
          intro e
          unfold tokE at he
          simp only [e] at he
          simp at he
        have hl : (q.take (n / 2)).length = n / 2 := by simp; omega
        unfold tokB
        rw [if_pos hne]
        simp only [hl]
        rw [show 2 * (n / 2) = n from by omega, List.append_assoc, List.take_append_drop]; exact hs
    · rw [if_neg h2] at h
      cases hf : take q with
      | none => rw [hf] at h; simp at h
      | some p2 =>
        obtain ⟨f, q2⟩ := p2
        obtain ⟨hq, _⟩ := take_some hf
        rw [hf] at h
        simp only [Option.some.injEq, Prod.mk.injEq] at h
        obtain ⟨rfl, rfl⟩ := h
        unfold tokB
        rw [if_neg (by simp)]
        simp only [Int.toNat_natCast]
        rw [show 2 * (n / 2) + 1 = n from by omega, List.append_assoc, ← hq]; exact hs
theorem readF_back (d : Nat) : ∀ (f : Nat) (m : Bytes) (b : Bool) (s : Bytes) (l : List Tok), readF d f m b s = some l → s = toksB l
  | f, m, b, [], l, h => by cases f <;> (simp [readF] at h; subst h; rfl)
  | 0, _, _, _ :: _, _, h => by simp [readF] at h
  | f + 1, m, b, c :: s', l, h => by
    rw [readF] at h
    cases hk : tokFrom (c :: s') with
    | none => rw [hk] at h; simp at h
    | some p =>
      obtain ⟨t, r⟩ := p
      rw [hk] at h
      simp only at h
      by_cases he : tokE d m b t ≠ 0
      · rw [if_pos he] at h; simp at h
      · rw [if_neg he] at h
        cases hr : readF d f (tokS m t) (isLit t) r with
        | none => rw [hr] at h; simp at h
        | some k =>
          rw [hr] at h
          simp at h
          subst h
          rw [tokB_tokFrom hk (Decidable.not_not.1 he), toksB, readF_back d f _ _ _ _ hr]
/-- WRITE OF READ IS THE BYTES -/
theorem write_read {dict s : Bytes} {l : List Tok} (hd : dict.length ≤ 256) (h : read dict s = some l) : write dict l = (s, 0) := by
  have hb : s = toksB l := by unfold read at h; exact readF_back _ _ _ _ _ _ h
  have hp : (play dict l).2 = 0 := by
    rw [read_eq hd] at h
    cases hk : toksOf s with
    | none => rw [hk] at h; simp at h
    | some k =>
      rw [hk] at h
      simp only at h
      by_cases h0 : (play dict k).2 = 0
      · rw [if_pos h0] at h; simp at h; subst h; exact h0
      · rw [if_neg h0] at h; simp at h
  unfold write
  rw [if_neg (by omega), hb]

end Pl
end Go.Proofs.Ytgfkkjcnnecefab

/- Plain mathematics of chapter 2: play of parse is the text. No program in sight. -/
namespace Go.Proofs.Ytgfkkjcnnecefab
namespace Pl

theorem comeF_same (w : Bytes) (p far : Nat) : ∀ f n i, n ≤ i → i < comeF w p far f n → w.getD (p + i) 0 = w.getD (p + i - far) 0
  | 0, n, i, h1, h2 => by rw [comeF] at h2; omega
  | f + 1, n, i, h1, h2 => by
    rw [comeF] at h2
    by_cases h : p + n < w.length ∧ w.getD (p + n) 0 = w.getD (p + n - far) 0
    · rw [if_pos h] at h2
      by_cases e : i = n
      · rw [e]; exact h.2
      · exact comeF_same w p far f (n + 1) i (by omega) h2
    · rw [if_neg h] at h2; omega
theorem bestF_is (w : Bytes) (p : Nat) : ∀ f, (bestF w p f).2 ≠ 0 → 3 ≤ (bestF w p f).2 ∧ 1 ≤ (bestF w p f).1 ∧ (bestF w p f).1 ≤ f ∧ (bestF w p f).2 = come w p (bestF w p f).1
  | 0, h => by simp [bestF] at h
  | f + 1, h => by
    rw [bestF] at h ⊢
    by_cases h1 : 3 ≤ come w p (f + 1) ∧ (bestF w p f).2 < come w p (f + 1)
    · rw [if_pos h1]; exact ⟨h1.1, by simp, Nat.le_refl _, rfl⟩
    · rw [if_neg h1] at h ⊢
      obtain ⟨a, b, c, d⟩ := bestF_is w p f h
      exact ⟨a, b, by omega, d⟩

theorem take_next {w : Bytes} {k : Nat} (h : k < w.length) : w.take (k + 1) = w.take k ++ [w.getD k 0] := by
  rw [List.take_succ_eq_append_getElem h, List.getD_eq_getElem?_getD, List.getElem?_eq_getElem h]; rfl
theorem copyB_come (w : Bytes) (p far : Nat) (h1 : 1 ≤ far) (h2 : far ≤ p) (hp : p ≤ w.length) : ∀ n, n ≤ come w p far → copyB n far (w.take p) = w.take (p + n)
  | 0, _ => rfl
  | n + 1, h => by
    have hl := (come_le w p far hp).2
    have ih := copyB_come w p far h1 h2 hp n (by omega)
    have hs : w.getD (p + n) 0 = w.getD (p + n - far) 0 := comeF_same w p far 64 0 n (by omega) (by unfold come at h; omega)
    rw [copyB_snoc, ih, ← Nat.add_assoc, take_next (by omega), hs]
    congr 2
    rw [List.length_take, Nat.min_eq_left (by omega), List.getD_eq_getElem?_getD, List.getD_eq_getElem?_getD, List.getElem?_take, if_pos (by omega)]

theorem take_slice {w : Bytes} {a b : Nat} (h : a ≤ b) : w.take a ++ slice w a b = w.take b := by
  unfold slice
  have : w.take a = (w.take b).take a := by rw [List.take_take, Nat.min_eq_left h]
  rw [this, List.take_append_drop]

theorem flush_play {d : Nat} {w : Bytes} {a p : Nat} (ha : d ≤ a) (hap : a ≤ p) (hp : p ≤ w.length) (hw : w.length - d ≤ 512) (l : List Tok) :
    ∃ b, playF d (w.take a) false (flush w a p ++ l) = playF d (w.take p) b l := by
  unfold flush
  by_cases h : a < p
  · rw [if_pos h]
    refine ⟨true, ?_⟩
    have hl : (slice w a p).length = p - a := by rw [slice_len, Nat.min_eq_left hp]
    have hne : slice w a p ≠ [] := by intro e; rw [e] at hl; simp at hl; omega
    have he : tokE d (w.take a) false (litTok (slice w a p)) = 0 := by
      unfold tokE litTok
      simp only
      rw [if_pos hne, if_neg (by simp), if_neg (by rw [hl, List.length_take]; omega)]
    have hi : isLit (litTok (slice w a p)) = true := by
      unfold isLit litTok; simp [hne]
    have ht : tokS (w.take a) (litTok (slice w a p)) = w.take p := by
      unfold tokS litTok; simp only; rw [if_pos hne, take_slice hap]
    rw [List.cons_append, List.nil_append, playF, if_neg (by omega), hi, ht]
  · rw [if_neg h]
    obtain rfl : a = p := by omega
    exact ⟨false, rfl⟩

theorem parseF_play (d : Nat) (w : Bytes) (hw : w.length - d ≤ 512) : ∀ (f p a : Nat), d ≤ a → a ≤ p → p ≤ w.length → w.length ≤ p + f →
    playF d (w.take a) false (parseF w f p a) = (w.drop d, 0) := by
  have fin : ∀ p a : Nat, d ≤ a → a ≤ p → p = w.length → playF d (w.take a) false (flush w a p) = (w.drop d, 0) := by
    intro p a ha hap hp
    obtain ⟨b, hb⟩ := flush_play ha hap (by omega) hw []
    rw [List.append_nil] at hb
    rw [hb, playF, hp, List.take_length]
  intro f
  induction f with
  | zero => intro p a ha hap hp hf; rw [parseF]; exact fin p a ha hap (by omega)
  | succ f ih =>
    intro p a ha hap hp hf
    rw [parseF]
    by_cases h : p < w.length
    · rw [if_pos h]
      by_cases h2 : (best w p).2 = 0
      · rw [if_pos h2]; exact ih (p + 1) a ha (by omega) (by omega) (by omega)
      · rw [if_neg h2]
        obtain ⟨b3, b1, bp, bc⟩ := bestF_is w p p h2
        have hc := come_le w p (best w p).1 hp
        have bc : (best w p).2 = come w p (best w p).1 := bc
        have b3 : 3 ≤ (best w p).2 := b3
        have b1 : 1 ≤ (best w p).1 := b1
        have bp : (best w p).1 ≤ p := bp
        obtain ⟨b, hb⟩ := flush_play ha hap hp hw (copyTok (best w p).1 (best w p).2 :: parseF w f (p + (best w p).2) (p + (best w p).2))
        rw [hb, playF]
        have hlen : (w.take p).length = p := by rw [List.length_take]; omega
        have he : tokE d (w.take p) b (copyTok (best w p).1 (best w p).2) = 0 := by
          unfold tokE copyTok
          simp only
          rw [if_neg (by simp), if_neg (by rw [hlen]; omega), if_neg (by rw [hlen]; omega)]
        have ht : tokS (w.take p) (copyTok (best w p).1 (best w p).2) = w.take (p + (best w p).2) := by
          unfold tokS copyTok
          simp only [Int.toNat_natCast]
          rw [if_neg (by simp)]
          exact copyB_come w p _ b1 bp hp _ (by omega)
        have hi : isLit (copyTok (best w p).1 (best w p).2) = false := rfl
        rw [if_neg (by omega), ht, hi]
        exact ih _ _ (by omega) (Nat.le_refl _) (by omega) (by omega)
    · rw [if_neg h]; exact fin p a ha hap (by omega)

/-- PLAY OF PARSE IS THE TEXT -/
theorem play_parse {dict text : Bytes} (hd : dict.length ≤ 256) (ht : text.length ≤ 512) : play dict (parse dict text) = (text, 0) := by
  unfold play parse
  rw [if_neg (by unfold maxDict; omega)]
  have h := parseF_play dict.length (dict ++ text) (by simp; omega) text.length dict.length dict.length (Nat.le_refl _) (Nat.le_refl _) (by simp) (by simp)
  rw [List.take_left' rfl] at h
  rw [h, List.drop_left' rfl]

end Pl
end Go.Proofs.Ytgfkkjcnnecefab

/- Plain mathematics of chapter 3: writing and reading with a code. No program in sight. -/
namespace Go.Proofs.Ytgfkkjcnnecefab
namespace Pl

def zeros (n : Nat) : List Bool := List.replicate n false
theorem zeros_len (n : Nat) : (zeros n).length = n := List.length_replicate
theorem zeros_add (a b : Nat) : zeros a ++ zeros b = zeros (a + b) := List.replicate_append_replicate
theorem val_zeros (n : Nat) : val (zeros n) = 0 := by
  induction n with
  | zero => rfl
  | succ n ih =>
    have : zeros (n + 1) = zeros n ++ [false] := by rw [← zeros_add]; rfl
    rw [this, val_snoc, ih]; rfl
/-- bytes as bits -/
def unpackB (b : Bytes) : List Bool := b.flatMap fun c => bt c.toNat 8
theorem unpackB_cons (c : UInt8) (b : Bytes) : unpackB (c :: b) = bt c.toNat 8 ++ unpackB b := by simp [unpackB]
theorem unpackB_len (b : Bytes) : (unpackB b).length = 8 * b.length := by
  induction b with
  | nil => rfl
  | cons c b ih => rw [unpackB_cons, List.length_append, bt_len, ih, List.length_cons]; omega
theorem unpackB_app (a b : Bytes) : unpackB (a ++ b) = unpackB a ++ unpackB b := by simp [unpackB]
/-- at most eight bits, as a byte -/
def byteOfB (x : List Bool) : UInt8 := UInt8.ofNat (val x * 2 ^ (8 - x.length))
theorem byteOfB_nat {x : List Bool} (h : x.length ≤ 8) : (byteOfB x).toNat = val x * 2 ^ (8 - x.length) := by
  have h1 := val_lt x
  have h2 : val x * 2 ^ (8 - x.length) < 2 ^ x.length * 2 ^ (8 - x.length) := Nat.mul_lt_mul_of_pos_right h1 (Nat.pow_pos (by omega))
  rw [← Nat.pow_add, show x.length + (8 - x.length) = 8 from by omega] at h2
  show (UInt8.ofNat _).toNat = _
  rw [UInt8.toNat_ofNat']
  exact Nat.mod_eq_of_lt (by simpa using h2)
theorem bt_byteOfB {x : List Bool} (h : x.length ≤ 8) : bt (byteOfB x).toNat 8 = x ++ zeros (8 - x.length) := by
  rw [byteOfB_nat h]
  have h1 : val (x ++ zeros (8 - x.length)) = val x * 2 ^ (8 - x.length) := by rw [val_app, val_zeros, zeros_len]; omega
  have h2 := bt_val (x ++ zeros (8 - x.length))
  rw [h1, List.length_append, zeros_len, show x.length + (8 - x.length) = 8 from by omega] at h2
  exact h2
theorem byteOfB_bt (c : UInt8) : byteOfB (bt c.toNat 8) = c := by
  have := c.toNat_lt
  apply UInt8.toNat_inj.1
  rw [byteOfB_nat (by rw [bt_len]; omega), val_bt, bt_len]
  simp
def packN : Nat → List Bool → Bytes
  | 0, _ => []
  | n + 1, x => byteOfB (x.take 8) :: packN n (x.drop 8)
def packB (x : List Bool) : Bytes := packN ((x.length + 7) / 8) x
theorem packN_len (n : Nat) (x : List Bool) : (packN n x).length = n := by
  induction n generalizing x with
  | zero => rfl
  | succ n ih => rw [packN, List.length_cons, ih]
theorem unpack_packN : ∀ (n : Nat) (x : List Bool), x.length ≤ 8 * n → unpackB (packN n x) = x ++ zeros (8 * n - x.length)
  | 0, x, h => by
    have : x = [] := List.length_eq_zero_iff.1 (by omega)
    subst this; rfl
  | n + 1, x, h => by
    rw [packN, unpackB_cons, bt_byteOfB (by rw [List.length_take]; omega), unpack_packN n _ (by rw [List.length_drop]; omega), List.length_take, List.length_drop]
    by_cases h8 : 8 ≤ x.length
    · rw [show 8 - min 8 x.length = 0 from by omega, show 8 * n - (x.length - 8) = 8 * (n + 1) - x.length from by omega]
      rw [show zeros 0 = [] from rfl, List.append_nil, ← List.append_assoc, List.take_append_drop]
    · rw [List.take_of_length_le (by omega), List.drop_eq_nil_of_le (by omega), List.nil_append, List.append_assoc, zeros_add]
      congr 2; omega
theorem packN_unpack (b : Bytes) : packN b.length (unpackB b) = b := by
  induction b with
  | nil => rfl
  | cons c b ih =>
    rw [List.length_cons, packN, unpackB_cons]
    have h8 := bt_len 8 c.toNat
    rw [List.take_append_of_le_length (by omega), List.take_of_length_le (by omega), byteOfB_bt, List.drop_append_of_le_length (by omega), List.drop_eq_nil_of_le (by omega), List.nil_append, ih]
theorem unpackB_inj {a b : Bytes} (h : unpackB a = unpackB b) : a = b := by
  have hl := congrArg List.length h
  rw [unpackB_len, unpackB_len] at hl
  rw [← packN_unpack a, ← packN_unpack b, h, show a.length = b.length from by omega]
theorem packB_len (x : List Bool) : (packB x).length = (x.length + 7) / 8 := packN_len _ _
theorem unpack_packB (x : List Bool) : unpackB (packB x) = x ++ zeros (8 * ((x.length + 7) / 8) - x.length) := unpack_packN _ _ (by omega)
theorem pack_iff (x rest : List Bool) (b : Bytes) (h : unpackB b = x ++ rest) : packB x = b ↔ rest.length < 8 ∧ rest = zeros rest.length := by
  constructor
  · intro e
    have h2 := unpack_packB x
    rw [e, h] at h2
    have h3 := List.append_cancel_left h2
    rw [h3, zeros_len]
    exact ⟨by omega, rfl⟩
  · rintro ⟨h1, h2⟩
    apply unpackB_inj
    rw [unpack_packB, h]
    have hl := congrArg List.length h
    rw [unpackB_len, List.length_append] at hl
    rw [h2]
    congr 2; omega
/-- one byte more -/
theorem packN_app (n m : Nat) (x y : List Bool) (h : x.length = 8 * n) : packN (n + m) (x ++ y) = packN n x ++ packN m y := by
  induction n generalizing x with
  | zero =>
    have : x = [] := List.length_eq_zero_iff.1 (by omega)
    subst this; simp [packN]
  | succ n ih =>
    rw [show n + 1 + m = (n + m) + 1 from by omega, packN, packN, List.take_append_of_le_length (by omega), List.drop_append_of_le_length (by omega), ih _ (by rw [List.length_drop]; omega), List.cons_append]

theorem packN_snoc : ∀ (n : Nat) (x : List Bool), packN (n + 1) x = packN n x ++ [byteOfB ((x.drop (8 * n)).take 8)]
  | 0, x => by simp [packN]
  | n + 1, x => by
    rw [packN, packN_snoc n (x.drop 8), packN, List.cons_append, List.drop_drop, show 8 + 8 * n = 8 * (n + 1) from by omega]
theorem packN_pad (x : List Bool) (n : Nat) (h : x.length ≤ 8 * n) : packN n (x ++ zeros (8 * n - x.length)) = packN n x := by
  apply unpackB_inj
  rw [unpack_packN _ _ (by rw [List.length_append, zeros_len]; omega), unpack_packN _ _ h, List.length_append, zeros_len, show 8 * n - (x.length + (8 * n - x.length)) = 0 from by omega]
  simp [zeros]
/-- half bytes -/
def nibs (s : Bytes) : List Nat := s.flatMap fun c => [c.toNat / 16, c.toNat % 16]
theorem nibs_cons (c : UInt8) (s : Bytes) : nibs (c :: s) = c.toNat / 16 :: c.toNat % 16 :: nibs s := by simp [nibs]
theorem nibs_len (s : Bytes) : (nibs s).length = 2 * s.length := by
  induction s with
  | nil => rfl
  | cons c s ih => rw [nibs_cons, List.length_cons, List.length_cons, ih, List.length_cons]; omega
theorem nibs_lt (s : Bytes) : ∀ k ∈ nibs s, k < 16 := by
  induction s with
  | nil => intro k hk; simp [nibs] at hk
  | cons c s ih =>
    intro k hk
    have := c.toNat_lt
    rw [nibs_cons, List.mem_cons, List.mem_cons] at hk
    rcases hk with rfl | rfl | hk
    · omega
    · omega
    · exact ih k hk
theorem nibs_app (a b : Bytes) : nibs (a ++ b) = nibs a ++ nibs b := by simp [nibs]
def half : List Nat → Bytes
  | [] => []
  | [a] => [UInt8.ofNat (16 * a)]
  | a :: b :: r => UInt8.ofNat (16 * a + b) :: half r
theorem half_nibs (s : Bytes) : half (nibs s) = s := by
  induction s with
  | nil => rfl
  | cons c s ih =>
    rw [nibs_cons, half, ih, Nat.div_add_mod]
    congr 1
    exact UInt8.ofNat_toNat
theorem nibs_half : ∀ (ks : List Nat), ks.length % 2 = 0 → (∀ k ∈ ks, k < 16) → nibs (half ks) = ks
  | [], _, _ => rfl
  | [_], h, _ => by simp at h
  | a :: b :: r, h, hk => by
    have ha := hk a (by simp)
    have hb := hk b (by simp)
    have e : (UInt8.ofNat (16 * a + b)).toNat = 16 * a + b := by rw [UInt8.toNat_ofNat']; exact Nat.mod_eq_of_lt (by simp; omega)
    rw [half, nibs_cons, e, nibs_half r (by simp at h; omega) (fun k hk' => hk k (by simp [hk']))]
    congr 1
    · omega
    · congr 1; omega
theorem half_app : ∀ (a b : List Nat), a.length % 2 = 0 → half (a ++ b) = half a ++ half b
  | [], _, _ => rfl
  | [_], _, h => by simp at h
  | x :: y :: r, b, h => by
    rw [List.cons_append, List.cons_append, half, half, List.cons_append, half_app r b (by simp at h; omega)]
theorem half_len : ∀ (ks : List Nat), (half ks).length = (ks.length + 1) / 2
  | [] => rfl
  | [_] => by simp [half]
  | a :: b :: r => by rw [half, List.length_cons, half_len r, List.length_cons, List.length_cons]; omega

/-- the bits of a text -/
def encK (l : List Int) (ks : List Nat) : List Bool := ks.flatMap (wordB l)
theorem encK_app (l : List Int) (a b : List Nat) : encK l (a ++ b) = encK l a ++ encK l b := by simp [encK]
theorem encK_cons (l : List Int) (a : Nat) (b : List Nat) : encK l (a :: b) = wordB l a ++ encK l b := by simp [encK]
theorem encK_len {l : List Int} (h : Right l) (ks : List Nat) : (encK l ks).length ≤ 15 * ks.length := by
  induction ks with
  | nil => simp [encK]
  | cons a ks ih =>
    have := h.one a
    rw [encK_cons, List.length_append, wordB_len, List.length_cons]; omega
def lacks (l : List Int) (ks : List Nat) : Bool := ks.any fun k => decide (ln l k = 0)
def writeE (l : List Int) (s : Bytes) : Nat := if checkE l ≠ 0 then checkE l else if 1024 < s.length then 2 else if lacks l (nibs s) = true then 5 else 0
def writeS (l : List Int) (s : Bytes) : Bytes := if writeE l s = 0 then packB (encK l (nibs s)) else []

/-- the sign with whose word bits begin -/
def hitB (l : List Int) (b : List Bool) (i : Nat) : Bool := decide (0 < ln l i) && (wordB l i).isPrefixOf b
def frontP (l : List Int) (b : List Bool) : Option Nat := (List.range 16).find? (hitB l b)
theorem hit_iff (l : List Int) (b : List Bool) (i : Nat) : hitB l b i = true ↔ 0 < ln l i ∧ wordB l i <+: b := by
  unfold hitB
  rw [Bool.and_eq_true, decide_eq_true_eq, List.isPrefixOf_iff_prefix]
theorem front_some {l : List Int} {b : List Bool} {i : Nat} (h : frontP l b = some i) : i < 16 ∧ 0 < ln l i ∧ wordB l i <+: b := by
  unfold frontP at h
  rw [List.find?_range_eq_some] at h
  have := (hit_iff l b i).1 h.1
  exact ⟨by simpa using h.2.1, this.1, this.2⟩
theorem front_hit {l : List Int} (hr : Right l) {b : List Bool} {i : Nat} (hi : i < 16) (h0 : 0 < ln l i) (hp : wordB l i <+: b) : frontP l b = some i := by
  unfold frontP
  rw [List.find?_range_eq_some]
  refine ⟨(hit_iff _ _ _).2 ⟨h0, hp⟩, by simpa using hi, fun j hj => ?_⟩
  rw [Bool.not_eq_true']
  cases hq : hitB l b j with
  | false => rfl
  | true =>
    exfalso
    obtain ⟨h1, h2⟩ := (hit_iff _ _ _).1 hq
    rcases Nat.le_total (ln l i) (ln l j) with hle | hle
    · have := word_free hr hi (by omega) h0 h1 (List.prefix_of_prefix_length_le hp h2 (by rw [wordB_len, wordB_len]; exact hle))
      omega
    · have := word_free hr (by omega) hi h1 h0 (List.prefix_of_prefix_length_le h2 hp (by rw [wordB_len, wordB_len]; exact hle))
      omega
theorem front_none {l : List Int} {b : List Bool} (h : frontP l b = none) {i : Nat} (hi : i < 16) : ¬ (0 < ln l i ∧ wordB l i <+: b) := by
  unfold frontP at h
  rw [List.find?_range_eq_none] at h
  have := h i hi
  rw [Bool.not_eq_true'] at this
  rw [← hit_iff, this]; simp

/-- so many signs, and the bits behind them -/
def decN (l : List Int) : Nat → List Bool → Option (List Nat × List Bool)
  | 0, b => some ([], b)
  | k + 1, b => match frontP l b with
    | none => none
    | some i => match decN l k (b.drop (ln l i)) with
      | none => none
      | some (ks, r) => some (i :: ks, r)
theorem dec_some {l : List Int} : ∀ (k : Nat) (b : List Bool) (ks : List Nat) (r : List Bool), decN l k b = some (ks, r) → ks.length = k ∧ b = encK l ks ++ r ∧ ∀ i ∈ ks, i < 16 ∧ 0 < ln l i
  | 0, b, ks, r, h => by
    rw [decN] at h
    injection h with h; injection h with h1 h2
    subst h1; subst h2
    exact ⟨rfl, rfl, by simp⟩
  | k + 1, b, ks, r, h => by
    rw [decN] at h
    cases hf : frontP l b with
    | none => rw [hf] at h; cases h
    | some i =>
      rw [hf] at h
      simp only at h
      cases hd : decN l k (b.drop (ln l i)) with
      | none => rw [hd] at h; cases h
      | some q =>
        obtain ⟨ks', r'⟩ := q
        rw [hd] at h
        simp only at h
        injection h with h; injection h with h1 h2
        subst h1; subst h2
        obtain ⟨e1, e2, e3⟩ := dec_some k _ _ _ hd
        obtain ⟨h1, h2, h3⟩ := front_some hf
        refine ⟨by rw [List.length_cons, e1], ?_, ?_⟩
        · obtain ⟨t, ht⟩ := h3
          have h4 : b.drop (ln l i) = t := by rw [← ht, List.drop_append_of_le_length (by rw [wordB_len]; omega), List.drop_eq_nil_of_le (by rw [wordB_len]; omega), List.nil_append]
          rw [encK_cons, List.append_assoc, ← e2, h4, ht]
        · intro j hj
          rcases List.mem_cons.1 hj with rfl | hj
          · exact ⟨h1, h2⟩
          · exact e3 j hj
theorem dec_enc {l : List Int} (hr : Right l) (r : List Bool) : ∀ (ks : List Nat), (∀ i ∈ ks, i < 16 ∧ 0 < ln l i) → decN l ks.length (encK l ks ++ r) = some (ks, r)
  | [], _ => rfl
  | i :: ks, h => by
    obtain ⟨h1, h2⟩ := h i (by simp)
    rw [List.length_cons, decN, encK_cons, List.append_assoc, front_hit hr h1 h2 ⟨_, rfl⟩]
    simp only
    rw [List.drop_append_of_le_length (by rw [wordB_len]; omega), List.drop_eq_nil_of_le (by rw [wordB_len]; omega), List.nil_append, dec_enc hr r ks fun j hj => h j (by simp [hj])]
def goodRest (r : List Bool) : Bool := decide (r.length < 8) && r.all (fun b => !b)
theorem goodRest_iff (r : List Bool) : goodRest r = true ↔ r.length < 8 ∧ r = zeros r.length := by
  unfold goodRest
  rw [Bool.and_eq_true, decide_eq_true_eq, List.all_eq_true]
  refine and_congr_right fun _ => ⟨fun h => List.eq_replicate_iff.2 ⟨rfl, fun b hb => by simpa using h b hb⟩, fun h b hb => ?_⟩
  rw [h] at hb
  simp [zeros] at hb
  rw [hb.2]; rfl
def readE (l : List Int) (b : Bytes) (n : Int) : Nat :=
  if checkE l ≠ 0 then checkE l else if n < 0 ∨ 1024 < n then 3 else
  match decN l (2 * n.toNat) (unpackB b) with
  | none => 1
  | some (_, r) => if goodRest r = true then 0 else 1
def readS (l : List Int) (b : Bytes) (n : Int) : Bytes :=
  if readE l b n ≠ 0 then [] else
  match decN l (2 * n.toNat) (unpackB b) with
  | none => []
  | some (ks, _) => half ks
/-- so many signs are found -/
structure DecAt (l : List Int) (U : List Bool) (N i : Nat) (ks : List Nat) (R : List Bool) : Prop where
  len : ks.length = i
  le : i ≤ N
  rest : decN l N U = (match decN l (N - i) R with
    | none => none
    | some (a, r) => some (ks ++ a, r))
  fine : ∀ k ∈ ks, k < 16 ∧ 0 < ln l k
  short : R.length ≤ U.length
theorem DecAt.start (l : List Int) (U : List Bool) (N : Nat) : DecAt l U N 0 [] U := by
  refine ⟨rfl, by omega, ?_, by simp, Nat.le_refl _⟩
  rw [Nat.sub_zero]
  cases decN l N U <;> rfl
theorem DecAt.step {l : List Int} {U R : List Bool} {N i k : Nat} {ks : List Nat} (h : DecAt l U N i ks R) (hi : i < N) (hf : frontP l R = some k) : DecAt l U N (i + 1) (ks ++ [k]) (R.drop (ln l k)) := by
  obtain ⟨h1, h2, h3⟩ := front_some hf
  refine ⟨by rw [List.length_append, h.len]; rfl, by omega, ?_, ?_, ?_⟩
  · rw [h.rest, show N - i = (N - (i + 1)) + 1 from by omega, decN, hf]
    simp only
    cases decN l (N - (i + 1)) (R.drop (ln l k)) with
    | none => rfl
    | some q => obtain ⟨a, r⟩ := q; simp
  · intro j hj
    rcases List.mem_append.1 hj with hj | hj
    · exact h.fine j hj
    · have : j = k := by simpa using hj
      subst this; exact ⟨h1, h2⟩
  · have := h.short
    rw [List.length_drop]; omega
theorem DecAt.none {l : List Int} {U R : List Bool} {N i : Nat} {ks : List Nat} (h : DecAt l U N i ks R) (hi : i < N) (hf : frontP l R = none) : decN l N U = none := by
  rw [h.rest, show N - i = (N - (i + 1)) + 1 from by omega, decN, hf]
theorem DecAt.done {l : List Int} {U R : List Bool} {N : Nat} {ks : List Nat} (h : DecAt l U N N ks R) : decN l N U = some (ks, R) := by
  rw [h.rest, Nat.sub_self, decN]; simp
theorem half_odd {ks : List Nat} (h : ks.length % 2 = 1) (hk : ∀ k ∈ ks, k < 16) (b : Nat) :
    ∃ (h0 : Bytes) (a : Nat), a < 16 ∧ half ks = h0 ++ [UInt8.ofNat (16 * a)] ∧ half (ks ++ [b]) = h0 ++ [UInt8.ofNat (16 * a + b)] ∧ h0.length = ks.length / 2 := by
  have hne : ks ≠ [] := by intro e; rw [e] at h; simp at h
  obtain ⟨k0, a, rfl⟩ : ∃ k0 a, ks = k0 ++ [a] := ⟨ks.dropLast, ks.getLast hne, (List.dropLast_concat_getLast hne).symm⟩
  have h2 : k0.length % 2 = 0 := by rw [List.length_append, List.length_singleton] at h; omega
  refine ⟨half k0, a, hk a (by simp), half_app k0 [a] h2, ?_, ?_⟩
  · rw [List.append_assoc, half_app k0 _ h2]; rfl
  · rw [half_len, List.length_append, List.length_singleton]
theorem half_even {ks : List Nat} (h : ks.length % 2 = 0) (b : Nat) : half (ks ++ [b]) = half ks ++ [UInt8.ofNat (16 * b)] := half_app ks [b] h
theorem readE_code {l : List Int} {b : Bytes} {n : Int} (h : checkE l ≠ 0) : readE l b n = checkE l ∧ readS l b n = [] := by
  have : readE l b n = checkE l := by unfold readE; rw [if_pos h]
  exact ⟨this, by unfold readS; rw [if_pos (by omega)]⟩
theorem readE_range {l : List Int} {b : Bytes} {n : Int} (h : checkE l = 0) (h2 : n < 0 ∨ 1024 < n) : readE l b n = 3 ∧ readS l b n = [] := by
  have : readE l b n = 3 := by unfold readE; rw [if_neg (by omega), if_pos h2]
  exact ⟨this, by unfold readS; rw [if_pos (by omega)]⟩
theorem readE_none {l : List Int} {b : Bytes} {n : Int} (h : checkE l = 0) (h2 : ¬ (n < 0 ∨ 1024 < n)) (h3 : decN l (2 * n.toNat) (unpackB b) = none) : readE l b n = 1 ∧ readS l b n = [] := by
  have : readE l b n = 1 := by unfold readE; rw [if_neg (by omega), if_neg h2, h3]
  exact ⟨this, by unfold readS; rw [if_pos (by omega)]⟩
theorem readE_left {l : List Int} {b : Bytes} {n : Int} {ks : List Nat} {r : List Bool} (h : checkE l = 0) (h2 : ¬ (n < 0 ∨ 1024 < n)) (h3 : decN l (2 * n.toNat) (unpackB b) = some (ks, r)) (h4 : goodRest r = false) : readE l b n = 1 ∧ readS l b n = [] := by
  have : readE l b n = 1 := by unfold readE; rw [if_neg (by omega), if_neg h2, h3]; simp only [h4]; rfl
  exact ⟨this, by unfold readS; rw [if_pos (by omega)]⟩
theorem readE_ok {l : List Int} {b : Bytes} {n : Int} {ks : List Nat} {r : List Bool} (h : checkE l = 0) (h2 : ¬ (n < 0 ∨ 1024 < n)) (h3 : decN l (2 * n.toNat) (unpackB b) = some (ks, r)) (h4 : goodRest r = true) : readE l b n = 0 ∧ readS l b n = half ks := by
  have : readE l b n = 0 := by unfold readE; rw [if_neg (by omega), if_neg h2, h3]; simp only [h4]; rfl
  exact ⟨this, by unfold readS; rw [if_neg (by omega), h3]⟩
/-- too many bytes -/
theorem dec_long {l : List Int} (hr : Right l) {b : Bytes} {n : Nat} (h : 4 * n < b.length) {ks : List Nat} {r : List Bool} (hd : decN l (2 * n) (unpackB b) = some (ks, r)) : goodRest r = false := by
  obtain ⟨h1, h2, h3⟩ := dec_some _ _ _ _ hd
  have hl := congrArg List.length h2
  rw [unpackB_len, List.length_append] at hl
  have := encK_len hr ks
  cases hg : goodRest r with
  | false => rfl
  | true =>
    have := ((goodRest_iff r).1 hg).1
    omega
theorem lacks_false {l : List Int} {ks : List Nat} (h : ∀ i ∈ ks, i < 16 ∧ 0 < ln l i) : lacks l ks = false := by
  unfold lacks
  rw [List.any_eq_false]
  intro k hk
  have := (h k hk).2
  simp; omega
/-- what was read is written so again just if nothing is left over -/
theorem write_dec {l : List Int} (hc : checkE l = 0) {b : Bytes} {n : Nat} (hn : n ≤ 1024) {ks : List Nat} {r : List Bool} (hd : decN l (2 * n) (unpackB b) = some (ks, r)) :
    writeE l (half ks) = 0 ∧ (writeS l (half ks) = b ↔ goodRest r = true) ∧ (half ks).length = n := by
  obtain ⟨h1, h2, h3⟩ := dec_some _ _ _ _ hd
  have hl : (half ks).length = n := by rw [half_len]; omega
  have hnb : nibs (half ks) = ks := nibs_half ks (by omega) fun k hk => (h3 k hk).1
  have hw : writeE l (half ks) = 0 := by
    unfold writeE
    rw [if_neg (by omega), if_neg (by omega), hnb, lacks_false h3]; rfl
  refine ⟨hw, ?_, hl⟩
  unfold writeS
  rw [if_pos hw, hnb, goodRest_iff]
  exact pack_iff _ _ _ h2

end Pl
end Go.Proofs.Ytgfkkjcnnecefab

/- Plain mathematics of chapter 3: read of write, write of read. No program in sight. -/
namespace Go.Proofs.Ytgfkkjcnnecefab
namespace Pl

theorem writeE_parts {l : List Int} {s : Bytes} (h : writeE l s = 0) : checkE l = 0 ∧ s.length ≤ 1024 ∧ lacks l (nibs s) = false := by
  unfold writeE at h
  by_cases h1 : checkE l = 0
  · rw [if_neg (by omega)] at h
    by_cases h2 : 1024 < s.length
    · rw [if_pos h2] at h; cases h
    · rw [if_neg h2] at h
      cases h3 : lacks l (nibs s) with
      | true => rw [h3] at h; simp at h
      | false => exact ⟨h1, by omega, rfl⟩
  · rw [if_pos h1] at h; exact absurd h h1
theorem code_read_write {l : List Int} (hr : Right l) {s : Bytes} (h : writeE l s = 0) : readE l (writeS l s) (s.length : Int) = 0 ∧ readS l (writeS l s) (s.length : Int) = s := by
  obtain ⟨h1, h2, h3⟩ := writeE_parts h
  have hk : ∀ i ∈ nibs s, i < 16 ∧ 0 < ln l i := fun i hi => by
    refine ⟨nibs_lt s i hi, ?_⟩
    unfold lacks at h3
    have := List.any_eq_false.1 h3 i hi
    simp at this; omega
  have hu : unpackB (writeS l s) = encK l (nibs s) ++ zeros (8 * (((encK l (nibs s)).length + 7) / 8) - (encK l (nibs s)).length) := by
    unfold writeS; rw [if_pos h]; exact unpack_packB _
  have hd := dec_enc hr (zeros (8 * (((encK l (nibs s)).length + 7) / 8) - (encK l (nibs s)).length)) (nibs s) hk
  rw [← hu, nibs_len] at hd
  have hg : goodRest (zeros (8 * (((encK l (nibs s)).length + 7) / 8) - (encK l (nibs s)).length)) = true := by
    rw [goodRest_iff, zeros_len]
    exact ⟨by omega, rfl⟩
  obtain ⟨e1, e2⟩ := readE_ok (l := l) (b := writeS l s) (n := (s.length : Int)) h1 (by omega) (by rw [Int.toNat_natCast]; exact hd) hg
  exact ⟨e1, by rw [e2, half_nibs]⟩
theorem code_write_read {l : List Int} {b : Bytes} {n : Int} (h : readE l b n = 0) : writeE l (readS l b n) = 0 ∧ writeS l (readS l b n) = b ∧ ((readS l b n).length : Int) = n := by
  have h1 : checkE l = 0 := by
    by_cases e : checkE l = 0
    · exact e
    · have := (readE_code (b := b) (n := n) e).1; omega
  have h2 : ¬ (n < 0 ∨ 1024 < n) := fun e => by have := (readE_range (b := b) h1 e).1; omega
  cases hd : decN l (2 * n.toNat) (unpackB b) with
  | none => have := (readE_none h1 h2 hd).1; omega
  | some q =>
    obtain ⟨ks, r⟩ := q
    cases hg : goodRest r with
    | false => have := (readE_left h1 h2 hd hg).1; omega
    | true =>
      obtain ⟨e1, e2⟩ := readE_ok h1 h2 hd hg
      obtain ⟨w1, w2, w3⟩ := write_dec h1 (n := n.toNat) (by omega) hd
      rw [e2]
      exact ⟨w1, w2.2 hg, by omega⟩

end Pl
end Go.Proofs.Ytgfkkjcnnecefab

/- Plain mathematics of the program's own way to write with a code: bits that wait in a number. No program in sight. -/
namespace Go.Proofs.Ytgfkkjcnnecefab
namespace Pl

theorem val_hi (X : List Bool) {p : Nat} (h : p ≤ X.length) : val X / 2 ^ p = val (X.take (X.length - p)) := by
  have e : X = X.take (X.length - p) ++ X.drop (X.length - p) := (List.take_append_drop _ _).symm
  have hl : (X.drop (X.length - p)).length = p := by rw [List.length_drop]; omega
  have hv := val_app (X.take (X.length - p)) (X.drop (X.length - p))
  rw [← e, hl] at hv
  have hlt := val_lt (X.drop (X.length - p))
  rw [hl] at hlt
  rw [hv, Nat.mul_comm, Nat.mul_add_div (Nat.pow_pos (by omega)), Nat.div_eq_of_lt hlt]; omega
theorem val_lo (X : List Bool) {p : Nat} (h : p ≤ X.length) : val X % 2 ^ p = val (X.drop (X.length - p)) := by
  have e : X = X.take (X.length - p) ++ X.drop (X.length - p) := (List.take_append_drop _ _).symm
  have hl : (X.drop (X.length - p)).length = p := by rw [List.length_drop]; omega
  have hv := val_app (X.take (X.length - p)) (X.drop (X.length - p))
  rw [← e, hl] at hv
  have hlt := val_lt (X.drop (X.length - p))
  rw [hl] at hlt
  rw [hv, Nat.mul_comm, Nat.mul_add_mod, Nat.mod_eq_of_lt hlt]
/-- eight bits out of the midst -/
theorem val_mid (X : List Bool) {a p : Nat} (h : a + 8 + p = X.length) : val X / 2 ^ p % 256 = val ((X.drop a).take 8) := by
  rw [val_hi X (by omega)]
  have h2 := val_lo (X.take (X.length - p)) (p := 8) (by rw [List.length_take]; omega)
  rw [show (256 : Nat) = 2 ^ 8 from rfl, h2, List.length_take, show min (X.length - p) X.length - 8 = a from by omega]
  congr 1
  rw [List.drop_take]
  congr 1; omega

/-- the bits that are written, and the bytes of which they are whole; the others wait -/
structure Wait (X : List Bool) (n0 : Nat) (out : Bytes) (h left : Nat) : Prop where
  le : n0 ≤ out.length
  len : 8 * out.length + left = X.length
  pk : out = packN out.length X
  va : h = Pl.val (X.drop (8 * n0))
theorem Wait.step {X : List Bool} {n0 : Nat} {out : Bytes} {h left : Nat} (w : Wait X n0 out h left) (h8 : 8 ≤ left) (b : UInt8) (hb : b.toNat = h / 2 ^ (left - 8) % 256) : Wait X n0 (out ++ [b]) h (left - 8) := by
  obtain ⟨w1, w2, w3, w4⟩ := w
  refine ⟨by simp; omega, by simp; omega, ?_, w4⟩
  have e : val (X.drop (8 * n0)) / 2 ^ (left - 8) % 256 = val (((X.drop (8 * n0)).drop (8 * (out.length - n0))).take 8) := val_mid _ (by rw [List.length_drop]; omega)
  rw [List.drop_drop, show 8 * n0 + 8 * (out.length - n0) = 8 * out.length from by omega, ← w4, ← hb] at e
  rw [List.length_append, List.length_singleton, packN_snoc, ← w3]
  congr 2
  have hl : ((X.drop (8 * out.length)).take 8).length = 8 := by rw [List.length_take, List.length_drop]; omega
  apply UInt8.toNat_inj.1
  rw [byteOfB_nat (by omega), hl, e]; simp
theorem Wait.cut {X : List Bool} {n0 : Nat} {out : Bytes} {h left : Nat} (w : Wait X n0 out h left) : Wait X out.length out (h % 2 ^ left) left := by
  obtain ⟨w1, w2, w3, w4⟩ := w
  refine ⟨Nat.le_refl _, w2, w3, ?_⟩
  rw [w4, val_lo _ (by rw [List.length_drop]; omega), List.length_drop, List.drop_drop]
  congr 2; omega
theorem Wait.more {X : List Bool} {out : Bytes} {h left : Nat} (w : Wait X out.length out h left) (y : List Bool) : Wait (X ++ y) out.length out (h * 2 ^ y.length + val y) (left + y.length) := by
  obtain ⟨w1, w2, w3, w4⟩ := w
  refine ⟨Nat.le_refl _, by rw [List.length_append]; omega, ?_, ?_⟩
  · have h1 : (X ++ y).take (8 * out.length) = X.take (8 * out.length) := List.take_append_of_le_length (by omega)
    have key : ∀ n (A B : List Bool), A.take (8 * n) = B.take (8 * n) → packN n A = packN n B := by
      intro n
      induction n with
      | zero => intro A B _; rfl
      | succ n ih =>
        intro A B hAB
        rw [packN, packN]
        have h8 : A.take 8 = B.take 8 := by
          have := congrArg (List.take 8) hAB
          rwa [List.take_take, List.take_take, Nat.min_eq_left (by omega)] at this
        have hd : (A.drop 8).take (8 * n) = (B.drop 8).take (8 * n) := by
          have := congrArg (List.drop 8) hAB
          rwa [List.drop_take, List.drop_take, show 8 * (n + 1) - 8 = 8 * n from by omega] at this
        rw [h8, ih _ _ hd]
    rw [key _ _ _ h1]; exact w3
  · rw [w4, List.drop_append_of_le_length (by omega), val_app]
theorem Wait.lt {X : List Bool} {n0 : Nat} {out : Bytes} {h left : Nat} (w : Wait X n0 out h left) : h < 2 ^ (8 * (out.length - n0) + left) := by
  have := val_lt (X.drop (8 * n0))
  rw [← w.va, List.length_drop] at this
  have e : X.length - 8 * n0 = 8 * (out.length - n0) + left := by have := w.le; have := w.len; omega
  rwa [e] at this
theorem Wait.done {X : List Bool} {out : Bytes} {h : Nat} (w : Wait X out.length out h 0) : out = packB X := by
  have h1 := w.len
  have h2 := w.pk
  unfold packB
  rw [show (X.length + 7) / 8 = out.length from by omega]; exact h2
theorem Wait.last {X : List Bool} {out : Bytes} {h left : Nat} (w : Wait X out.length out h left) (h0 : 0 < left) (h8 : left < 8) (b : UInt8) (hb : b.toNat = h * 2 ^ (8 - left)) : out ++ [b] = packB X := by
  have h1 := w.len
  have h2 := w.pk
  have h3 := w.va
  unfold packB
  rw [show (X.length + 7) / 8 = out.length + 1 from by omega, packN_snoc, ← h2]
  congr 2
  have hl : (X.drop (8 * out.length)).length = left := by rw [List.length_drop]; omega
  rw [List.take_of_length_le (by omega)]
  apply UInt8.toNat_inj.1
  rw [byteOfB_nat (by omega), hl, hb, h3]

theorem nibs_get : ∀ {s : Bytes} {q : Nat} {c : UInt8}, s[q]? = some c → (nibs s)[2 * q]? = some (c.toNat / 16) ∧ (nibs s)[2 * q + 1]? = some (c.toNat % 16)
  | [], q, c, h => by simp at h
  | d :: s, 0, c, h => by simp at h; subst h; simp [nibs_cons]
  | d :: s, q + 1, c, h => by
    have := nibs_get (s := s) (q := q) (c := c) (by simpa using h)
    rw [nibs_cons, show 2 * (q + 1) = 2 * q + 1 + 1 from by omega]
    simpa using this
/-- so many half bytes are written -/
structure WSt (l : List Int) (s : Bytes) (i : Nat) (out : Bytes) (h left : Nat) : Prop where
  wait : Wait (encK l ((nibs s).take i)) out.length out h left
  lt : left < 8
  has : lacks l ((nibs s).take i) = false
theorem WSt.start (l : List Int) (s : Bytes) : WSt l s 0 [] 0 0 := ⟨⟨Nat.le_refl _, rfl, rfl, rfl⟩, by omega, rfl⟩
theorem encK_snoc {l : List Int} {ks : List Nat} {i k : Nat} (h : ks[i]? = some k) : encK l (ks.take (i + 1)) = encK l (ks.take i) ++ wordB l k := by
  rw [List.take_add_one, h, encK_app]; simp [encK]
theorem lacks_snoc {l : List Int} {ks : List Nat} {i k : Nat} (h : ks[i]? = some k) : lacks l (ks.take (i + 1)) = (lacks l (ks.take i) || decide (ln l k = 0)) := by
  rw [List.take_add_one, h]; simp [lacks]
theorem lacks_of_take {l : List Int} {ks : List Nat} {i : Nat} (h : lacks l (ks.take i) = true) : lacks l ks = true := by
  unfold lacks at h ⊢
  rw [List.any_eq_true] at h ⊢
  obtain ⟨x, hx, hb⟩ := h
  exact ⟨x, List.mem_of_mem_take hx, hb⟩
theorem WSt.next {l : List Int} {s : Bytes} {i k : Nat} {out : Bytes} {h left : Nat} (hr : Right l) (w : WSt l s i out h left) (hk : (nibs s)[i]? = some k) (hk16 : k < 16) (h0 : 0 < ln l k) :
    Wait (encK l ((nibs s).take (i + 1))) out.length out (h * 2 ^ ln l k + wv l k) (left + ln l k) ∧ lacks l ((nibs s).take (i + 1)) = false ∧ h < 128 := by
  have h1 := w.wait.more (wordB l k)
  rw [wordB_len, wordB_val hr hk16 h0, ← encK_snoc hk] at h1
  refine ⟨h1, ?_, ?_⟩
  · rw [lacks_snoc hk, w.has]; simp; omega
  · have h2 := w.wait.lt
    have h3 := w.lt
    have h4 : 2 ^ (8 * (out.length - out.length) + left) ≤ 2 ^ 7 := Nat.pow_le_pow_right (by omega) (by omega)
    omega

end Pl
end Go.Proofs.Ytgfkkjcnnecefab

/- Plain mathematics of chapter 4: blocks; unpack of pack is the text. No program in sight. -/
namespace Go.Proofs.Ytgfkkjcnnecefab
namespace Pl

/-- how often each half stands -/
def cntN (ks : List Nat) : List Int := Lf fun i => ((ks.count i : Nat) : Int)
theorem cntN_len (ks : List Nat) : (cntN ks).length = 16 := Lf_len _
theorem Lf_getD (f : Nat → Int) {i : Nat} (h : i < 16) : (Lf f).getD i 0 = f i := by rw [List.getD_eq_getElem?_getD, Lf_get f h]; rfl
theorem cntN_get (ks : List Nat) {i : Nat} (h : i < 16) : (cntN ks)[i]? = some ((ks.count i : Nat) : Int) := Lf_get _ h
theorem cntN_snoc (ks : List Nat) (k : Nat) : (cntN ks).set k ((ks.count k : Nat) + 1 : Int) = cntN (ks ++ [k]) := by
  unfold cntN
  rw [Lf_set]
  refine Lf_congr fun i _ => ?_
  rw [List.count_append, List.count_singleton]
  by_cases h : i = k
  · subst h; simp
  · rw [if_neg h, if_neg (by simpa using fun e => h e.symm)]; simp
theorem cntN_nil : cntN [] = Lf fun _ => 0 := by unfold cntN; simp
theorem cntN_fine {ks : List Nat} (h : ks.length ≤ 2048) : fineB (cntN ks) = true :=
  fine_of_all fun x hx => by
    unfold cntN Lf at hx
    obtain ⟨i, _, rfl⟩ := List.mem_map.1 hx
    have := List.count_le_length (a := i) (l := ks)
    omega
theorem cntN_build {ks : List Nat} (h : ks.length ≤ 2048) (h0 : ks ≠ []) (h16 : ∀ k ∈ ks, k < 16) : buildE (cntN ks) = 0 := by
  refine buildE_ok (cntN_fine h) ?_
  cases ks with
  | nil => exact absurd rfl h0
  | cons k r =>
    have hk := h16 k (by simp)
    have : (cn (cntN (k :: r)) k, [k]) ∈ fulF (cntN (k :: r)) := mem_startF.2 ⟨k, hk, by
      unfold cntN; rw [Lf_getD _ hk, List.count_cons_self]; omega, rfl⟩
    have := List.length_pos_of_mem this
    omega
theorem cntN_none : buildE (cntN []) = 5 := by rw [cntN_nil]; decide +kernel
theorem lens_lacks {ks : List Nat} (h : ks.length ≤ 2048) (h16 : ∀ k ∈ ks, k < 16) : lacks (lensOf (cntN ks)) ks = false := by
  unfold lacks
  rw [List.any_eq_false]
  intro k hk
  have hb := cntN_build h (List.ne_nil_of_mem hk) h16
  have hl := (lack_iff (by rw [lensOf_len, cntN_len])).1 (lens_has (cntN_len ks) hb) k (by rw [lensOf_len]; exact h16 k hk)
  have hc : 0 < (cntN ks).getD k 0 := by
    unfold cntN; rw [Lf_getD _ (h16 k hk)]
    have := List.count_pos_iff.2 hk; omega
  have h0 := (checkE_zero (lens_right hb)).1 _ (getD_mem (l := lensOf (cntN ks)) (j := k) (by rw [lensOf_len]; exact h16 k hk))
  unfold ln
  simp only [decide_eq_true_eq]
  intro e
  exact hl ⟨hc, by omega⟩

/-- a code's words' sizes, as bytes -/
def hdB (l : List Int) : Bytes := (List.range 8).map fun i => UInt8.ofNat (16 * ln l (2 * i) + ln l (2 * i + 1))
theorem hdB_len (l : List Int) : (hdB l).length = 8 := by simp [hdB]
/-- the code that some bytes begin with -/
def unHd (b : Bytes) : List Int := (nibs (b.take 8)).map Int.ofNat
theorem unHd_hdB {l : List Int} (hl : l.length = 16) (h : ∀ x ∈ l, 0 ≤ x ∧ x ≤ 15) (r : Bytes) : unHd (hdB l ++ r) = l := by
  unfold unHd
  rw [List.take_left' (hdB_len l)]
  match l, hl with
  | [a0, a1, a2, a3, a4, a5, a6, a7, a8, a9, a10, a11, a12, a13, a14, a15], _ =>
    simp only [List.mem_cons, List.not_mem_nil, or_false, forall_eq_or_imp, forall_eq] at h
    obtain ⟨h0, h1, h2, h3, h4, h5, h6, h7, h8, h9, h10, h11, h12, h13, h14, h15⟩ := h
    have e : ∀ a b : Int, 0 ≤ a ∧ a ≤ 15 → 0 ≤ b ∧ b ≤ 15 → (((UInt8.ofNat (16 * a.toNat + b.toNat)).toNat / 16 : Nat) : Int) = a ∧ (((UInt8.ofNat (16 * a.toNat + b.toNat)).toNat % 16 : Nat) : Int) = b := fun a b ha hb => by
      rw [UInt8.toNat_ofNat']
      have : (16 * a.toNat + b.toNat) % 2 ^ 8 = 16 * a.toNat + b.toNat := Nat.mod_eq_of_lt (by omega)
      rw [this]; omega
    simp only [hdB, ln, List.range, List.range.loop, List.map_cons, List.map_nil, nibs, List.flatMap_cons, List.flatMap_nil, List.cons_append, List.nil_append, List.getD_cons_zero, List.getD_cons_succ, Nat.mul_zero, Int.ofNat_eq_natCast]
    rw [(e a0 a1 h0 h1).1, (e a0 a1 h0 h1).2, (e a2 a3 h2 h3).1, (e a2 a3 h2 h3).2, (e a4 a5 h4 h5).1, (e a4 a5 h4 h5).2, (e a6 a7 h6 h7).1, (e a6 a7 h6 h7).2, (e a8 a9 h8 h9).1, (e a8 a9 h8 h9).2, (e a10 a11 h10 h11).1, (e a10 a11 h10 h11).2, (e a12 a13 h12 h13).1, (e a12 a13 h12 h13).2, (e a14 a15 h14 h15).1, (e a14 a15 h14 h15).2]
theorem unHd_len {b : Bytes} (h : 8 ≤ b.length) : (unHd b).length = 16 := by unfold unHd; rw [List.length_map, nibs_len, List.length_take]; omega
theorem unHd_get {b : Bytes} {q : Nat} {c : UInt8} (hq : q < 8) (hc : b[q]? = some c) : (unHd b)[2 * q]? = some ((c.toNat / 16 : Nat) : Int) ∧ (unHd b)[2 * q + 1]? = some ((c.toNat % 16 : Nat) : Int) := by
  unfold unHd
  have hc2 : (b.take 8)[q]? = some c := by rw [List.getElem?_take]; simp [hq, hc]
  obtain ⟨h1, h2⟩ := @nibs_get (b.take 8) q c hc2
  rw [List.getElem?_map, List.getElem?_map, h1, h2]
  exact ⟨rfl, rfl⟩

/-- the code of some bytes -/
def lensS (s : Bytes) : List Int := lensOf (cntN (nibs s))
/-- D1: the block 2 of what is behind the byte of a block 1 -/
def third (s : Bytes) : Bytes := 2 :: (hdB (lensS s) ++ nb s.length ++ writeS (lensS s) s)
/-- what is behind the byte of a block 1, by what is behind the byte of a block 2 -/
def decodeO (L : List Int) (X : Bytes) : Option Bytes :=
  match take X with
  | none => none
  | some (n, r) => if readE L r (n : Int) = 0 then some (readS L r (n : Int)) else none
theorem decodeO_none {L : List Int} {X : Bytes} (h : take X = none) : decodeO L X = none := by unfold decodeO; rw [h]
theorem decodeO_some {L : List Int} {X r : Bytes} {n : Nat} (h : take X = some (n, r)) : decodeO L X = if readE L r (n : Int) = 0 then some (readS L r (n : Int)) else none := by unfold decodeO; rw [h]
def decoded (s : Bytes) : Option Bytes := if s.length < 8 then none else decodeO (unHd s) (s.drop 8)
theorem nibs_ne {s : Bytes} (h : s ≠ []) : nibs s ≠ [] := by
  cases s with
  | nil => exact absurd rfl h
  | cons c s => rw [nibs_cons]; exact List.cons_ne_nil _ _
theorem lensS_build {s : Bytes} (h : s ≠ []) (hs : s.length ≤ 1024) : buildE (cntN (nibs s)) = 0 :=
  cntN_build (by rw [nibs_len]; omega) (nibs_ne h) (nibs_lt s)
theorem decoded_third {s : Bytes} (h : s ≠ []) (hs : s.length ≤ 1024) : decoded (third s).tail = some s := by
  have hb := lensS_build h hs
  have hr : checkE (lensS s) = 0 := lens_right hb
  have hl : (lensS s).length = 16 := lensOf_len _
  have hlk : lacks (lensS s) (nibs s) = false := lens_lacks (by rw [nibs_len]; omega) (nibs_lt s)
  have hw : writeE (lensS s) s = 0 := by unfold writeE; rw [if_neg (by omega), if_neg (by omega), hlk]; rfl
  obtain ⟨e1, e2⟩ := code_read_write (right_of hl hr) hw
  have ht : (third s).tail = hdB (lensS s) ++ (nb s.length ++ writeS (lensS s) s) := by unfold third; rw [List.tail_cons, List.append_assoc]
  rw [ht]
  unfold decoded
  rw [if_neg (by rw [List.length_append, hdB_len]; omega), List.drop_left' (hdB_len _), decodeO_some (take_nb (by unfold maxNum; omega) _)]
  rw [unHd_hdB hl (checkE_zero hr).1, e1, if_pos rfl, e2]

/-- the text of a block 1, without its byte -/
def playO (dict s : Bytes) : Option Bytes := (read dict s).map fun l => (play dict l).1
/-- D2 -/
def unpackO (dict : Bytes) : Bytes → Option Bytes
  | [] => none
  | k :: s => if k = 0 then (if s.length ≤ 512 then some s else none) else if k = 1 then playO dict s else if k = 2 then (decoded s).bind (playO dict) else none
/-- the block 0 or 1 -/
def pack1 (text s : Bytes) : Bytes := if s.length + 1 < text.length + 1 then 1 :: s else 0 :: text
/-- D1, of a text and its toks' bytes -/
def pack2 (text s : Bytes) : Bytes := if s ≠ [] ∧ (third s).length < (pack1 text s).length then third s else pack1 text s
def pack (dict text : Bytes) : Bytes := pack2 text (toksB (parse dict text))
theorem pack1_len (text s : Bytes) : (pack1 text s).length ≤ text.length + 1 := by
  unfold pack1
  split
  · simp; omega
  · simp
theorem pack_len (dict text : Bytes) : (pack dict text).length ≤ text.length + 1 := by
  unfold pack pack2
  have := pack1_len text (toksB (parse dict text))
  split <;> omega

theorem tokB_len {d : Nat} {s : Bytes} {b : Bool} {t : Tok} (h : tokE d s b t = 0) (hs : s.length ≤ 768) : (tokB t).length + 2 * s.length ≤ 2 * (tokS s t).length := by
  unfold tokE at h
  unfold tokS tokB
  have n2 : ∀ n, n < 16384 → (nb n).length ≤ 2 := fun n hn => nb_len 1 n (by omega)
  have n1 : ∀ n, n < 128 → (nb n).length ≤ 1 := fun n hn => nb_len 0 n (by omega)
  by_cases h1 : t.lit ≠ []
  · rw [if_pos h1] at h ⊢
    rw [if_pos h1]
    have hl : 0 < t.lit.length := List.length_pos_iff.2 h1
    rw [List.length_append, List.length_append]
    split at h
    · omega
    · split at h
      · omega
      · by_cases h2 : t.lit.length = 1
        · have := n1 (2 * t.lit.length) (by omega); omega
        · have := n2 (2 * t.lit.length) (by omega); omega
  · rw [if_neg h1] at h ⊢
    rw [if_neg h1, copyB_len, List.length_append]
    split at h
    · omega
    · have a := n2 (2 * t.len.toNat + 1) (by omega)
      have b := n2 t.far.toNat (by omega)
      omega
theorem toksB_len (d : Nat) : ∀ (l : List Tok) (s : Bytes) (b : Bool), (playF d s b l).2 = 0 → d ≤ s.length → s.length - d ≤ 512 → d ≤ 256 → (toksB l).length + 2 * (s.length - d) ≤ 1024
  | [], s, _, _, h, h2, _ => by rw [toksB]; simp; omega
  | t :: l, s, b, h, hd, hr, h256 => by
    rw [playF] at h
    by_cases he : tokE d s b t ≠ 0
    · rw [if_pos he] at h; exact absurd h he
    · rw [if_neg he] at h
      have he0 := Decidable.not_not.1 he
      obtain ⟨h1, h2⟩ := tokS_grow he0 hd
      have := toksB_len d l _ _ h (by omega) h2 h256
      have := tokB_len he0 (by omega)
      rw [toksB, List.length_append]; omega
theorem toksB_small {dict : Bytes} {l : List Tok} (h : (play dict l).2 = 0) : (toksB l).length ≤ 1024 := by
  unfold play at h
  by_cases e : maxDict < dict.length
  · rw [if_pos e] at h; exact absurd h (by decide)
  · rw [if_neg e] at h
    have := toksB_len dict.length l dict false h (Nat.le_refl _) (by omega) (by unfold maxDict at e; omega)
    omega
theorem parse_small {dict text : Bytes} (hd : dict.length ≤ 256) (ht : text.length ≤ 512) : (toksB (parse dict text)).length ≤ 1024 :=
  toksB_small (dict := dict) (by rw [play_parse hd ht])
theorem write_parse {dict text : Bytes} (hd : dict.length ≤ 256) (ht : text.length ≤ 512) : write dict (parse dict text) = (toksB (parse dict text), 0) := by
  unfold write; rw [play_parse hd ht]; exact if_neg (by omega)
theorem playO_parse {dict text : Bytes} (hd : dict.length ≤ 256) (ht : text.length ≤ 512) : playO dict (toksB (parse dict text)) = some text := by
  have h := read_write (dict := dict) (l := parse dict text) (by rw [write_parse hd ht])
  rw [write_parse hd ht] at h
  simp only at h
  unfold playO
  rw [h]
  simp only [Option.map_some]
  rw [play_parse hd ht]
theorem unpack_third {dict s : Bytes} (h : s ≠ []) (hs : s.length ≤ 1024) : unpackO dict (third s) = playO dict s := by
  have h1 : third s = 2 :: (third s).tail := rfl
  rw [h1, unpackO, if_neg (by decide), if_neg (by decide), if_pos rfl, decoded_third h hs]
  rfl
/-- D3: UNPACK OF PACK IS THE TEXT -/
theorem unpack_pack {dict text : Bytes} (hd : dict.length ≤ 256) (ht : text.length ≤ 512) : unpackO dict (pack dict text) = some text := by
  unfold pack pack2
  split
  · rename_i h
    rw [unpack_third h.1 (parse_small hd ht)]
    exact playO_parse hd ht
  · unfold pack1
    split
    · rw [unpackO, if_neg (by decide), if_pos rfl]
      exact playO_parse hd ht
    · rw [unpackO, if_pos rfl, if_pos ht]

end Pl
end Go.Proofs.Ytgfkkjcnnecefab
