/- The reference's BuildOf. -/
import Derived.Test.YtgfkkjcnnecefaaCwG5
import Derived.Maps.OwnSet
import Derived.Maps.OwnOps
import Derived.Maps.Views
import Derived.DeepKeys4

namespace Go.Proofs.Ytgfkkjcnnecefaa
open Go.RowKit Go.Lib Pl

theorem encR_congr {t u : Tr} (h1 : t.1 = u.1) (h : ∀ j, j < 16 → has t j = has u j) : encR t = encR u := by
  unfold encR
  rw [h1]
  repeat rw [h _ (by omega)]
theorem encR_set {t u : Tr} {k : Nat} {v : Bool} (hk : k < 16) (h1 : t.1 = u.1) (h : ∀ j, j < 16 → has u j = if j = k then v else has t j) : (encR t).toArray.setIfInBounds k (.bool v) = (encR u).toArray := by
  apply Array.ext_getElem?
  intro j
  rw [Array.getElem?_setIfInBounds, List.getElem?_toArray, List.getElem?_toArray, List.size_toArray, encR_len]
  by_cases hj : j < 16
  · rw [encR_get u hj, encR_get t hj, h j hj]
    by_cases e : k = j
    · subst e; simp; omega
    · rw [if_neg e, if_neg (fun h => e h.symm)]
  · rw [if_neg (by omega)]
    by_cases e : j = 16
    · subst e; rw [encR_w, encR_w, h1]
    · rw [List.getElem?_eq_none (by rw [encR_len]; omega), List.getElem?_eq_none (by rw [encR_len]; omega)]
theorem encR_nil (x : Nat) : (encR (x, [])).toArray = #[.bool false, .bool false, .bool false, .bool false, .bool false, .bool false, .bool false, .bool false, .bool false, .bool false, .bool false, .bool false, .bool false, .bool false, .bool false, .bool false, I (x : Int)] := rfl
theorem encR_all0 (y : Nat) : (#[.bool false, .bool false, .bool false, .bool false, .bool false, .bool false, .bool false, .bool false, .bool false, .bool false, .bool false, .bool false, .bool false, .bool false, .bool false, .bool false, .int .i64 (y : Int)] : Array Value).all (·.oneCell') = true := all_oneCell_toArray (encR_one (y, []))
theorem has_def (t : Tr) (j : Nat) : has t j = decide (j ∈ t.2) := by unfold has; rfl
theorem has_one {x k : Nat} : ∀ j, j < 16 → has (x, [k]) j = if j = k then true else has (x, []) j := by
  intro j hj
  rw [has_def, has_def]
  by_cases e : j = k
  · subst e; simp
  · rw [if_neg e]; simp [e]
theorem has_mgI {a b : Tr} (ha : VT a) (hb : VT b) (i : Nat) (hi : i < 16) : ∀ j, j < 16 → has (mgI a b (i + 1)) j = if j = i then (has a i || has b i) else has (mgI a b i) j := by
  intro j hj
  rw [has_def, has_def, has_def, has_def]
  unfold mgI
  simp only
  have hm := mem_mg ha.lt hb.lt j
  by_cases e : j = i
  · subst e
    rw [if_pos rfl, ← Bool.decide_or, decide_eq_decide, List.mem_filter, hm]
    simp
  · rw [if_neg e, decide_eq_decide, List.mem_filter, List.mem_filter]
    simp only [decide_eq_true_eq]
    constructor
    · rintro ⟨h1, h2⟩; exact ⟨h1, by omega⟩
    · rintro ⟨h1, h2⟩; exact ⟨h1, by omega⟩
theorem mem_mgI {a b : Tr} (ha : VT a) (hb : VT b) (i : Nat) : (i ∈ mg a.2 b.2) ↔ (has a i || has b i) = true := by
  rw [mem_mg ha.lt hb.lt, has_def, has_def, Bool.or_eq_true, decide_eq_true_eq, decide_eq_true_eq]
theorem zero16v (w : World) : (zeroValue 64).run Try.prog w = .ok (A16 (Lf fun _ => 0)) w := (zero_of_info (n := 16) (by kernel_rfl)).1 w
theorem cells16_set (l : List Int) (i : Nat) (v : Int) : (cells16 l).setIfInBounds i (.int .i64 v) = cells16 (l.set i v) := by
  simp [cells16, List.map_set]
theorem cells16_one (l : List Int) : (cells16 l).all (·.oneCell') = true := by
  rw [Array.all_eq_true_iff_forall_mem]
  intro v hv
  simp only [cells16, List.mem_toArray, List.mem_map] at hv
  obtain ⟨x, _, rfl⟩ := hv
  rfl

/-- the three arrays -/
structure BAt (c L : List Int) (w wr : World) (B : Nat) : Prop where
  a : wr.heap[B]? = some (.cells (cells16 c) 64 (0, 0))
  z : wr.heap[B + 1]? = some (.cells (cells16 (Lf fun _ => 0)) 64 (0, 0))
  o : wr.heap[B + 2]? = some (.cells (cells16 L) 64 (0, 0))
  bel : Below B w wr
theorem BAt.size {c L : List Int} {w wr : World} {B : Nat} (h : BAt c L w wr B) : B + 3 ≤ wr.heap.size := (Array.getElem?_eq_some_iff.1 h.o).1
theorem BAt.below {c L : List Int} {w wr w1 : World} {B : Nat} (h : BAt c L w wr B) (hb : Below wr.heap.size wr w1) : BAt c L w w1 B := by
  have s := h.size
  exact ⟨(hb.block _ (by omega)).trans h.a, (hb.block _ (by omega)).trans h.z, (hb.block _ (by omega)).trans h.o, h.bel.trans (hb.mono (by omega))⟩
theorem BAt.below3 {c L : List Int} {w wr w1 : World} {B : Nat} (h : BAt c L w wr B) (hb : Below (B + 3) wr w1) : BAt c L w w1 B :=
  ⟨(hb.block _ (by omega)).trans h.a, (hb.block _ (by omega)).trans h.z, (hb.block _ (by omega)).trans h.o, h.bel.trans (hb.mono (by omega))⟩
theorem BAt.put {c L : List Int} {w wr : World} {B : Nat} (h : BAt c L w wr B) (i : Nat) (v : Int) : BAt c (L.set i v) w (wr.setCell ⟨B + 2, i, none⟩ (.int .i64 v)) B := by
  refine ⟨?_, ?_, ?_, ?_⟩
  · rw [heap_setCell_other _ _ _ _ (by show B ≠ B + 2; omega)]; exact h.a
  · rw [heap_setCell_other _ _ _ _ (by show B + 1 ≠ B + 2; omega)]; exact h.z
  · rw [heap_setCell_same _ _ _ _ _ _ h.o, cells16_set]
  · exact h.bel.setCell (by show B ≤ B + 2; omega) _
theorem BAt.start (c : List Int) (w : World) : BAt c (Lf fun _ => 0) w (((w.alloc (.cells (cells16 c) 64)).alloc (.cells (cells16 (Lf fun _ => 0)) 64)).alloc (.cells (cells16 (Lf fun _ => 0)) 64)) w.heap.size := by
  have e1 : (w.alloc (.cells (cells16 c) 64)).heap.size = w.heap.size + 1 := by simp
  have e2 : ((w.alloc (.cells (cells16 c) 64)).alloc (.cells (cells16 (Lf fun _ => 0)) 64)).heap.size = w.heap.size + 2 := by simp
  refine ⟨?_, ?_, ?_, (((Below.refl _ _).alloc (Nat.le_refl _) _).alloc (by simp) _).alloc (by simp; omega) _⟩
  · exact (Below.heap_alloc _ _ _ (by rw [e2]; omega)).trans (heap_alloc2_old _ _ _)
  · exact (Below.heap_alloc _ _ _ (by rw [e2]; omega)).trans (heap_alloc2_new _ _ _)
  · rw [← e2]; exact heap_alloc_new _ _
theorem BAt.res {c L : List Int} {w wr : World} {B : Nat} (h : BAt c L w wr B) (cs : Array Value) : (wr.setRow (B + 1) cs).heap[B + 1]? = some (.cells cs 64 (0, 0)) := setRow_heap _ _ _ _ _ _ h.z
theorem own_part {w : World} {base n : Nat} {v : Value} {e : TypeId} {size : Nat} {xs : List Value} (h : w.ownsRow base e size v n xs) {w' : World} (hg : ∀ k, base ≤ k → k < w.heap.size → w'.heap[k]? = w.heap[k]?) : w'.ownsRow base e size v n xs := by
  refine ⟨h.1, ?_⟩
  rcases h.2 with hn | ⟨g, cap, cur, hv, hb, hg', rest⟩
  · exact .inl hn
  · exact .inr ⟨g, cap, cur, hv, hb, (hg g hb (Array.getElem?_eq_some_iff.1 hg').1).trans hg', rest⟩
theorem boxR (w : World) (t : Tr) (D : Nat) (hD : D = w.heap.size) : ((w.alloc (.cells zeroR 117)).setRow D (encR t).toArray).heap[D]? = some (.cells (encR t).toArray 117 (0, 0)) := by
  subst hD; exact setRow_heap _ _ _ _ _ _ (heap_alloc_new _ _)
theorem belowR {w w' : World} {B : Nat} (h : Below B w w') (hB : B ≤ w'.heap.size) (cs : Array Value) : Below B w ((w'.alloc (.cells zeroR 117)).setRow w'.heap.size cs) := below_setRow (h.alloc hB _) hB _
theorem row_at17 {w : World} {base n : Nat} {v : Value} {l : List Tr} (h : w.ownsRow base 117 17 v n (l.flatMap encR)) (hn : n ≠ 0) : ∃ g cap, v = .slice (some ⟨g, 0, none⟩) n cap := by
  rcases h.2 with ⟨_, h0⟩ | ⟨g, cap, cur, hv, _⟩
  · exact absurd h0 hn
  · exact ⟨g, cap, hv⟩
theorem sizeI : (Try.prog.info? 64).map (·.size) = some 16 := by kernel_rfl
theorem cells16_size {l : List Int} (h : l.length = 16) : (cells16 l).size = 16 := by simp [cells16, h]

def slLen : Value → Nat
  | .slice _ n _ => n
  | _ => 0
theorem own_upto {w : World} {base n : Nat} {v : Value} {e : TypeId} {size : Nat} {xs : List Value} (h : w.ownsRow base e size v n xs) {D : Nat} (hD : w.heap.size ≤ D) {w' : World} (hg : ∀ k, base ≤ k → k < D → w'.heap[k]? = w.heap[k]?) : w'.ownsRow base e size v n xs :=
  own_part h fun k h1 h2 => hg k h1 (by omega)
/-- while two trees are made one -/
structure MrgAt (c : List Int) (f : Nat → Int) (a b : Tr) (w w4 w5 : World) (B D i : Nat) : Prop where
  at_ : BAt c (Lf fun j => f j + if j < i ∧ j ∈ mg a.2 b.2 then 1 else 0) w w5 B
  o : w5.heap[D]? = some (.cells (encR (mgI a b i)).toArray 117 (0, 0))
  keep : ∀ k, B + 3 ≤ k → k < D → w5.heap[k]? = w4.heap[k]?
theorem MrgAt.set {c : List Int} {f : Nat → Int} {a b : Tr} {w w4 w5 : World} {B D i : Nat} (h : MrgAt c f a b w w4 w5 B D i) (ha : VT a) (hb : VT b) (hi : i < 16) (hBD : B + 3 ≤ D) (hn : (has a i || has b i) = false) :
    MrgAt c f a b w w4 (w5.setCell ⟨D, i, none⟩ (.bool false)) B D (i + 1) := by
  refine ⟨?_, ?_, fun k h1 h2 => ?_⟩
  · have e : Lf (fun j => f j + if j < i + 1 ∧ j ∈ mg a.2 b.2 then 1 else 0) = Lf fun j => f j + if j < i ∧ j ∈ mg a.2 b.2 then 1 else 0 := Lf_congr fun j _ => by
      congr 1
      by_cases e : j = i
      · subst e
        rw [if_neg (fun h => by have := (mem_mgI ha hb j).1 h.2; rw [hn] at this; cases this), if_neg (by omega)]
      · by_cases h1 : j < i
        · simp [h1, show j < i + 1 from by omega]
        · simp [h1, show ¬ j < i + 1 from by omega]
    rw [e]
    exact h.at_.below3 ((Below.refl _ _).setCell (by show B + 3 ≤ D; omega) _)
  · rw [heap_setCell_same _ _ _ _ _ _ h.o, encR_set (t := mgI a b i) (u := mgI a b (i + 1)) hi rfl (by rw [← hn]; exact has_mgI ha hb i hi)]
  · rw [heap_setCell_other _ _ _ _ (by show k ≠ D; omega)]; exact h.keep k h1 h2
theorem MrgAt.put {c : List Int} {f : Nat → Int} {a b : Tr} {w w4 w5 : World} {B D i : Nat} (h : MrgAt c f a b w w4 w5 B D i) (ha : VT a) (hb : VT b) (hi : i < 16) (hBD : B + 3 ≤ D) (hn : (has a i || has b i) = true) :
    MrgAt c f a b w w4 ((w5.setCell ⟨D, i, none⟩ (.bool true)).setCell ⟨B + 1 + 1, i, none⟩ (.int .i64 (f i + 1))) B D (i + 1) := by
  refine ⟨?_, ?_, fun k h1 h2 => ?_⟩
  · have e : Lf (fun j => f j + if j < i + 1 ∧ j ∈ mg a.2 b.2 then 1 else 0) = (Lf fun j => f j + if j < i ∧ j ∈ mg a.2 b.2 then 1 else 0).set i (f i + 1) := by
      rw [Lf_set]
      refine Lf_congr fun j _ => ?_
      by_cases e : j = i
      · subst e
        rw [if_pos rfl, if_pos ⟨by omega, (mem_mgI ha hb j).2 hn⟩]
      · rw [if_neg e]
        congr 1
        by_cases h1 : j < i
        · simp [h1, show j < i + 1 from by omega]
        · simp [h1, show ¬ j < i + 1 from by omega]
    rw [e]
    exact (h.at_.below3 ((Below.refl _ _).setCell (by show B + 3 ≤ D; omega) _)).put i _
  · rw [heap_setCell_other _ _ _ _ (by show D ≠ B + 1 + 1; omega), heap_setCell_same _ _ _ _ _ _ h.o, encR_set (t := mgI a b i) (u := mgI a b (i + 1)) hi rfl (by rw [← hn]; exact has_mgI ha hb i hi)]
  · rw [heap_setCell_other _ _ _ _ (by show k ≠ B + 1 + 1; omega), heap_setCell_other _ _ _ _ (by show k ≠ D; omega)]; exact h.keep k h1 h2
theorem MrgAt.len {c : List Int} {f : Nat → Int} {a b : Tr} {w w4 w5 : World} {B D i : Nat} (h : MrgAt c f a b w w4 w5 B D i) (hi : i < 16) : w5.cell? ⟨B + 1 + 1, i, none⟩ = some (.int .i64 (f i)) := by
  refine (cell16 h.at_.o (Lf_get _ hi)).trans ?_
  rw [if_neg (by omega)]; simp
theorem MrgAt.lenF {c : List Int} {f : Nat → Int} {a b : Tr} {w w4 w5 : World} {B D i : Nat} (h : MrgAt c f a b w w4 w5 B D i) : w5.frozen? ⟨B + 1 + 1, i, none⟩ = false := frozen_of_row _ _ _ _ _ h.at_.o
theorem MrgAt.bit {c : List Int} {f : Nat → Int} {a b : Tr} {w w4 w5 : World} {B D i : Nat} (h : MrgAt c f a b w w4 w5 B D i) (hi : i < 16) : ∃ v, w5.cell? ⟨D, i, none⟩ = some v ∧ w5.frozen? ⟨D, i, none⟩ = false := by
  refine ⟨.bool (has (mgI a b i) i), ?_, frozen_of_row _ _ _ _ _ h.o⟩
  rw [cell_of_row _ _ _ _ _ _ h.o, List.getElem?_toArray, encR_get _ hi]
theorem MrgAt.of {c : List Int} {f : Nat → Int} {a b t : Tr} {w w4 w5 : World} {B D i g : Nat} (h : MrgAt c f a b w w4 w5 B D i) (hg : w4.heap[g]? = some (.cells (encR t).toArray 117 (0, 0))) (h1 : B + 3 ≤ g) (h2 : g < D) {j : Nat} (hj : j < 16) : w5.cell? ⟨g, j, none⟩ = some (.bool (has t j)) := by
  rw [cell_of_row _ _ _ _ _ _ ((h.keep g h1 h2).trans hg), List.getElem?_toArray, encR_get _ hj]
/-- the state of the building -/
structure BldAt (c : List Int) (w wr : World) (B : Nat) (lv : Value) (l : List Tr) (f : Nat → Int) : Prop where
  fo : Forest l
  one : 1 ≤ l.length
  le : l.length ≤ 16
  sum : (l.map Prod.fst).sum ≤ 32768
  own : wr.ownsRow (B + 3) 117 17 lv l.length (l.flatMap encR)
  at_ : BAt c (Lf f) w wr B
  inv : ∀ i, i < 16 → f i + (build (l.length - 1) l i : Int) = (build ((fulF c).length - 1) (fulF c) i : Int)
theorem BldAt.bound {c : List Int} {w wr : World} {B : Nat} {lv : Value} {l : List Tr} {f : Nat → Int} (h : BldAt c w wr B lv l f) {a : Tr} (ha : a ∈ l) : a.1 ≤ 32768 := Nat.le_trans (sum_map_le Prod.fst ha) h.sum

theorem build_le : ∀ (f : Nat) (l : List Tr) (i : Nat), build f l i ≤ f
  | 0, _, _ => Nat.le_refl _
  | f + 1, l, i => by
    rw [build]
    split
    · have := build_le f (‹List Tr› ++ [mgT ‹Tr› ‹Tr›]) i
      rename_i a b r _
      have := build_le f (r ++ [mgT a b]) i
      split <;> omega
    · omega
theorem inv_bound {c : List Int} {w wr : World} {B : Nat} {lv : Value} {l : List Tr} {f : Nat → Int} (h : BldAt c w wr B lv l f) {i : Nat} (hi : i < 16) : -100 ≤ f i ∧ f i ≤ 100 := by
  have h1 := h.inv i hi
  have h2 := build_le (l.length - 1) l i
  have h3 := build_le ((fulF c).length - 1) (fulF c) i
  have h4 := fulF_len c
  have h5 := h.le
  omega
theorem cell_set_same {w : World} {p : Addr} {v : Value} (h : w.cell? p = some v) (u : Value) : (w.setCell p u).cell? p = some u := World.cell?_setCell_same' w p u (by rw [h]; rfl)
theorem cell_set_block {w : World} {p q : Addr} {u : Value} (h : q.block ≠ p.block) : (w.setCell p u).cell? q = w.cell? q :=
  World.cell?_of_block (Below.heap_setCell w p u q.block h)
theorem frozen_set {w : World} {p q : Addr} {u : Value} : (w.setCell p u).frozen? q = w.frozen? q := by simp

set_option maxHeartbeats 4000000 in
set_option maxRecDepth 100000 in
theorem buildOf_any (c : List Int) (w : World) (hc : c.length = 16) :
    Calls Try.prog 45 #[A16 c] w fun e w' => e = .returned (.tuple #[A16 (lensOf c), I (buildE c)]) ∧ Below w.heap.size w w' := by
  obtain ⟨B, hB⟩ : ∃ B, B = w.heap.size := ⟨_, rfl⟩
  obtain ⟨w0, hw0⟩ : ∃ w0, w0 = ((w.alloc (.cells (cells16 c) 64)).alloc (.cells (cells16 (Lf fun _ => 0)) 64)).alloc (.cells (cells16 (Lf fun _ => 0)) 64) := ⟨_, rfl⟩
  have h0 : BAt c (Lf fun _ => 0) w w0 B := by rw [hB, hw0]; exact BAt.start c w
  have H0 := hide h0
  have HB := hide hB
  have HC := hide hc
  have HW0 := hide hw0
  have CF := fun (W : World) => countsFine_any c W hc
  have hz := zero16v
  have hz2 := zeroRv
  obtain ⟨fb, hfb⟩ : ∃ fb, fb = fineB c := ⟨_, rfl⟩
  rw [← hfb] at CF
  have CF := hide CF
  have HFB := hide hfb
  clear h0 hB hc hw0 hfb
  cases fb with
  | false =>
    have e1 := buildE_bad (unhide HFB).symm
    have e2 := lensOf_err (c := c) (by rw [e1]; omega)
    rw [e1, e2]
    clear e1 e2
    go_enter Try.func45, Try.ntmps45
    go_wp2_with (first
      | (refine wpList_load16 rfl (.tmp 1) rfl B (by rw [unhide HB]; rfl) c (unhide HC) (by rw [← unhide HW0]; exact (unhide H0).a) ?_; rw [← unhide HW0, ← unhide HB]))
    refine (unhide CF _).mono ?_
    rintro e w1 ⟨rfl, hb⟩
    have H1 := hide ((unhide H0).below hb)
    clear hb
    go_wp2_with (first
      | (refine wpList_load16 rfl (.tmp 4) rfl (B + 2) rfl _ (Lf_len _) (unhide H1).o ?_)
      | (refine wpList_store_row rfl 64 (.tmp 2) (.tmp 16) rfl (B + 1) (cells16 (Lf fun _ => 0)) rfl rfl 64 _ (unhide H1).z (by rw [sizeI, cells16_size (Lf_len _)]) rfl (cells16_one _) ?_))
    refine bodyPost_ret (results_row_tmp rfl _ _ (B + 1) 64 (cells16 (Lf fun _ => 0)) (0, 0) _ rfl ((unhide H1).res _) Try.underlying64 rfl (by rw [sizeI, cells16_size (Lf_len _)])) rfl ⟨rfl, ?_⟩
    rw [← unhide HB]
    exact below_setRow (unhide H1).bel (by omega) _
  | true =>
    have HFA := hide (fine_all (unhide HFB).symm)
    go_enter Try.func45, Try.ntmps45
    go_wp2_with (first
      | (refine wpList_load16 rfl (.tmp 1) rfl B (by rw [unhide HB]; rfl) c (unhide HC) (by rw [← unhide HW0]; exact (unhide H0).a) ?_; rw [← unhide HW0, ← unhide HB]))
    refine (unhide CF _).mono ?_
    rintro e w1 ⟨rfl, hb⟩
    have H1 := hide ((unhide H0).below hb)
    clear hb
    go_wp2_with fail
    go_loopw [5, 6] (fun lv iv wr => ∃ k : Nat, k ≤ 16 ∧ iv = .int .i64 k ∧ wr.ownsRow (B + 3) 117 17 lv (startF c k).length ((startF c k).flatMap encR) ∧ BAt c (Lf fun _ => 0) w wr B) (fun _ iv _ => 16 - (intOf iv).toNat)
    case atStart => exact ⟨0, by omega, rfl, World.ownsRow_nil _ _ _ _, unhide H1⟩
    case round =>
      obtain ⟨k, hk, rfl, hown, hat⟩ := hrel
      have HOWN := hide hown
      have HAT := hide hat
      clear hown hat
      have hsz := (unhide HAT).size
      by_cases hk16 : k < 16
      · obtain ⟨x, hx⟩ : ∃ x, c[k]? = some x := ⟨_, List.getElem?_eq_getElem (by have := unhide HC; omega)⟩
        have hcx := cell16 (unhide HAT).a hx
        have bx := unhide HFA x (List.mem_of_getElem? hx)
        have hxd : c.getD k 0 = x := by rw [List.getD_eq_getElem?_getD, hx]; rfl
        by_cases hp : 0 < x
        · obtain ⟨y, rfl⟩ : ∃ y : Nat, x = (y : Int) := ⟨x.toNat, by omega⟩
          have hcn : cn c k = y := by unfold cn; rw [hxd]; rfl
          have hst : startF c (k + 1) = startF c k ++ [(y, [k])] := by rw [startF_pos (by rw [hxd]; exact hp), hcn]
          have HST := hide hst
          have hlen := startF_len c k
          obtain ⟨n, hn⟩ : ∃ n, n = (startF c k).length := ⟨_, rfl⟩
          have HN := hide hn
          rw [← hn] at hlen
          clear hx hxd hcn hst hn
          obtain ⟨D, hD⟩ : ∃ D, D = wr.heap.size := ⟨_, rfl⟩
          have HD := hide hD
          have hDB : B + 3 ≤ D := by omega
          clear hD
          go_upto_region 10 with (first
            | (refine wpList_store_row rfl 117 (.tmp 7) (.tmp 28) rfl wr.heap.size #[.bool false, .bool false, .bool false, .bool false, .bool false, .bool false, .bool false, .bool false, .bool false, .bool false, .bool false, .bool false, .bool false, .bool false, .bool false, .bool false, .int .i64 (y : Int)] rfl rfl 117 zeroR (heap_alloc_new _ _) sizeP rfl (encR_all0 y) ?_))
          obtain ⟨w2, hw2⟩ : ∃ w2, w2 = (wr.alloc (.cells zeroR 117)).setRow wr.heap.size #[.bool false, .bool false, .bool false, .bool false, .bool false, .bool false, .bool false, .bool false, .bool false, .bool false, .bool false, .bool false, .bool false, .bool false, .bool false, .bool false, .int .i64 (y : Int)] := ⟨_, rfl⟩
          have a2 : w2.heap[D]? = some (.cells (encR (y, [])).toArray 117 (0, 0)) := by rw [hw2, unhide HD]; exact boxR wr (y, []) wr.heap.size rfl
          have b2 : Below D wr w2 := by rw [hw2, unhide HD]; exact belowR (Below.refl _ _) (Nat.le_refl _) _
          rw [← hw2, ← unhide HD]
          clear hw2
          have c3 : w2.cell? ⟨D, k, none⟩ = some (.bool false) := by
            rw [cell_of_row _ _ _ _ _ _ a2, List.getElem?_toArray, encR_get _ hk16, has_def]; rfl
          have f3 : w2.frozen? ⟨D, k, none⟩ = false := frozen_of_row _ _ _ _ _ a2
          have A2 := hide a2
          have B2 := hide b2
          clear a2 b2
          go_upto_region 11 with fail
          obtain ⟨w3, hw3⟩ : ∃ w3, w3 = w2.setCell ⟨D, k, none⟩ (.bool true) := ⟨_, rfl⟩
          have a3 : w3.heap[D]? = some (.cells (encR (y, [k])).toArray 117 (0, 0)) := by
            rw [hw3, heap_setCell_same _ _ _ _ _ _ (unhide A2), encR_set (t := (y, [])) (u := (y, [k])) hk16 rfl has_one]
          have b3 : Below D wr w3 := by rw [hw3]; exact (unhide B2).setCell (Nat.le_refl _) _
          rw [← hw3]
          clear hw3 c3 f3
          have at3 := (unhide HAT).below3 (b3.mono hDB)
          have ow3 := own_below (unhide HOWN) (by rw [← unhide HD]; exact b3)
          have hs3 : B + 3 ≤ w3.heap.size := at3.size
          have A3 := hide a3
          have AT3 := hide at3
          have OW3 := hide ow3
          have h17 := encR_len (y, [k])
          clear a3 b3 at3 ow3
          go_wp2_with (first
            | (refine wpList_load_row rfl 117 (.tmp 7) rfl D rfl 117 (encR (y, [k])).toArray (0, 0) _ (unhide A3) Try.underlying117 rfl sizeP ?_)
            | at_builtin; rw [buildR (y, [k])]; refine wpList_push_R rfl _ _ rfl (B + 3) _ n (startF c k) rfl (by rw [unhide HN]; exact unhide OW3) (y, [k]) w3.heap.size rfl rfl (by omega) hs3 ?_; intro A' cap' w4 hown4 hb4 hg4; have HOWN4 := hide hown4; have HB4 := hide hb4; clear hown4 hb4 hg4)
          go_roundw
          case rel => exact ⟨k + 1, by omega, by go_num, by rw [unhide HST, List.length_append, ← unhide HN]; exact unhide HOWN4, (unhide AT3).below3 (unhide HB4)⟩
          case measure => simp [intOf]; omega
        · have hst : startF c (k + 1) = startF c k := startF_zero (by rw [hxd]; exact hp)
          have HST := hide hst
          clear hx hxd hst
          go_wp2_with fail
          go_roundw
          case rel => exact ⟨k + 1, by omega, by go_num, by rw [unhide HST]; exact unhide HOWN, unhide HAT⟩
          case measure => simp [intOf]; omega
      · have hk' : k = 16 := by omega
        subst hk'
        have hF := startF_forest c 16 (Nat.le_refl _)
        have hl16 := startF_len c 16
        obtain ⟨l, hl⟩ : ∃ l, l = startF c 16 := ⟨_, rfl⟩
        have hful : fulF c = l := hl.symm
        have hw0 := hide (unhide HOWN)
        rw [← hl] at hF hl16 hw0
        obtain ⟨n, hn⟩ : ∃ n, n = l.length := ⟨_, rfl⟩
        rw [← hn] at hl16 hw0
        obtain ⟨A, cap, rfl⟩ := own_slice17 (unhide hw0)
        have HF := hide hF
        have HFUL := hide hful
        have HN := hide hn
        clear hF hl hful hn
        by_cases h0 : n = 0
        · have e1 : buildE c = 5 := buildE_none (unhide HFB).symm (by rw [unhide HFUL, ← unhide HN, h0])
          have e2 := lensOf_err (c := c) (by rw [e1]; omega)
          have HE1 := hide e1
          have HE2 := hide e2
          have z1 : ((n : Int) == 0) = true := by rw [h0]; rfl
          clear e1 e2 h0
          go_wp2_with (first
            | (refine wpList_load16 rfl (.tmp 4) rfl (B + 2) rfl _ (Lf_len _) (unhide HAT).o ?_)
            | (refine wpList_store_row rfl 64 (.tmp 2) (.tmp 39) rfl (B + 1) (cells16 (Lf fun _ => 0)) rfl rfl 64 _ (unhide HAT).z (by rw [sizeI, cells16_size (Lf_len _)]) rfl (cells16_one _) ?_))
          refine bodyPost_ret (results_row_tmp rfl _ _ (B + 1) 64 (cells16 (Lf fun _ => 0)) (0, 0) _ rfl ((unhide HAT).res _) Try.underlying64 rfl (by rw [sizeI, cells16_size (Lf_len _)])) rfl ⟨by rw [unhide HE1, unhide HE2]; rfl, ?_⟩
          rw [← unhide HB]
          exact below_setRow (unhide HAT).bel (by omega) _
        · have z1 : ((n : Int) == 0) = false := by rw [beq_eq_false_iff_ne]; omega
          have e1 : buildE c = 0 := buildE_ok (unhide HFB).symm (by rw [unhide HFUL, ← unhide HN]; exact h0)
          have HE1 := hide e1
          clear e1
          obtain ⟨g, cap', hgc⟩ := row_at17 (unhide hw0) h0
          rw [hgc] at hw0
          injection hgc with hA _ hcap
          subst hA
          subst hcap
          by_cases h1 : n = 1
          · have z2 : ((n : Int) == 1) = true := by rw [h1]; rfl
            obtain ⟨t, ht⟩ : ∃ t, l = [t] := List.length_eq_one_iff.1 ((unhide HN).symm.trans h1)
            have e2 := lens_one (unhide HFB).symm (t := t) (by rw [unhide HFUL, ht])
            have hv := (unhide HF).vt t (by rw [ht]; simp)
            have hr := own_range (unhide hw0) (i := 0) (t := t) (by rw [ht]; rfl)
            rw [Nat.zero_mul] at hr
            have hd16 := hv.lt _ (hd_mem hv)
            have LSG := fun (W : World) => leastSign_any t W hv
            obtain ⟨d, hd'⟩ : ∃ d, d = hd t := ⟨_, rfl⟩
            rw [← hd'] at e2 hd16 LSG
            have hn0 : (0 : Int) < n := by omega
            have HE2 := hide e2
            have HR := hide hr
            have LSG := hide LSG
            clear e2 hv ht hr hd' h0 h1
            go_wp2_with (first
              | (refine wpList_load_mid rfl 117 (.tmp 44) rfl g 0 rfl (encR t) _ (unhide HR) Try.underlying117 rfl sizeP ?_))
            refine (unhide LSG _).mono ?_
            rintro e w2 ⟨rfl, hw2⟩
            have H2 := hide ((unhide HAT).below (w1 := w2) (by rw [hw2]; exact (Below.refl _ _).alloc (Nat.le_refl _) _))
            have c3 : w2.cell? ⟨B + 1 + 1, d, none⟩ = some (.int .i64 0) := cell16 (unhide H2).o (Lf_get _ hd16)
            have f3 : w2.frozen? ⟨B + 1 + 1, d, none⟩ = false := frozen_of_row _ _ _ _ _ (unhide H2).o
            clear hw2
            go_upto_region 16 with fail
            obtain ⟨w3, hw3⟩ : ∃ w3, w3 = w2.setCell ⟨B + 1 + 1, d, none⟩ (.int .i64 1) := ⟨_, rfl⟩
            rw [← hw3]
            have h3 : BAt c (Lf fun j => if j = d then 1 else 0) w w3 B := by
              have := (unhide H2).put d 1
              rw [Lf_set] at this
              rw [hw3]; exact this
            have H3 := hide h3
            clear c3 f3 hw3 h3
            go_wp2_with (first
              | (refine wpList_load16 rfl (.tmp 4) rfl (B + 2) rfl _ (Lf_len _) (unhide H3).o ?_)
              | (refine wpList_store_row rfl 64 (.tmp 2) (.tmp 48) rfl (B + 1) (cells16 (Lf fun j => if j = d then 1 else 0)) rfl rfl 64 _ (unhide H3).z (by rw [sizeI, cells16_size (Lf_len _)]) rfl (cells16_one _) ?_))
            refine bodyPost_ret (results_row_tmp rfl _ _ (B + 1) 64 (cells16 (Lf fun j => if j = d then 1 else 0)) (0, 0) _ rfl ((unhide H3).res _) Try.underlying64 rfl (by rw [sizeI, cells16_size (Lf_len _)])) rfl ⟨by rw [unhide HE1, unhide HE2]; rfl, ?_⟩
            rw [← unhide HB]
            exact below_setRow (unhide H3).bel (by omega) _
          · have z2 : ((n : Int) == 1) = false := by rw [beq_eq_false_iff_ne]; omega
            have h2 : 2 ≤ (fulF c).length := by rw [unhide HFUL, ← unhide HN]; omega
            have HRES := hide (lens_many (unhide HFB).symm h2)
            have hst : BldAt c w wr B (.slice (some ⟨g, 0, none⟩) n cap) l fun _ => 0 := by
              have hlen := unhide HN
              refine ⟨unhide HF, by omega, by omega, ?_, by rw [← hlen]; exact unhide hw0, unhide HAT, fun i _ => ?_⟩
              · rw [← unhide HFUL]; exact sum_full (unhide HFB).symm (unhide HC)
              · rw [unhide HFUL, Int.zero_add]
            have HST := hide hst
            clear hst h0 h1 h2
            go_wp2_with fail
            go_loopw [5] (fun lv wr => ∃ l f, BldAt c w wr B lv l f) (fun lv _ => slLen lv)
            case atStart => exact ⟨_, _, unhide HST⟩
            case round =>
              obtain ⟨l, f, hbl⟩ := hrel
              obtain ⟨n, hn⟩ : ∃ n, n = l.length := ⟨_, rfl⟩
              have hown := hbl.own
              have hl1 := hbl.one
              have hl16 := hbl.le
              have HF := hide hbl.fo
              have HAT := hide hbl.at_
              have HBL := hide hbl
              rw [← hn] at hown hl1 hl16
              have HOW := hide hown
              have HN := hide hn
              obtain ⟨g, cap, rfl⟩ := row_at17 hown (by omega)
              clear hbl hown hn
              have hsz := (unhide HAT).size
              by_cases h2 : 2 ≤ n
              · have K := hide (takeLeast_any l (B + 3) g n cap wr (unhide HF) (unhide HN).symm hl1 hl16 (unhide HOW))
                go_wp2_with fail
                refine (unhide K).mono ?_
                rintro e w1 ⟨a, k, v, hka, hle, rfl, hown1, hb1⟩
                obtain ⟨hs1, hp1⟩ := take_least (unhide HF) hka (by rw [← unhide HN]; exact hle)
                have hF0 := (unhide HF).perm hp1.symm
                have hva := hF0.vt a (by simp)
                have hF1 : Forest (l.eraseIdx k) := ⟨fun t ht => hF0.vt t (by simp [ht]), (List.pairwise_cons.1 hF0.dis).2⟩
                have hbo1 := (unhide HBL).bound (List.mem_of_getElem? hka)
                obtain ⟨l1, hl1e⟩ : ∃ l1, l1 = l.eraseIdx k := ⟨_, rfl⟩
                rw [← hl1e] at hs1 hp1 hF1 hown1
                have hlen1 : l1.length = n - 1 := by have := hp1.length_eq; simp at this; have := unhide HN; omega
                obtain ⟨g1, cap1, rfl⟩ := row_at17 hown1 (by omega)
                have hg1 := hown1.lt g1 rfl
                have HP1 := hide (And.intro hs1 hp1)
                have HVA := hide hva
                have HF1 := hide hF1
                have HOW1 := hide hown1
                have HB1 := hide hb1
                have HAT1 := hide ((unhide HAT).below hb1)
                have hsz1 := (unhide HAT1).size
                obtain ⟨D, hD⟩ : ∃ D, D = w1.heap.size := ⟨_, rfl⟩
                have HD := hide hD
                have HL1 := hide hlen1
                clear hka hle hs1 hp1 hF0 hva hF1 hl1e hown1 hb1 hD hlen1 K
                go_wp2_with (first
                  | (refine wpList_store_row rfl 117 (.tmp 8) (.tmp 55) rfl w1.heap.size (encR a).toArray rfl rfl 117 zeroR (heap_alloc_new _ _) sizeP rfl (all_oneCell_toArray (encR_one a)) ?_))
                obtain ⟨w2, hw2⟩ : ∃ w2, w2 = (w1.alloc (.cells zeroR 117)).setRow w1.heap.size (encR a).toArray := ⟨_, rfl⟩
                have a2 : w2.heap[D]? = some (.cells (encR a).toArray 117 (0, 0)) := by rw [hw2, unhide HD]; exact boxR w1 a w1.heap.size rfl
                have b2 : Below D w1 w2 := by rw [hw2, unhide HD]; exact belowR (Below.refl _ _) (Nat.le_refl _) _
                have s2 : w2.heap.size = D + 1 := by rw [hw2, unhide HD]; simp
                rw [← hw2, ← unhide HD]
                have ow2 := own_below (unhide HOW1) (by rw [← unhide HD]; exact b2)
                have K := takeLeast_any l1 wr.heap.size g1 (n - 1) cap1 w2 (unhide HF1) (unhide HL1) (by omega) (by omega) ow2
                have A2 := hide a2
                have B2 := hide b2
                have S2 := hide s2
                have HAT2 := hide ((unhide HAT1).below (by rw [← unhide HD]; exact b2))
                clear hw2 a2 b2 s2 ow2
                refine K.mono ?_
                clear K
                rintro e w3 ⟨b, k2, v2, hkb, hle2, rfl, hown3, hb3⟩
                obtain ⟨hs3, hp3⟩ := take_least (unhide HF1) hkb (by rw [unhide HL1]; exact hle2)
                have hF2 := (unhide HF1).perm hp3.symm
                have hvb := hF2.vt b (by simp)
                obtain ⟨l2, hl2e⟩ : ∃ l2, l2 = l1.eraseIdx k2 := ⟨_, rfl⟩
                rw [← hl2e] at hs3 hp3 hown3
                have hlen2 : l2.length = n - 2 := by have := hp3.length_eq; simp at this; have := unhide HL1; omega
                have hp4 : (a :: b :: l2).Perm l := (hp3.cons a).trans (unhide HP1).2
                have hstep := step_all (unhide HF) hp4 ⟨sortT l2, by rw [(unhide HP1).1, hs3], sortT_perm l2⟩
                have hsum : a.1 + b.1 ≤ 32768 := by
                  have h1 := (unhide HBL).sum
                  have h3 := (hp4.map Prod.fst).sum_nat
                  simp at h3
                  omega
                rw [show n - 1 - 1 = n - 2 from by omega] at hown3
                have hD3 : D + 1 ≤ w3.heap.size := by have := hb3.size; have := unhide S2; omega
                have A3 := hide ((hb3.block D (by have := unhide S2; omega)).trans (unhide A2))
                have HAT3 := hide ((unhide HAT2).below hb3)
                have HOW3 := hide (own_lower hown3 (by have := unhide S2; have := unhide HD; omega : B + 3 ≤ w2.heap.size))
                have HVB := hide hvb
                have HSTEP := hide hstep
                have HL2 := hide hlen2
                obtain ⟨E, hE⟩ : ∃ E, E = w3.heap.size := ⟨_, rfl⟩
                have HE := hide hE
                clear hkb hle2 hs3 hp3 hF2 hvb hl2e hp4 hstep hlen2 hown3 hb3 hE
                go_upto_region 20 with (first
                  | (refine wpList_store_row rfl 117 (.tmp 10) (.tmp 60) rfl w3.heap.size (encR b).toArray rfl rfl 117 zeroR (heap_alloc_new _ _) sizeP rfl (all_oneCell_toArray (encR_one b)) ?_))
                obtain ⟨w4, hw4⟩ : ∃ w4, w4 = (w3.alloc (.cells zeroR 117)).setRow w3.heap.size (encR b).toArray := ⟨_, rfl⟩
                have a4 : w4.heap[E]? = some (.cells (encR b).toArray 117 (0, 0)) := by rw [hw4, unhide HE]; exact boxR w3 b w3.heap.size rfl
                have b4 : Below E w3 w4 := by rw [hw4, unhide HE]; exact belowR (Below.refl _ _) (Nat.le_refl _) _
                have s4 : w4.heap.size = E + 1 := by rw [hw4, unhide HE]; simp
                have hDE : D < E := by have := unhide HE; omega
                rw [← hw4, ← unhide HE]
                have ow4 := own_below (unhide HOW3) (by rw [← unhide HE]; exact b4)
                have d4 := (b4.block D hDE).trans (unhide A3)
                have at4 := (unhide HAT3).below (by rw [← unhide HE]; exact b4)
                have q1 : w4.cell? ⟨D, 16, none⟩ = some (I a.1) := by rw [cell_of_row _ _ _ _ _ _ d4, List.getElem?_toArray]; exact encR_w a
                have q2 : w4.cell? ⟨E, 16, none⟩ = some (I b.1) := by rw [cell_of_row _ _ _ _ _ _ a4, List.getElem?_toArray]; exact encR_w b
                have A4 := hide a4
                have D4 := hide d4
                have S4 := hide s4
                have OW4 := hide ow4
                have AT4 := hide at4
                obtain ⟨F, hFq⟩ : ∃ F, F = w4.heap.size := ⟨_, rfl⟩
                have HFQ := hide hFq
                have hEF : E + 1 = F := by have := unhide HFQ; have := unhide S4; omega
                clear hw4 a4 b4 s4 ow4 d4 at4 hFq
                obtain ⟨xa, hxa⟩ : ∃ xa, xa = a.1 := ⟨_, rfl⟩
                obtain ⟨xb, hxb⟩ : ∃ xb, xb = b.1 := ⟨_, rfl⟩
                rw [← hxa] at q1 hsum
                rw [← hxb] at q2 hsum
                have HXA := hide hxa
                have HXB := hide hxb
                clear hxa hxb hbo1
                go_wp2_with (first
                  | (refine wpList_store_row rfl 117 (.tmp 11) (.tmp 67) rfl w4.heap.size #[.bool false, .bool false, .bool false, .bool false, .bool false, .bool false, .bool false, .bool false, .bool false, .bool false, .bool false, .bool false, .bool false, .bool false, .bool false, .bool false, .int .i64 ((xa : Int) + (xb : Int))] rfl rfl 117 zeroR (heap_alloc_new _ _) sizeP rfl (encR_all0 (xa + xb)) ?_))
                obtain ⟨w5, hw5⟩ : ∃ w5, w5 = (w4.alloc (.cells zeroR 117)).setRow w4.heap.size #[.bool false, .bool false, .bool false, .bool false, .bool false, .bool false, .bool false, .bool false, .bool false, .bool false, .bool false, .bool false, .bool false, .bool false, .bool false, .bool false, .int .i64 ((xa : Int) + (xb : Int))] := ⟨_, rfl⟩
                have hm0 : (encR (mgI a b 0)).toArray = #[.bool false, .bool false, .bool false, .bool false, .bool false, .bool false, .bool false, .bool false, .bool false, .bool false, .bool false, .bool false, .bool false, .bool false, .bool false, .bool false, .int .i64 ((xa : Int) + (xb : Int))] := by
                  have e : mgI a b 0 = (xa + xb, []) := by unfold mgI; rw [unhide HXA, unhide HXB]; simp
                  rw [e]; rfl
                have m5 : MrgAt c f a b w w4 w5 B F 0 := by
                  rw [hw5]
                  refine ⟨?_, ?_, fun k h1 h2 => ?_⟩
                  · have e : Lf (fun j => f j + if j < 0 ∧ j ∈ mg a.2 b.2 then 1 else 0) = Lf f := Lf_congr fun j _ => by simp
                    rw [e]
                    exact (unhide AT4).below (belowR (Below.refl _ _) (Nat.le_refl _) _)
                  · rw [hm0, unhide HFQ]; exact setRow_heap _ _ _ _ _ _ (heap_alloc_new _ _)
                  · exact (belowR (Below.refl w4.heap.size w4) (Nat.le_refl _) _).block k (by have := unhide HFQ; omega)
                rw [← hw5, ← unhide HFQ]
                have M5 := hide m5
                clear hw5 hm0 m5 q1 q2
                have hBD : B + 3 ≤ D := by have := unhide HD; omega
                go_loopw [12] (fun iv w6 => ∃ i : Nat, i ≤ 16 ∧ iv = .int .i64 i ∧ MrgAt c f a b w w4 w6 B F i) (fun iv _ => 16 - (intOf iv).toNat)
                case atStart => exact ⟨0, by omega, rfl, unhide M5⟩
                case round =>
                  obtain ⟨i, hi, rfl, hm⟩ := hrel
                  have HM := hide hm
                  clear hm
                  by_cases hi16 : i < 16
                  · have ca := (unhide HM).of (unhide D4) hBD (by omega) hi16
                    have cb := (unhide HM).of (unhide A4) (by omega) (by omega) hi16
                    obtain ⟨v7, cf, ff⟩ := (unhide HM).bit hi16
                    have cl := (unhide HM).len hi16
                    have fl := (unhide HM).lenF (i := i)
                    have hfb := inv_bound (unhide HBL) hi16
                    obtain ⟨y, hy⟩ : ∃ y, y = f i := ⟨_, rfl⟩
                    rw [← hy] at cl hfb
                    have HY := hide hy
                    have hsz6 := (unhide HM).at_.size
                    clear hy
                    cases h1 : has a i
                    · cases h2 : has b i
                      · have hn : (has a i || has b i) = false := by rw [h1, h2]; rfl
                        rw [h1] at ca
                        rw [h2] at cb
                        have HNX := hide hn
                        clear h1 h2 hn cl fl
                        go_upto_region 25 with fail
                        obtain ⟨w7, hw7⟩ : ∃ w7, w7 = wr.setCell ⟨F, i, none⟩ (.bool false) := ⟨_, rfl⟩
                        have c7 : w7.cell? ⟨F, i, none⟩ = some (.bool false) := by rw [hw7]; exact cell_set_same cf _
                        have m7 : MrgAt c f a b w w4 w7 B F (i + 1) := by rw [hw7]; exact (unhide HM).set (unhide HVA) (unhide HVB) hi16 (by omega) (unhide HNX)
                        rw [← hw7]
                        have M7 := hide m7
                        clear hw7 m7 ca cb cf ff
                        go_wp2_with fail
                        go_roundw
                        case rel => exact ⟨i + 1, by omega, by go_num, unhide M7⟩
                        case measure => simp [intOf]; omega
                      · have hn : (has a i || has b i) = true := by rw [h1, h2]; rfl
                        rw [h1] at ca
                        rw [h2] at cb
                        have HNX := hide hn
                        clear h1 h2 hn
                        go_upto_region 25 with fail
                        obtain ⟨w7, hw7⟩ : ∃ w7, w7 = wr.setCell ⟨F, i, none⟩ (.bool true) := ⟨_, rfl⟩
                        have c7 : w7.cell? ⟨F, i, none⟩ = some (.bool true) := by rw [hw7]; exact cell_set_same cf _
                        have c8 : w7.cell? ⟨B + 1 + 1, i, none⟩ = some (.int .i64 y) := by rw [hw7, cell_set_block (by show B + 1 + 1 ≠ F; omega)]; exact cl
                        have f8 : w7.frozen? ⟨B + 1 + 1, i, none⟩ = false := by rw [hw7, frozen_set]; exact fl
                        have m7 : MrgAt c f a b w w4 (w7.setCell ⟨B + 1 + 1, i, none⟩ (.int .i64 (y + 1))) B F (i + 1) := by rw [hw7, unhide HY]; exact (unhide HM).put (unhide HVA) (unhide HVB) hi16 (by omega) (unhide HNX)
                        rw [← hw7]
                        have M7 := hide m7
                        clear hw7 m7 ca cb cf ff cl fl
                        go_wp2_with fail
                        go_roundw
                        case rel => exact ⟨i + 1, by omega, by go_num, unhide M7⟩
                        case measure => simp [intOf]; omega
                    · have hn : (has a i || has b i) = true := by rw [h1]; rfl
                      rw [h1] at ca
                      have HNX := hide hn
                      clear h1 hn
                      go_upto_region 25 with fail
                      obtain ⟨w7, hw7⟩ : ∃ w7, w7 = wr.setCell ⟨F, i, none⟩ (.bool true) := ⟨_, rfl⟩
                      have c7 : w7.cell? ⟨F, i, none⟩ = some (.bool true) := by rw [hw7]; exact cell_set_same cf _
                      have c8 : w7.cell? ⟨B + 1 + 1, i, none⟩ = some (.int .i64 y) := by rw [hw7, cell_set_block (by show B + 1 + 1 ≠ F; omega)]; exact cl
                      have f8 : w7.frozen? ⟨B + 1 + 1, i, none⟩ = false := by rw [hw7, frozen_set]; exact fl
                      have m7 : MrgAt c f a b w w4 (w7.setCell ⟨B + 1 + 1, i, none⟩ (.int .i64 (y + 1))) B F (i + 1) := by rw [hw7, unhide HY]; exact (unhide HM).put (unhide HVA) (unhide HVB) hi16 (by omega) (unhide HNX)
                      rw [← hw7]
                      have M7 := hide m7
                      clear hw7 m7 ca cb cf ff cl fl
                      go_wp2_with fail
                      go_roundw
                      case rel => exact ⟨i + 1, by omega, by go_num, unhide M7⟩
                      case measure => simp [intOf]; omega
                  · have hi' : i = 16 := by omega
                    subst hi'
                    have o16 : wr.heap[F]? = some (.cells (encR (mgT a b)).toArray 117 (0, 0)) := by
                      have := (unhide HM).o
                      rwa [mgI_all] at this
                    have ow6 := own_upto (unhide OW4) (by rw [unhide HFQ]; exact Nat.le_refl _) (unhide HM).keep
                    have O16 := hide o16
                    have OW6 := hide ow6
                    have hs6 := (unhide HM).at_.size
                    have h17 := encR_len (mgT a b)
                    obtain ⟨m, hm⟩ : ∃ m, m = n - 2 := ⟨_, rfl⟩
                    have hm16 : m ≤ 16 := by omega
                    rw [← hm] at ow6
                    have OW6 := hide ow6
                    have HM2 := hide hm
                    clear o16 ow6 hm
                    go_wp2_with (first
                      | (refine wpList_load_row rfl 117 (.tmp 11) rfl F rfl 117 (encR (mgT a b)).toArray (0, 0) _ (unhide O16) Try.underlying117 rfl sizeP ?_)
                      | at_builtin; rw [buildR (mgT a b)]; refine wpList_push_R rfl _ _ rfl (B + 3) _ m l2 rfl (unhide OW6) (mgT a b) wr.heap.size rfl rfl (by omega) hs6 ?_; intro A' cap' w8 hown8 hb8 hg8; have HOWN8 := hide hown8; have HB8 := hide hb8; clear hown8 hb8 hg8)
                    go_roundw
                    case rel =>
                      have hl3 : (l2 ++ [mgT a b]).length = m + 1 := by rw [List.length_append, unhide HL2, ← unhide HM2]; rfl
                      have hst := unhide HSTEP
                      refine ⟨l2 ++ [mgT a b], fun j => f j + if j < 16 ∧ j ∈ mg a.2 b.2 then 1 else 0, ⟨hst.1, by omega, by have := unhide HM2; omega, ?_, by rw [hl3]; exact unhide HOWN8, (unhide HM).at_.below3 (unhide HB8), fun i hi => ?_⟩⟩
                      · rw [hst.2.1]; exact (unhide HBL).sum
                      · have h1 := (unhide HBL).inv i hi
                        have h3 := hst.2.2 (n - 2) i
                        have e1 : l.length - 1 = n - 2 + 1 := by have := unhide HN; omega
                        rw [e1, h3] at h1
                        have e2 : (l2 ++ [mgT a b]).length - 1 = n - 2 := by rw [hl3]; have := unhide HM2; omega
                        rw [e2, ← h1]
                        by_cases h4 : i ∈ mg a.2 b.2
                        · rw [if_pos ⟨hi, h4⟩, if_pos h4]; simp; omega
                        · rw [if_neg (fun h => h4 h.2), if_neg h4]; simp
                    case measure =>
                      have := unhide HM2
                      simp [slLen]; omega
              · have e1 : n = 1 := by omega
                have z3 : decide ((n : Int) > 1) = false := by rw [decide_eq_false_iff_not]; omega
                have hres : lensOf c = Lf f := by
                  rw [unhide HRES]
                  refine Lf_congr fun i hi => ?_
                  have h1 := (unhide HBL).inv i hi
                  rw [build_short (by have := unhide HN; omega)] at h1
                  omega
                have HR2 := hide hres
                clear hres e1
                go_wp2_with (first
                  | (refine wpList_load16 rfl (.tmp 4) rfl (B + 2) rfl _ (Lf_len _) (unhide HAT).o ?_)
                  | (refine wpList_store_row rfl 64 (.tmp 2) (.tmp 98) rfl (B + 1) (cells16 (Lf f)) rfl rfl 64 _ (unhide HAT).z (by rw [sizeI, cells16_size (Lf_len _)]) rfl (cells16_one _) ?_))
                refine bodyPost_ret (results_row_tmp rfl _ _ (B + 1) 64 (cells16 (Lf f)) (0, 0) _ rfl ((unhide HAT).res _) Try.underlying64 rfl (by rw [sizeI, cells16_size (Lf_len _)])) rfl ⟨by rw [unhide HE1, unhide HR2]; rfl, ?_⟩
                rw [← unhide HB]
                exact below_setRow (unhide HAT).bel (by omega) _

end Go.Proofs.Ytgfkkjcnnecefaa

/- The program's Build. -/
namespace Go.Proofs.Ytgfkkjcnnecefaa
open Go.RowKit Go.Lib Pl Go.Sort

/-- append(l, tree{..}) where l may still be nil -/
theorem wpList_push_T {w : World} {ops : Array Oper} {rest : List Oper} {o : Oper} {a : Act} {Q : Exit → Act → World → Prop} (hgd : o.guard = none) (s x : Operand)
    (ho : o.op = .call { callee := .builtin .append, args := #[s, x], argTypes := #[106, 106] })
    (base : Nat) (v : Value) (n : Nat) (l : List El) (hs : a.eval s = v) (hown : w.ownsRow base 109 2 v n (l.flatMap elCells)) (e : El)
    (H : Nat) (hH : w.heap.size = H) (hx : a.eval x = .slice (some ⟨H, 0, none⟩) 1 1)
    (hn : n ≤ 1000000) (hbase : base ≤ w.heap.size)
    (h : ∀ A' cap' w', w'.ownsRow base 109 2 (.slice A' (n + 1) cap') (n + 1) ((l ++ [e]).flatMap elCells) → (w.alloc (.cells #[I (e.w : Int), SgV e] 109)).grownBy w' v.ownBlock → wpList Try.prog ops Q rest (a.put o.dst (.slice A' (n + 1) cap')) w') :
    wpList Try.prog ops Q (o :: rest) a (w.alloc (.cells #[I (e.w : Int), SgV e] 109)) := by
  subst hH
  obtain ⟨i0, hi, hz0, hz1, hz2⟩ := info_parts info_tree
  refine wpList_append_own _ hgd s x _ ho base 109 i0 _ 2 32 Try.underlying106 hi hz0 hz1 hz2 rfl (by decide) v n (l.flatMap elCells) hs (hown.alloc _) ⟨w.heap.size, 0, none⟩ 1 1 (elCells e) hx rfl (cells2_new _ _ _ _) ?_ (by unfold maxLen; omega) (by omega) (by simp; omega) ?_
  · intro y hy
    simp [elCells] at hy
    rcases hy with rfl | rfl <;> rfl
  · intro v' w' hown' hg _
    have hown2 : w'.ownsRow base 109 2 v' (n + 1) ((l ++ [e]).flatMap elCells) := by
      rw [List.flatMap_append, List.flatMap_singleton]; exact hown'
    obtain ⟨A', cap', rfl⟩ := own_slice17 hown2
    exact h A' cap' w' hown2 hg
/-- the signs' rows are kept -/
theorem SgOK.grown {w w' : World} {base : Nat} {e : El} {r : Option Nat} (h : SgOK w base e) (hg : w.grownBy w' r) (hr : r ≠ some e.g) : SgOK w' base e :=
  h.kept (hg.block e.g h.lt.2 (fun x => hr x.symm))
theorem SgOK.alloc {w : World} {base : Nat} {e : El} (h : SgOK w base e) (o : Obj) : SgOK (w.alloc o) base e := h.kept (Below.heap_alloc w o e.g h.lt.2)
theorem SgOK.neT {w : World} {base base' n : Nat} {v : Value} {e : El} {l : List El} (h : SgOK w base e) (ho : w.ownsRow base' 109 2 v n (l.flatMap elCells)) : v.ownBlock ≠ some e.g := by
  intro heq
  rcases ho.2 with ⟨rfl, _⟩ | ⟨g, cap, cur, rfl, hb, hg, _⟩
  · cases heq
  · have e1 : g = e.g := by simpa [Value.ownBlock] using heq
    rcases h.2 with ⟨hv, _⟩ | ⟨g', cap', cur', hv, hb', hg', _⟩
    · cases hv
    · injection hv with ha
      injection ha with ha
      injection ha with ha
      rw [← ha, ← e1, hg] at hg'
      injection hg' with hg'
      injection hg' with _ hg'
      exact absurd hg' (by decide)
theorem BAt.grown {c L : List Int} {w wr w1 : World} {B : Nat} {r : Option Nat} (h : BAt c L w wr B) (hg : wr.grownBy w1 r) (hr : ∀ k, r = some k → B + 3 ≤ k) : BAt c L w w1 B := by
  have s := h.size
  have far : ∀ k, k < B + 3 → w1.heap[k]? = wr.heap[k]? := fun k hk => hg.block k (by omega) (fun e => by have := hr k e.symm; omega)
  exact ⟨(far _ (by omega)).trans h.a, (far _ (by omega)).trans h.z, (far _ (by omega)).trans h.o, h.bel.grown hg (by omega) (fun k hk => by have := hr k hk; omega)⟩
/-- a new row of one sign -/
theorem sg_new (w : World) (base y i : Nat) (hb : base ≤ w.heap.size) : SgOK (w.alloc (.cells #[I (i : Int)] 3)) base ⟨y, w.heap.size, 1, [i]⟩ := by
  refine ⟨rfl, .inr ⟨w.heap.size, 1, _, rfl, hb, heap_alloc_new _ _, Nat.le_refl _, by unfold maxLen; omega, rfl, rfl⟩⟩
theorem sg_of_own {w : World} {base y g cap : Nat} {l : List Nat} {n : Nat} (hn : l.length = n) (h : w.ownsRow base 3 1 (.slice (some ⟨g, 0, none⟩) n cap) n (l.map natI)) : SgOK w base ⟨y, g, cap, l⟩ := by
  subst hn; exact h

/-- the state of the building -/
structure BldP (c : List Int) (w wr : World) (B g off cap : Nat) (es : List El) (f : Nat → Int) : Prop where
  fo : Forest (es.map El.tr)
  one : 1 ≤ es.length
  le : es.length ≤ 16
  sum : ((es.map El.tr).map Prod.fst).sum ≤ 32768
  q : QAt wr (B + 3) g off cap es
  sg : ∀ e ∈ es, SgOK wr (B + 3) e
  at_ : BAt c (Lf f) w wr B
  inv : ∀ i, i < 16 → f i + (build (es.length - 1) (es.map El.tr) i : Int) = (build ((fulF c).length - 1) (fulF c) i : Int)
theorem BldP.bound {c : List Int} {w wr : World} {B g off cap : Nat} {es : List El} {f : Nat → Int} (h : BldP c w wr B g off cap es f) {i : Nat} (hi : i < 16) : -100 ≤ f i ∧ f i ≤ 100 := by
  have h1 := h.inv i hi
  have h2 := build_le (es.length - 1) (es.map El.tr) i
  have h3 := build_le ((fulF c).length - 1) (fulF c) i
  have h4 := fulF_len c
  have h5 := h.le
  omega
/-- what two trees in a row say -/
structure TwoQ (W : World) (g off : Nat) (a b : El) : Prop where
  wa : W.cell? ⟨g, off, none⟩ = some (I (a.w : Int))
  sa : W.cell? ⟨g, off + 1, none⟩ = some (SgV a)
  wb : W.cell? ⟨g, off + 2, none⟩ = some (I (b.w : Int))
  sb : W.cell? ⟨g, off + 2 + 1, none⟩ = some (SgV b)
  ra : W.rangeAt a.g 0 (a.s.map natI)
  rb : W.rangeAt b.g 0 (b.s.map natI)
  la : 1 ≤ a.s.length ∧ a.s.length ≤ 16
  lb : 1 ≤ b.s.length ∧ b.s.length ≤ 16
theorem TwoQ.below {W w' : World} {g off : Nat} {a b : El} (h : TwoQ W g off a b) (hb : Below W.heap.size W w') : TwoQ w' g off a b :=
  ⟨(hb.cell (block_lt_of_cell h.wa)).trans h.wa, (hb.cell (block_lt_of_cell h.sa)).trans h.sa, (hb.cell (block_lt_of_cell h.wb)).trans h.wb, (hb.cell (block_lt_of_cell h.sb)).trans h.sb, range_below h.ra (by have := h.la; simp; omega) hb, range_below h.rb (by have := h.lb; simp; omega) hb, h.la, h.lb⟩
theorem TwoQ.alloc {W : World} {g off : Nat} {a b : El} (h : TwoQ W g off a b) (o : Obj) : TwoQ (W.alloc o) g off a b := h.below ((Below.refl _ _).alloc (Nat.le_refl _) _)
theorem TwoQ.drew {W : World} {g off : Nat} {a b : El} (h : TwoQ W g off a b) : TwoQ W.drew g off a b := ⟨h.wa, h.sa, h.wb, h.sb, h.ra, h.rb, h.la, h.lb⟩
theorem vt_len {t : Tr} (h : VT t) : 1 ≤ t.2.length ∧ t.2.length ≤ 16 := by
  refine ⟨List.length_pos_iff.2 h.ne, ?_⟩
  have h1 : mg t.2 t.2 = t.2 := asc_unique _ _ (mg_asc _ _) h.asc fun i => by rw [mem_mg h.lt h.lt]; exact ⟨fun h => h.elim id id, .inl⟩
  rw [← h1]
  have h2 := List.length_filter_le (fun i => decide (i ∈ t.2 ∨ i ∈ t.2)) (List.range 16)
  simp only [List.length_range] at h2
  exact h2

theorem cellsT_new (W : World) (x y : Nat) (v : Value) (H : Nat) (hH : H = W.heap.size) : (W.alloc (.cells #[.int .i64 ((x : Int) + (y : Int)), v] 109)).cell? ⟨H, 0, none⟩ = some (I ((x + y : Nat) : Int)) := by
  subst hH
  rw [World.cell?_alloc_new]
  simp
theorem cellsT_new1 (W : World) (x : Int) (e : El) (H : Nat) {n : Nat} (hH : H = W.heap.size) (hn : e.s.length = n) : (W.alloc (.cells #[.int .i64 x, .slice (some ⟨e.g, 0, none⟩) n e.cap] 109)).cell? ⟨H, 1, none⟩ = some (SgV e) := by
  subst hH
  subst hn
  rw [World.cell?_alloc_new]
  rfl

/-- while the signs of two trees are made one bit longer -/
structure IncAt (c : List Int) (f : Nat → Int) (m : List Nat) (w w3 wr : World) (B i : Nat) : Prop where
  at_ : BAt c (Lf fun j => f j + if j ∈ m.take i then 1 else 0) w wr B
  keep : ∀ k, B + 3 ≤ k → wr.heap[k]? = w3.heap[k]?
  size : wr.heap.size = w3.heap.size
theorem take_mem_succ {m : List Nat} {i j : Nat} (hj : m[i]? = some j) (k : Nat) : k ∈ m.take (i + 1) ↔ k ∈ m.take i ∨ k = j := by
  rw [List.take_add_one, hj]; simp
theorem take_not_mem {m : List Nat} {i j : Nat} (hj : m[i]? = some j) (hn : m.Nodup) : j ∉ m.take i := by
  intro h
  obtain ⟨k, hk⟩ := List.mem_iff_getElem?.1 h
  rw [List.getElem?_take] at hk
  split at hk
  · rename_i hlt
    obtain ⟨h1, h2⟩ := List.getElem?_eq_some_iff.1 hk
    obtain ⟨h3, h4⟩ := List.getElem?_eq_some_iff.1 hj
    have := (List.getElem_inj hn).1 (h2.trans h4.symm)
    omega
  · cases hk
theorem IncAt.len {c : List Int} {f : Nat → Int} {m : List Nat} {w w3 wr : World} {B i j : Nat} (h : IncAt c f m w w3 wr B i) (hj : m[i]? = some j) (hj16 : j < 16) (hn : m.Nodup) : wr.cell? ⟨B + 1 + 1, j, none⟩ = some (.int .i64 (f j)) := by
  refine (cell16 h.at_.o (Lf_get _ hj16)).trans ?_
  rw [if_neg (take_not_mem hj hn)]; simp
theorem IncAt.put {c : List Int} {f : Nat → Int} {m : List Nat} {w w3 wr : World} {B i j : Nat} (h : IncAt c f m w w3 wr B i) (hj : m[i]? = some j) (hn : m.Nodup) :
    IncAt c f m w w3 (wr.setCell ⟨B + 1 + 1, j, none⟩ (.int .i64 (f j + 1))) B (i + 1) := by
  refine ⟨?_, fun k hk => ?_, by simp [h.size]⟩
  · have e : Lf (fun k => f k + if k ∈ m.take (i + 1) then 1 else 0) = (Lf fun k => f k + if k ∈ m.take i then 1 else 0).set j (f j + 1) := by
      rw [Lf_set]
      refine Lf_congr fun k _ => ?_
      by_cases e : k = j
      · subst e; rw [if_pos rfl, if_pos ((take_mem_succ hj k).2 (.inr rfl))]
      · rw [if_neg e]
        congr 1
        have := take_mem_succ hj k
        by_cases h1 : k ∈ m.take i
        · rw [if_pos h1, if_pos (this.2 (.inl h1))]
        · rw [if_neg h1, if_neg (fun h => (this.1 h).elim h1 e)]
    rw [e]
    exact h.at_.put j _
  · rw [heap_setCell_other _ _ _ _ (by show k ≠ B + 1 + 1; omega)]; exact h.keep k hk

set_option maxHeartbeats 4000000 in
set_option maxRecDepth 100000 in
theorem build_any (c : List Int) (w : World) (hc : c.length = 16) :
    Calls Try.prog 43 #[A16 c] w fun e w' => e = .returned (.tuple #[A16 (lensOf c), I (buildE c)]) ∧ Below w.heap.size w w' := by
  obtain ⟨B, hB⟩ : ∃ B, B = w.heap.size := ⟨_, rfl⟩
  obtain ⟨w0, hw0⟩ : ∃ w0, w0 = ((w.alloc (.cells (cells16 c) 64)).alloc (.cells (cells16 (Lf fun _ => 0)) 64)).alloc (.cells (cells16 (Lf fun _ => 0)) 64) := ⟨_, rfl⟩
  have h0 : BAt c (Lf fun _ => 0) w w0 B := by rw [hB, hw0]; exact BAt.start c w
  have H0 := hide h0
  have HB := hide hB
  have HC := hide hc
  have HW0 := hide hw0
  have CF := fun (W : World) => fine_any c W hc
  have hz := zero16v
  obtain ⟨fb, hfb⟩ : ∃ fb, fb = fineB c := ⟨_, rfl⟩
  rw [← hfb] at CF
  have CF := hide CF
  have HFB := hide hfb
  clear h0 hB hc hw0 hfb
  cases fb with
  | false =>
    have e1 := buildE_bad (unhide HFB).symm
    have e2 := lensOf_err (c := c) (by rw [e1]; omega)
    rw [e1, e2]
    clear e1 e2
    go_enter Try.func43, Try.ntmps43
    go_wp2_with (first
      | (refine wpList_load16 rfl (.tmp 1) rfl B (by rw [unhide HB]; rfl) c (unhide HC) (by rw [← unhide HW0]; exact (unhide H0).a) ?_; rw [← unhide HW0, ← unhide HB]))
    refine (unhide CF _).mono ?_
    rintro e w1 ⟨rfl, hb⟩
    have H1 := hide ((unhide H0).below hb)
    clear hb
    go_wp2_with (first
      | (refine wpList_load16 rfl (.tmp 4) rfl (B + 2) rfl _ (Lf_len _) (unhide H1).o ?_)
      | (refine wpList_store_row rfl 64 (.tmp 2) (.tmp 14) rfl (B + 1) (cells16 (Lf fun _ => 0)) rfl rfl 64 _ (unhide H1).z (by rw [sizeI, cells16_size (Lf_len _)]) rfl (cells16_one _) ?_))
    refine bodyPost_ret (results_row_tmp rfl _ _ (B + 1) 64 (cells16 (Lf fun _ => 0)) (0, 0) _ rfl ((unhide H1).res _) Try.underlying64 rfl (by rw [sizeI, cells16_size (Lf_len _)])) rfl ⟨rfl, ?_⟩
    rw [← unhide HB]
    exact below_setRow (unhide H1).bel (by omega) _
  | true =>
    have HFA := hide (fine_all (unhide HFB).symm)
    go_enter Try.func43, Try.ntmps43
    go_wp2_with (first
      | (refine wpList_load16 rfl (.tmp 1) rfl B (by rw [unhide HB]; rfl) c (unhide HC) (by rw [← unhide HW0]; exact (unhide H0).a) ?_; rw [← unhide HW0, ← unhide HB]))
    refine (unhide CF _).mono ?_
    rintro e w1 ⟨rfl, hb⟩
    have H1 := hide ((unhide H0).below hb)
    clear hb
    go_wp2_with (first
      | (refine wpList_load16 rfl (.tmp 1) rfl B rfl c (unhide HC) (unhide H1).a ?_))
    go_loopw [5, 6, 7, 16] (fun lv _ _ iv wr => ∃ (k : Nat) (es : List El), k ≤ 16 ∧ iv = .int .i64 k ∧ es.map El.tr = startF c k ∧ wr.ownsRow (B + 3) 109 2 lv es.length (es.flatMap elCells) ∧ (∀ e ∈ es, SgOK wr (B + 3) e) ∧ BAt c (Lf fun _ => 0) w wr B) (fun _ _ _ iv _ => 16 - (intOf iv).toNat)
    case atStart => exact ⟨0, [], by omega, rfl, rfl, World.ownsRow_nil _ _ _ _, fun _ h => (List.not_mem_nil h).elim, unhide H1⟩
    case round =>
      obtain ⟨k, es, hk, rfl, hes, hown, hsg, hat⟩ := hrel
      have HES := hide hes
      have HOWN := hide hown
      have HSG := hide hsg
      have HAT := hide hat
      clear hown hat hsg hes
      have hsz := (unhide HAT).size
      by_cases hk16 : k < 16
      · obtain ⟨x, hx⟩ : ∃ x, c[k]? = some x := ⟨_, List.getElem?_eq_getElem (by have := unhide HC; omega)⟩
        have hcx := cell16 (unhide HAT).a hx
        have hix := run_index16 c (unhide HC) k x hx
        have bx := unhide HFA x (List.mem_of_getElem? hx)
        have hxd : c.getD k 0 = x := by rw [List.getD_eq_getElem?_getD, hx]; rfl
        by_cases hp : 0 < x
        · obtain ⟨y, rfl⟩ : ∃ y : Nat, x = (y : Int) := ⟨x.toNat, by omega⟩
          have hcn : cn c k = y := by unfold cn; rw [hxd]; rfl
          have hst : startF c (k + 1) = startF c k ++ [(y, [k])] := by rw [startF_pos (by rw [hxd]; exact hp), hcn]
          have HST := hide hst
          have hlen : es.length ≤ k := by have := startF_len c k; rw [← unhide HES, List.length_map] at this; exact this
          obtain ⟨n, hn⟩ : ∃ n, n = es.length := ⟨_, rfl⟩
          have HN := hide hn
          rw [← hn] at hlen
          clear hx hxd hcn hst hn
          have ow1 := hide ((unhide HOWN).alloc (.cells #[I (k : Int)] 3))
          rw [← unhide HN] at ow1
          have hb1 : B + 3 ≤ (wr.alloc (.cells #[I (k : Int)] 3)).heap.size := by simp; omega
          go_wp2_with (at_builtin; refine wpList_push_T rfl _ _ rfl (B + 3) _ n es rfl (unhide ow1) ⟨y, wr.heap.size, 1, [k]⟩ (wr.heap.size + 1) (by simp) rfl (by omega) hb1 ?_; intro A' cap' w4 hown4 hg4; have HOWN4 := hide hown4; have HG4 := hide hg4; clear hown4 hg4)
          go_roundw
          case rel =>
            refine ⟨k + 1, es ++ [⟨y, wr.heap.size, 1, [k]⟩], by omega, by go_num, by rw [List.map_append, unhide HES, unhide HST]; rfl, by rw [List.length_append, ← unhide HN]; exact unhide HOWN4, fun e he => ?_, ?_⟩
            · have hnew := (sg_new wr (B + 3) y k hsz).alloc (.cells #[I (y : Int), SgV ⟨y, wr.heap.size, 1, [k]⟩] 109)
              rcases List.mem_append.1 he with he | he
              · refine (((unhide HSG e he).alloc _).alloc _).grown (unhide HG4) ?_
                exact (unhide HSG e he).neT (unhide HOWN)
              · have : e = ⟨y, wr.heap.size, 1, [k]⟩ := by simpa using he
                subst this
                refine hnew.grown (unhide HG4) fun h => ?_
                have := ((unhide HOWN).lt _ h).2
                simp at this
            · refine (((unhide HAT).below ((Below.refl _ _).alloc (Nat.le_refl _) _)).below ((Below.refl _ _).alloc (Nat.le_refl _) _)).grown (unhide HG4) fun k hk => ?_
              exact ((unhide HOWN).lt k hk).1
          case measure => simp [intOf]; omega
        · have hst : startF c (k + 1) = startF c k := startF_zero (by rw [hxd]; exact hp)
          have HST := hide hst
          clear hx hxd hst
          go_wp2_with fail
          go_roundw
          case rel => exact ⟨k + 1, es, by omega, by go_num, by rw [unhide HST]; exact unhide HES, unhide HOWN, unhide HSG, unhide HAT⟩
          case measure => simp [intOf]; omega
      · have hk' : k = 16 := by omega
        subst hk'
        have hF := startF_forest c 16 (Nat.le_refl _)
        rw [← unhide HES] at hF
        have hful : fulF c = es.map El.tr := (unhide HES).symm
        obtain ⟨n, hn⟩ : ∃ n, n = es.length := ⟨_, rfl⟩
        have hl16 := startF_len c 16
        rw [← unhide HES, List.length_map, ← hn] at hl16
        have hfl : (fulF c).length = n := by rw [hful, List.length_map, hn]
        have hw0 := unhide HOWN
        rw [← hn] at hw0
        obtain ⟨A, cap, rfl⟩ := own_slice17 hw0
        have HW := hide hw0
        have HF := hide hF
        have HFUL := hide hful
        have HN := hide hn
        have HFL := hide hfl
        clear hF hful hn hw0 hfl
        by_cases h0 : n = 0
        · have e1 : buildE c = 5 := buildE_none (unhide HFB).symm (by rw [unhide HFL, h0])
          have e2 := lensOf_err (c := c) (by rw [e1]; omega)
          have HE1 := hide e1
          have HE2 := hide e2
          have z1 : ((n : Int) == 0) = true := by rw [h0]; rfl
          clear e1 e2 h0
          go_wp2_with (first
            | (refine wpList_load16 rfl (.tmp 4) rfl (B + 2) rfl _ (Lf_len _) (unhide HAT).o ?_)
            | (refine wpList_store_row rfl 64 (.tmp 2) (.tmp 34) rfl (B + 1) (cells16 (Lf fun _ => 0)) rfl rfl 64 _ (unhide HAT).z (by rw [sizeI, cells16_size (Lf_len _)]) rfl (cells16_one _) ?_))
          refine bodyPost_ret (results_row_tmp rfl _ _ (B + 1) 64 (cells16 (Lf fun _ => 0)) (0, 0) _ rfl ((unhide HAT).res _) Try.underlying64 rfl (by rw [sizeI, cells16_size (Lf_len _)])) rfl ⟨by rw [unhide HE1, unhide HE2]; rfl, ?_⟩
          rw [← unhide HB]
          exact below_setRow (unhide HAT).bel (by omega) _
        · have z1 : ((n : Int) == 0) = false := by rw [beq_eq_false_iff_ne]; omega
          have e1 : buildE c = 0 := buildE_ok (unhide HFB).symm (by rw [unhide HFL]; exact h0)
          have HE1 := hide e1
          clear e1
          obtain ⟨g, cap', hgc⟩ : ∃ g cap', Value.slice A n cap = .slice (some ⟨g, 0, none⟩) n cap' := by
            rcases (unhide HW).2 with ⟨_, hh⟩ | ⟨g, cap', cur, hv, _⟩
            · exact absurd hh h0
            · exact ⟨g, cap', hv⟩
          injection hgc with hA _ hcap
          subst hA
          subst hcap
          obtain ⟨hq, _⟩ := QAt.of_own (unhide HW)
          have HQ := hide hq
          clear hq
          by_cases h1 : n = 1
          · have z2 : ((n : Int) == 1) = true := by rw [h1]; rfl
            have z3 : decide ((n : Int) > 1) = false := by rw [h1]; rfl
            have z4 : decide (1 < n) = false := by rw [h1]; rfl
            obtain ⟨t, ht⟩ : ∃ t, es = [t] := List.length_eq_one_iff.1 ((unhide HN).symm.trans h1)
            have e2 := lens_one (unhide HFB).symm (t := t.tr) (by rw [unhide HFUL, ht]; rfl)
            have hv := (unhide HF).vt t.tr (by rw [ht]; simp)
            have hcl := ((unhide HQ).get (k := 0) (x := t) (by rw [ht]; rfl)).2
            obtain ⟨hs0, hsl⟩ := (unhide HSG t (by rw [ht]; simp)).head hv
            have hd16 := hv.lt _ (hd_mem hv)
            obtain ⟨d, hd'⟩ : ∃ d, d = hd t.tr := ⟨_, rfl⟩
            rw [← hd'] at e2 hd16 hs0
            have hcl2 : wr.cell? ⟨g, 1, none⟩ = some (SgV t) := hcl
            have hn0 : (0 : Int) < n := by omega
            have hnn : 0 < n := by omega
            have c3 : wr.cell? ⟨B + 1 + 1, d, none⟩ = some (.int .i64 0) := cell16 (unhide HAT).o (Lf_get _ hd16)
            have f3 : wr.frozen? ⟨B + 1 + 1, d, none⟩ = false := frozen_of_row _ _ _ _ _ (unhide HAT).o
            have HE2 := hide e2
            clear e2 hv ht hd' h0 h1 hcl
            go_wp2_with fail
            obtain ⟨w3, hw3⟩ : ∃ w3, w3 = wr.setCell ⟨B + 1 + 1, d, none⟩ (.int .i64 1) := ⟨_, rfl⟩
            rw [← hw3]
            have h3 : BAt c (Lf fun j => if j = d then 1 else 0) w w3 B := by
              have := (unhide HAT).put d 1
              rw [Lf_set] at this
              rw [hw3]; exact this
            have H3 := hide h3
            clear c3 f3 hw3 h3 hs0 hcl2
            go_loopw [5] (fun lv wr1 => lv = .slice (some ⟨g, 0, none⟩) n cap ∧ wr1 = w3) (fun _ _ => 0)
            case atStart => exact ⟨rfl, rfl⟩
            case round =>
              obtain ⟨rfl, hw4⟩ := hrel
              rw [hw4]
              clear hw4
              go_wp2_with (first
                | (refine wpList_load16 rfl (.tmp 4) rfl (B + 2) rfl _ (Lf_len _) (unhide H3).o ?_)
                | (refine wpList_store_row rfl 64 (.tmp 2) (.tmp 88) rfl (B + 1) (cells16 (Lf fun j => if j = d then 1 else 0)) rfl rfl 64 _ (unhide H3).z (by rw [sizeI, cells16_size (Lf_len _)]) rfl (cells16_one _) ?_))
              refine bodyPost_ret (results_row_tmp rfl _ _ (B + 1) 64 (cells16 (Lf fun j => if j = d then 1 else 0)) (0, 0) _ rfl ((unhide H3).res _) Try.underlying64 rfl (by rw [sizeI, cells16_size (Lf_len _)])) rfl ⟨by rw [unhide HE1, unhide HE2]; rfl, ?_⟩
              rw [← unhide HB]
              exact below_setRow (unhide H3).bel (by omega) _
          · have z2 : ((n : Int) == 1) = false := by rw [beq_eq_false_iff_ne]; omega
            have HRES := hide (lens_many (unhide HFB).symm (by rw [unhide HFL]; omega))
            have hst : BldP c w wr B g 0 cap es fun _ => 0 := by
              have hlen := unhide HN
              refine ⟨unhide HF, by omega, by omega, ?_, unhide HQ, unhide HSG, unhide HAT, fun i _ => ?_⟩
              · rw [← unhide HFUL]; exact sum_full (unhide HFB).symm (unhide HC)
              · rw [unhide HFUL, List.length_map, Int.zero_add]
            have HST := hide hst
            clear hst h0 h1
            go_wp2_with fail
            go_loopw [5] (fun lv wr => ∃ es f g off cap, lv = .slice (some ⟨g, off, none⟩) es.length cap ∧ BldP c w wr B g off cap es f) (fun lv _ => slLen lv)
            case atStart => exact ⟨es, _, g, 0, cap, by rw [← unhide HN], unhide HST⟩
            case round =>
              obtain ⟨es, f, g, off, cap, rfl, hbl⟩ := hrel
              obtain ⟨n, hn⟩ : ∃ n, n = es.length := ⟨_, rfl⟩
              rw [← hn]
              have hle := hbl.le
              have hone := hbl.one
              rw [← hn] at hle hone
              have hgB := hbl.q.1
              have HBL := hide hbl
              have HN := hide hn
              clear hbl
              by_cases h2 : 2 ≤ n
              · have K := sortTree_any (unhide HBL).q (unhide HBL).sg (unhide HBL).fo (by omega) (by omega)
                rw [← hn] at K
                have K := hide K
                clear hn
                go_wp2_with fail
                refine (unhide K).mono ?_
                rintro e w1 ⟨rfl, l', hperm, hsrt, hq1, hg1⟩
                obtain ⟨a, b, r, rfl⟩ : ∃ a b r, l' = a :: b :: r := by
                  have hl := hperm.length_eq
                  match l', hl with
                  | [], hl => simp at hl; have := unhide HN; omega
                  | [x], hl => simp at hl; have := unhide HN; omega
                  | a :: b :: r, _ => exact ⟨a, b, r, rfl⟩
                have hsg1 : ∀ e ∈ a :: b :: r, SgOK w1 (B + 3) e := fun e he => ((unhide HBL).sg e (hperm.mem_iff.1 he)).grown hg1 (fun h => ((unhide HBL).sg e (hperm.mem_iff.1 he)).ne (unhide HBL).q (by injection h with h; exact h.symm))
                have at1 : BAt c (Lf f) w w1 B := (unhide HBL).at_.grown hg1 (fun k hk => by injection hk with hk; omega)
                have hpm : (a.tr :: b.tr :: r.map El.tr).Perm (es.map El.tr) := hperm.map El.tr
                have hfo : Forest (a.tr :: b.tr :: r.map El.tr) := (unhide HBL).fo.perm hpm.symm
                have va := hfo.vt a.tr (by simp)
                have vb := hfo.vt b.tr (by simp)
                have hdis : Dis a.tr b.tr := (List.pairwise_cons.1 hfo.dis).1 b.tr (by simp)
                have hs : sortT (es.map El.tr) = a.tr :: b.tr :: r.map El.tr := sortT_of_srt (unhide HBL).fo.kd hpm hsrt
                have hstep := step_all (unhide HBL).fo hpm ⟨r.map El.tr, hs, List.Perm.refl _⟩
                have hlr : r.length + 2 = n := by have := hperm.length_eq; have := unhide HN; simp at *; omega
                obtain ⟨c0, c1⟩ := hq1.get (k := 0) (x := a) rfl
                obtain ⟨c2, c3⟩ := hq1.get (k := 1) (x := b) rfl
                have two : TwoQ w1 g off a b := ⟨c0, c1, c2, c3, sg_range (hsg1 a (by simp)), sg_range (hsg1 b (by simp)), vt_len va, vt_len vb⟩
                have hw : a.w + b.w ≤ 32768 := by
                  have h1 := (unhide HBL).sum
                  have h3 := (hpm.map Prod.fst).sum_nat
                  have h4 : ((a.tr :: b.tr :: r.map El.tr).map Prod.fst).sum = a.w + (b.w + ((r.map El.tr).map Prod.fst).sum) := rfl
                  rw [h4] at h3
                  omega
                have TWO := hide two
                have SG1 := hide hsg1
                have AT1 := hide at1
                have VAB := hide (And.intro va (And.intro vb hdis))
                have HSTEP := hide hstep
                have HQ1 := hide hq1
                have HLR := hide hlr
                have hgl1 := hq1.lt
                have hs1 : B + 3 ≤ w1.heap.size := at1.size
                have nn : 0 < n := by omega
                have nn1 : 1 < n := by omega
                have ni : (0 : Int) < (n : Int) := by omega
                have ni1 : (1 : Int) < (n : Int) := by omega
                clear two hsg1 at1 hpm hfo va vb hdis hs hstep hq1 hg1 hperm hsrt c0 c1 c2 c3 K hlr
                obtain ⟨r1, r2, r3, r4⟩ : (∀ W : World, TwoQ W g off a b → W.cell? ⟨g, off, none⟩ = some (I (a.w : Int))) ∧ (∀ W : World, TwoQ W g off a b → W.cell? ⟨g, off + 1, none⟩ = some (SgV a)) ∧ (∀ W : World, TwoQ W g off a b → W.cell? ⟨g, off + 2, none⟩ = some (I (b.w : Int))) ∧ (∀ W : World, TwoQ W g off a b → W.cell? ⟨g, off + 2 + 1, none⟩ = some (SgV b)) := ⟨fun _ h => h.wa, fun _ h => h.sa, fun _ h => h.wb, fun _ h => h.sb⟩
                have KC := hide (fun (s : Nat) (W : World) (h : CatAt W s a b) => concat_any a b s W h)
                go_wp2_with fail
                go_region_held3 (fun w' => TwoQ w' g off a b) (first | exact (unhide TWO).drew | assumption | exact TwoQ.drew (by assumption) | exact TwoQ.alloc (by assumption) _ | exact (TwoQ.alloc (by assumption) _).drew | exact TwoQ.below (by assumption) (by assumption))
                  ((first
                    | (go_at_call 68; have hTQ := ‹TwoQ _ g off a b›; refine (unhide KC _ _ ⟨by exact (cell_new_at 0 (by simp)).trans rfl, by exact (cell_new_at 1 (by simp)).trans rfl, by exact hTQ.ra, by exact hTQ.rb, hTQ.la, hTQ.lb⟩).mono ?_; clear hTQ; rintro e w2 ⟨gc, capc, rfl, hownc, hbc⟩)))
                have hsA : (w1.alloc (.cells #[SgV a, SgV b] 107)).drew.heap.size = w1.heap.size + 1 := by simp
                rw [hsA] at hownc hbc
                have bel2 : Below w1.heap.size w1 w2 := (((Below.refl _ _).alloc (Nat.le_refl _) _).drew).trans (hbc.mono (by omega))
                obtain ⟨D, hD⟩ : ∃ D, D = w1.heap.size := ⟨_, rfl⟩
                rw [← hD] at hownc hbc bel2 hgl1 hs1
                obtain ⟨m, hm⟩ : ∃ m, m = a.s.length + b.s.length := ⟨_, rfl⟩
                rw [← hm] at hownc ⊢
                have hm32 : m ≤ 32 ∧ 2 ≤ m := by have := (unhide TWO).la; have := (unhide TWO).lb; omega
                have K2 := sortSigns_any (unhide VAB).1 (unhide VAB).2.1 (unhide VAB).2.2 (n := m) (by rw [hm]; exact List.length_append) (by omega) hownc
                have K2 := hide K2
                have BEL2 := hide bel2
                have HSG2 := hide (fun e (he : e ∈ a :: b :: r) => And.intro (show e.g < D by rw [hD]; exact (unhide SG1 e he).lt.2) ((unhide SG1 e he).kept (bel2.block e.g (by rw [hD]; exact (unhide SG1 e he).lt.2))))
                have HQ2 := hide ((unhide HQ1).kept (bel2.block g hgl1))
                have HAT2 := hide ((unhide AT1).below (by rw [← hD]; exact bel2))
                have HM := hide hm
                clear hownc hbc bel2 hm hD hsA r1 r2 r3 r4 KC
                go_wp2_with fail
                refine (unhide K2).mono ?_
                rintro e w3 ⟨rfl, hown3, hb3⟩
                obtain ⟨ms, hms⟩ : ∃ ms, ms = mg a.tr.2 b.tr.2 := ⟨_, rfl⟩
                rw [← hms] at hown3
                have hml : ms.length = m := by have := hown3.1; simpa using this
                have hnd : ms.Nodup := by rw [hms]; exact (mg_asc _ _).imp fun h => by omega
                have h16 : ∀ j ∈ ms, j < 16 := fun j hj => by rw [hms] at hj; unfold mg at hj; have := (List.mem_filter.1 hj).1; simpa using this
                have HAT3 := hide ((unhide HAT2).below3 (hb3.mono (by omega)))
                have HSG3 := hide (fun e (he : e ∈ a :: b :: r) => (unhide HSG2 e he).2.kept (hb3.block e.g (by have := (unhide HSG2 e he).1; omega)))
                have hq3 := (unhide HQ2).kept (hb3.block g (by omega))
                obtain ⟨c0, _⟩ := hq3.get (k := 0) (x := a) rfl
                obtain ⟨c2, _⟩ := hq3.get (k := 1) (x := b) rfl
                have c0 : w3.cell? ⟨g, off, none⟩ = some (I (a.w : Int)) := c0
                have c2 : w3.cell? ⟨g, off + 2, none⟩ = some (I (b.w : Int)) := c2
                have hgc := hown3.lt gc rfl
                have hcs := fun (i j : Nat) (hj : ms[i]? = some j) => hown3.cells (g := gc) rfl i (natI j) (by rw [List.getElem?_map, hj]; rfl)
                have HCS := hide hcs
                have HQ3 := hide hq3
                have HOWN3 := hide hown3
                have HMS := hide hms
                have HML := hide hml
                have HND := hide hnd
                have H16 := hide h16
                have C0 := hide c0
                have C2 := hide c2
                have hB3 := hb3.size
                have s3 : w2.heap.size ≤ w3.heap.size := hB3
                clear hown3 hb3 hms hml hnd h16 hq3 c0 c2 hcs K2 hB3
                go_wp2_with fail
                go_loopw [63] (fun iv wr => ∃ i : Nat, i ≤ m ∧ iv = .int .i64 i ∧ IncAt c f ms w w3 wr B i) (fun iv _ => m - (intOf iv).toNat)
                case atStart => exact ⟨0, by omega, rfl, ⟨by have := unhide HAT3; simpa using this, fun _ _ => rfl, rfl⟩⟩
                case round =>
                  obtain ⟨i, hi, rfl, hin⟩ := hrel
                  have HIN := hide hin
                  clear hin
                  by_cases him : i < m
                  · obtain ⟨j, hj⟩ : ∃ j, ms[i]? = some j := ⟨_, List.getElem?_eq_getElem (by have := unhide HML; omega)⟩
                    have hj16 := unhide H16 j (List.mem_of_getElem? hj)
                    have cj : wr.cell? ⟨gc, i, none⟩ = some (.int .i64 (j : Int)) := by
                      have := unhide HCS i j hj
                      rw [Addr.add_mid, Nat.zero_add] at this
                      exact (World.cell?_of_block ((unhide HIN).keep gc (by omega))).trans this
                    have cl := (unhide HIN).len hj hj16 (unhide HND)
                    have fl := frozen_of_row wr (B + 1 + 1) j _ _ (unhide HIN).at_.o
                    have hfb := (unhide HBL).bound hj16
                    obtain ⟨y, hy⟩ : ∃ y, y = f j := ⟨_, rfl⟩
                    have hput := (unhide HIN).put hj (unhide HND)
                    rw [← hy] at cl hfb hput
                    have HPUT := hide hput
                    clear hy hj hput
                    go_wp2_with fail
                    go_roundw
                    case rel => exact ⟨i + 1, by omega, by go_num, unhide HPUT⟩
                    case measure => simp [intOf]; omega
                  · have him2 : i = m := by omega
                    subst him2
                    have e0 := (unhide C0)
                    have c0 : wr.cell? ⟨g, off, none⟩ = some (I (a.w : Int)) := (World.cell?_of_block ((unhide HIN).keep g hgB)).trans (unhide C0)
                    have c2 : wr.cell? ⟨g, off + 2, none⟩ = some (I (b.w : Int)) := (World.cell?_of_block ((unhide HIN).keep g hgB)).trans (unhide C2)
                    have q4 := (unhide HQ3).kept ((unhide HIN).keep g hgB)
                    clear e0
                    obtain ⟨off4, cap2, hoff, q5⟩ : ∃ off4 cap2, Value.slice (if cap = 2 then some ⟨g, off, none⟩ else some ⟨g, off + 4, none⟩) (n - 2) (cap - 2) = .slice (some ⟨g, off4, none⟩) (n - 2) cap2 ∧ QAt wr (B + 3) g off4 cap2 r := by
                      by_cases hcap : cap = 2
                      · refine ⟨off, 0, by rw [if_pos hcap, hcap], ?_⟩
                        have hr0 : r = [] := List.eq_nil_of_length_eq_zero (by have := q4.cut; obtain ⟨⟨_, _, _, h, _⟩, _⟩ := this; omega)
                        obtain ⟨hb, cur, h1, h2, h3, h4, h5⟩ := q4
                        exact ⟨hb, cur, h1, by rw [hr0]; exact Nat.zero_le _, Nat.zero_le _, by omega, by rw [hr0]; simp⟩
                      · exact ⟨off + 4, cap - 2, by rw [if_neg hcap], q4.cut.1⟩
                    have HOFF := hide hoff
                    have Q5 := hide q5
                    have Q4 := hide q4
                    have hlr := unhide HLR
                    have hsw : w3.heap.size = wr.heap.size := (unhide HIN).size.symm
                    have hll : r.length = n - 2 := by omega
                    have HLL := hide hll
                    have hw16 := hw
                    obtain ⟨xa, hxa⟩ : ∃ xa, xa = a.w := ⟨_, rfl⟩
                    obtain ⟨xb, hxb⟩ : ∃ xb, xb = b.w := ⟨_, rfl⟩
                    rw [← hxa] at c0 hw16
                    rw [← hxb] at c2 hw16
                    have HXA := hide hxa
                    have HXB := hide hxb
                    have ni2 : (2 : Int) ≤ (n : Int) := by omega
                    have hn16 : n - 2 ≤ 1000 := by omega
                    have hwrap : IntKind.i64.wrap ((xa : Int) + (xb : Int)) = (xa : Int) + (xb : Int) := IntWalk.i64_in _ ⟨by omega, by omega⟩
                    have HCELL0 := hide (fun (W : World) (hW : wr.heap.size = W.heap.size) => cellsT_new W xa xb (.slice (some ⟨gc, 0, none⟩) i capc) wr.heap.size hW)
                    have HCELL1 := hide (fun (W : World) (hW : wr.heap.size = W.heap.size) => cellsT_new1 W ((xa : Int) + (xb : Int)) ⟨xa + xb, gc, capc, ms⟩ wr.heap.size hW (unhide HML))
                    clear hxa hxb hoff q4 q5 hlr hll hw
                    go_wp2_with fail
                    go_region_law ((refine step_push_Q rfl _ _ rfl (B + 3) g off4 cap2 (n - 2) r (unhide HLL) (unhide HOFF) (by exact (unhide Q5).kept (Below.heap_alloc _ _ _ (by show g < wr.heap.size; omega))) ⟨xa + xb, gc, capc, ms⟩ wr.heap.size rfl (by exact unhide HCELL0 wr rfl) (by exact unhide HCELL1 wr rfl) hn16 (by simp; omega) ?_; intro g' off' cap' w5 hq5 hg5 hat5; have HQ5 := hide hq5; have HG5 := hide hg5; clear hq5 hg5 hat5))
                    all_goals
                      go_roundw
                      case rel =>
                        have hst := unhide HSTEP
                        have hl3 : (r ++ [(⟨xa + xb, gc, capc, ms⟩ : El)]).length = n - 2 + 1 := by rw [List.length_append, unhide HLL]; rfl
                        have hnew : (⟨xa + xb, gc, capc, ms⟩ : El).tr = mgT a.tr b.tr := by unfold El.tr mgT; rw [unhide HMS, unhide HXA, unhide HXB]; rfl
                        have htr : (r ++ [(⟨xa + xb, gc, capc, ms⟩ : El)]).map El.tr = r.map El.tr ++ [mgT a.tr b.tr] := by rw [List.map_append, List.map_singleton, hnew]
                        have hsz4 : wr.heap.size = w3.heap.size := (unhide HIN).size
                        have hts : ms.take i = ms := List.take_of_length_le (by have := unhide HML; omega)
                        have hbld : BldP c w w5 B g' off' cap' (r ++ [⟨xa + xb, gc, capc, ms⟩]) (fun j => f j + if j ∈ ms.take i then 1 else 0) := by
                          refine ⟨by rw [htr]; exact hst.1, by omega, by omega, by rw [htr, hst.2.1]; exact (unhide HBL).sum, unhide HQ5, fun e he => ?_, ?_, fun q hq => ?_⟩
                          · have hnn : ∀ e : El, SgOK wr (B + 3) e → e.g ≠ g → SgOK w5 (B + 3) e := fun e h1 h2 => by
                              refine SgOK.grown ?_ (unhide HG5) (fun h => h2 (by injection h with h; exact h.symm))
                              exact h1.alloc _
                            rcases List.mem_append.1 he with he | he
                            · have hs3 := unhide HSG3 e (by simp [he])
                              have hs4 := hs3.kept ((unhide HIN).keep e.g hs3.lt.1)
                              exact hnn e hs4 (hs4.ne (unhide Q4))
                            · have : e = ⟨xa + xb, gc, capc, ms⟩ := by simpa using he
                              subst this
                              have ho4 := own_part (own_lower (unhide HOWN3) (show B + 3 ≤ D + 1 by omega)) (w' := wr) (fun k h1 _ => (unhide HIN).keep k h1)
                              exact hnn _ (sg_of_own (unhide HML) ho4) (by show gc ≠ g; omega)
                          · exact ((unhide HIN).at_.below (((Below.refl _ _).alloc (Nat.le_refl _) _).drew)).grown (unhide HG5) (fun k hk => by injection hk with hk; omega)
                          · have h1 := (unhide HBL).inv q hq
                            have h3 := hst.2.2 (n - 2) q
                            have e1 : es.length - 1 = n - 2 + 1 := by have := unhide HN; omega
                            rw [e1, h3] at h1
                            have e2 : (r ++ [(⟨xa + xb, gc, capc, ms⟩ : El)]).length - 1 = n - 2 := by rw [hl3]; omega
                            rw [e2, htr, ← h1, hts, ← unhide HMS]
                            by_cases h4 : q ∈ ms
                            · rw [if_pos h4, if_pos h4]; simp; omega
                            · rw [if_neg h4, if_neg h4]; simp
                        have hrel : ∃ es f g off cap, Value.slice (some ⟨g', off', none⟩) (n - 2 + 1) cap' = .slice (some ⟨g, off, none⟩) es.length cap ∧ BldP c w w5 B g off cap es f := ⟨_, _, g', off', cap', by rw [hl3], hbld⟩
                        first
                          | exact hrel
                          | ((repeat apply Exists.intro); exact ⟨hrel, rfl⟩)
                      case measure => exact (show n - 2 + 1 < n by omega)
              · have e1 : n = 1 := by omega
                have z3 : decide ((n : Int) > 1) = false := by rw [decide_eq_false_iff_not]; omega
                have z4 : decide (1 < n) = false := by rw [decide_eq_false_iff_not]; omega
                have hres : lensOf c = Lf f := by
                  rw [unhide HRES]
                  refine Lf_congr fun i hi => ?_
                  have h1 := (unhide HBL).inv i hi
                  rw [build_short (by rw [List.length_map]; have := unhide HN; omega)] at h1
                  omega
                have HR2 := hide hres
                have HAT9 := hide (unhide HBL).at_
                clear hres e1
                go_wp2_with (first
                  | (refine wpList_load16 rfl (.tmp 4) rfl (B + 2) rfl _ (Lf_len _) (unhide HAT9).o ?_)
                  | (refine wpList_store_row rfl 64 (.tmp 2) (.tmp 88) rfl (B + 1) (cells16 (Lf f)) rfl rfl 64 _ (unhide HAT9).z (by rw [sizeI, cells16_size (Lf_len _)]) rfl (cells16_one _) ?_))
                refine bodyPost_ret (results_row_tmp rfl _ _ (B + 1) 64 (cells16 (Lf f)) (0, 0) _ rfl ((unhide HAT9).res _) Try.underlying64 rfl (by rw [sizeI, cells16_size (Lf_len _)])) rfl ⟨by rw [unhide HE1, unhide HR2]; rfl, ?_⟩
                rw [← unhide HB]
                exact below_setRow (unhide HAT9).bel (by omega) _

end Go.Proofs.Ytgfkkjcnnecefaa

/- A map of the call's own from words (a number, so many bits) to signs, as a function. -/
namespace Go.Proofs.Ytgfkkjcnnecefaa
open Go.RowKit Go.Lib Pl Go.ChangeMaps Go.MapKept Go.ChangeShapes
open Go.Maps (Keyed IsMap atKey_put_same atKey_put_other has_put_same has_put_other)

theorem laidOutP : laidOutB Try.prog = true := by kernel_rfl
theorem rowW : (122 : TypeId) < Try.prog.types.size := of_decide_eq_true (by kernel_rfl)
theorem wideW : (match Try.prog.underlying 122 with | some (.array _ _) | some (.struct _) => true | _ => false) = true := by kernel_rfl
theorem keyAtW : Try.prog.keyTypeAt 2 122 = true := by kernel_rfl
set_option maxRecDepth 100000 in
theorem keyedW : Keyed Try.prog 122 := Keyed.of_law (deep_law_laid laidOutP (m := 2) (by omega) rowW keyAtW wideW)
theorem keyTypeW : Try.prog.keyType 122 = true := by kernel_rfl
theorem cellsOfW : Try.prog.cellsOf 122 = 2 := by kernel_rfl
theorem typesW : ∃ n, Try.prog.types.size = n + 1 := Nat.exists_eq_succ_of_ne_zero (Nat.ne_of_gt (Nat.lt_of_le_of_lt (Nat.zero_le _) rowW))
theorem cellsOfInt : Try.prog.cellsOf 3 = 1 := by kernel_rfl
theorem formedW (a s : Int) : (Value.agg #[.int .i64 a, .int .i64 s]).formed Try.prog 122 = true := by
  simp [Value.formed, Try.underlying122, cellsOfW]
theorem keyW {a s : Nat} (ha : a ≤ 1000000000) (hs : s ≤ 1000000000) : ∃ kl, keyOf Try.prog 122 (.agg #[I a, I s]) = some kl := by
  have w1 : (Lit.int .i64 (a : Int)).wf = true := WalkArith.wf_i64 ⟨by omega, by omega⟩
  have w2 : (Lit.int .i64 (s : Int)).wf = true := WalkArith.wf_i64 ⟨by omega, by omega⟩
  obtain ⟨n, hn⟩ := typesW
  refine ⟨.string (keyBytes [.int .i64 a, .int .i64 s]), ?_⟩
  unfold keyOf
  rw [Try.underlying122]
  simp only [keyTypeW, formedW, Bool.and_self, if_true, hn]
  simp [Program.keyLits, Try.underlying122, Try.underlying3, cellsOfW, cellsOfInt, Value.cells, w1, w2]
theorem key_ne {a s a' s' : Nat} {kl kl' : Lit} (h : keyOf Try.prog 122 (.agg #[I a, I s]) = some kl) (h' : keyOf Try.prog 122 (.agg #[I a', I s']) = some kl') (hne : (a, s) ≠ (a', s')) : kl ≠ kl' := by
  intro e
  subst e
  have := keyedW.inj h h'
  simp at this
  exact hne (by rw [Prod.ext_iff]; exact ⟨by omega, by omega⟩)
theorem zero_intW (w : World) : (zeroValue 3).run Try.prog w = .ok (.int .i64 0) w := by kernel_rfl

/-- Block b is a map of at most n words that reads as g. -/
def WordMap (w : World) (b n : Nat) (g : Nat × Nat → Option Nat) : Prop :=
  ∃ D : DataW Unit, w.ownsMap Try.prog 122 (plainElem Try.prog 3) b n D ∧ IsMap D ∧ ∀ a s : Nat, a ≤ 1000000000 → s ≤ 1000000000 → ∀ kl, keyOf Try.prog 122 (.agg #[I a, I s]) = some kl → Maps.has D kl = (g (a, s)).isSome ∧ D.atKey kl (.lit (.int .i64 0)) = .lit (.int .i64 ((g (a, s)).getD 0))
theorem WordMap.made (w : World) : WordMap (w.alloc (.map #[] 0)) w.heap.size 0 fun _ => none :=
  ⟨.map [], World.ownsMap_made _ _ _ _, Go.Maps.isMap_empty, fun _ _ _ _ _ _ => ⟨rfl, rfl⟩⟩
theorem WordMap.lt {w : World} {b n : Nat} {f : Nat × Nat → Option Nat} (h : WordMap w b n f) : b < w.heap.size := by
  obtain ⟨D, ho, r⟩ := h
  exact ho.lt
theorem WordMap.keep {w w' : World} {b n : Nat} {f : Nat × Nat → Option Nat} (h : WordMap w b n f) (hb : w'.heap[b]? = w.heap[b]?) : WordMap w' b n f := by
  obtain ⟨D, ⟨es, clock, h1, r⟩, r2⟩ := h
  exact ⟨D, ⟨es, clock, hb.trans h1, r⟩, r2⟩

def updW (g : Nat × Nat → Option Nat) (p s c : Nat) (q : Nat × Nat) : Option Nat := if q = (p, s) then some c else g q
set_option maxRecDepth 100000 in
/-- m[k] = v -/
theorem wpList_putW {w : World} {ops : Array Oper} {rest : List Oper} {o : Oper} {a : Act} {Q : Exit → Act → World → Prop}
    (hg : o.guard = none) (m x v : Operand) (hop : o.op = Op.mapUpdate 127 m x v) (b n : Nat) (g : Nat × Nat → Option Nat)
    (hm : a.eval m = .map (some b)) (h : WordMap w b n g) (p s c : Nat) (hx : a.eval x = .agg #[I p, I s]) (hp : p ≤ 1000000000) (hs : s ≤ 1000000000) (hv : a.eval v = I c) (hc : c ≤ 1000000000) (hn : n ≤ 1000000000)
    (hK : ∀ w', WordMap w' b (n + 1) (updW g p s c) → w.grownBy w' (some b) → wpList Try.prog ops Q rest (a.put o.dst undef) w') : wpList Try.prog ops Q (o :: rest) a w := by
  obtain ⟨D, ho, hD, hr⟩ := h
  have hwf : (Lit.int .i64 (c : Int)).wf = true := WalkArith.wf_i64 ⟨by omega, by omega⟩
  obtain ⟨kl, hkl⟩ := keyW hp hs
  refine wpList_mapUpdate_own w hg m x v _ hop 122 3 keyedW Try.underlying127 (plainElem Try.prog 3) b n D hm ho (by unfold maxLen; omega) _ _ _ hx hv hkl _ [] (plainElem_int Try.underlying3 hwf) ?_
  intro w' h1 h2
  refine hK w' ⟨_, h1, hD.put _ _, fun a' s' ha' hs' kl' hkl' => ?_⟩ h2
  unfold updW
  by_cases hq : (a', s') = (p, s)
  · rw [if_pos hq]
    obtain ⟨rfl, rfl⟩ := Prod.ext_iff.1 hq
    have : kl' = kl := by rw [hkl] at hkl'; injection hkl' with e; exact e.symm
    subst this
    exact ⟨has_put_same hD (keyedW.key hkl) _, atKey_put_same hD (keyedW.key hkl) _ _⟩
  · rw [if_neg hq]
    have hne := key_ne hkl' hkl hq
    rw [has_put_other hne, atKey_put_other hne]
    exact hr a' s' ha' hs' kl' hkl'

set_option maxRecDepth 100000 in
/-- v, ok := m[k] -/
theorem wpList_lookW {w : World} {ops : Array Oper} {rest : List Oper} {o : Oper} {a : Act} {Q : Exit → Act → World → Prop}
    (hg : o.guard = none) (m x : Operand) (hop : o.op = Op.lookup 127 m x true) (b n : Nat) (g : Nat × Nat → Option Nat)
    (hm : a.eval m = .map (some b)) (h : WordMap w b n g) (p s : Nat) (hx : a.eval x = .agg #[I p, I s]) (hp : p ≤ 1000000000) (hs : s ≤ 1000000000)
    (hK : wpList Try.prog ops Q rest (a.put o.dst (.tuple #[I ((g (p, s)).getD 0), .bool (g (p, s)).isSome])) w) : wpList Try.prog ops Q (o :: rest) a w := by
  obtain ⟨D, ho, hD, hr⟩ := h
  obtain ⟨kl, hkl⟩ := keyW hp hs
  obtain ⟨h1, h2⟩ := hr p s hp hs kl hkl
  refine wpList_plain hg fun K' hK' => ?_
  obtain ⟨v, ps, hrun, hv⟩ := ho.look_ok keyedW Try.underlying127 (zero_intW w) (plainElem_int Try.underlying3 (by decide)) hkl
  obtain ⟨c, rfl, hc, _⟩ := plainElem_int_inv Try.underlying3 hv
  simp only [Prod.mk.injEq] at hc
  rw [h2] at hc
  have hc2 := hc.1
  injection hc2 with hc2; injection hc2 with _ hc2
  subst hc2
  rw [h1] at hrun
  unfold Oper.wp
  simp [execOp, hop, hm, hx, hrun, Result.andThen]
  exact hK' _ _ hK

/-- the signs of the first so many words -/
def signOf (l : List Int) : Nat → Nat × Nat → Option Nat
  | 0, _ => none
  | k + 1, q => if 0 < ln l k then (if q = (wv l k, ln l k) then some k else signOf l k q) else signOf l k q
theorem signOf_some {l : List Int} {q : Nat × Nat} {x : Nat} : ∀ {k : Nat}, signOf l k q = some x → x < k ∧ 0 < ln l x ∧ q = (wv l x, ln l x)
  | 0, h => by simp [signOf] at h
  | k + 1, h => by
    rw [signOf] at h
    by_cases h0 : 0 < ln l k
    · rw [if_pos h0] at h
      by_cases h1 : q = (wv l k, ln l k)
      · rw [if_pos h1] at h
        injection h with h; subst h
        exact ⟨by omega, h0, h1⟩
      · rw [if_neg h1] at h
        obtain ⟨a, b⟩ := signOf_some h
        exact ⟨by omega, b⟩
    · rw [if_neg h0] at h
      obtain ⟨a, b⟩ := signOf_some h
      exact ⟨by omega, b⟩
theorem signOf_none {l : List Int} {q : Nat × Nat} : ∀ {k : Nat}, signOf l k q = none → ∀ x, x < k → 0 < ln l x → q ≠ (wv l x, ln l x)
  | 0, _, x, hx, _ => absurd hx (by omega)
  | k + 1, h, x, hx, h0 => by
    rw [signOf] at h
    by_cases e : x = k
    · subst e
      rw [if_pos h0] at h
      intro e2
      rw [if_pos e2] at h; cases h
    · refine signOf_none (k := k) ?_ x (by omega) h0
      by_cases h1 : 0 < ln l k
      · rw [if_pos h1] at h
        by_cases h2 : q = (wv l k, ln l k)
        · rw [if_pos h2] at h; cases h
        · rw [if_neg h2] at h; exact h
      · rw [if_neg h1] at h; exact h

end Go.Proofs.Ytgfkkjcnnecefaa

/- Plain mathematics of the program's own way to write with a code: bits that wait in a number. No program in sight. -/
namespace Go.Proofs.Ytgfkkjcnnecefaa
namespace Pl

theorem val_hi (X : List Bool) {p : Nat} (h : p ≤ X.length) : val X / 2 ^ p = val (X.take (X.length - p)) := by
  have e : X = X.take (X.length - p) ++ X.drop (X.length - p) := (List.take_append_drop _ _).symm
  have hl : (X.drop (X.length - p)).length = p := by rw [List.length_drop]; omega
  have hv := val_app (X.take (X.length - p)) (X.drop (X.length - p))
  rw [← e, hl] at hv
  have hlt := val_lt (X.drop (X.length - p))
  rw [hl] at hlt
  rw [hv, Nat.mul_comm, Nat.mul_add_div (Nat.pow_pos (by omega)), Nat.div_eq_of_lt hlt]; omega
theorem val_lo (X : List Bool) {p : Nat} (h : p ≤ X.length) : val X % 2 ^ p = val (X.drop (X.length - p)) := by
  have e : X = X.take (X.length - p) ++ X.drop (X.length - p) := (List.take_append_drop _ _).symm
  have hl : (X.drop (X.length - p)).length = p := by rw [List.length_drop]; omega
  have hv := val_app (X.take (X.length - p)) (X.drop (X.length - p))
  rw [← e, hl] at hv
  have hlt := val_lt (X.drop (X.length - p))
  rw [hl] at hlt
  rw [hv, Nat.mul_comm, Nat.mul_add_mod, Nat.mod_eq_of_lt hlt]
/-- eight bits out of the midst -/
theorem val_mid (X : List Bool) {a p : Nat} (h : a + 8 + p = X.length) : val X / 2 ^ p % 256 = val ((X.drop a).take 8) := by
  rw [val_hi X (by omega)]
  have h2 := val_lo (X.take (X.length - p)) (p := 8) (by rw [List.length_take]; omega)
  rw [show (256 : Nat) = 2 ^ 8 from rfl, h2, List.length_take, show min (X.length - p) X.length - 8 = a from by omega]
  congr 1
  rw [List.drop_take]
  congr 1; omega

/-- the bits that are written, and the bytes of which they are whole; the others wait -/
structure Wait (X : List Bool) (n0 : Nat) (out : Bytes) (h left : Nat) : Prop where
  le : n0 ≤ out.length
  len : 8 * out.length + left = X.length
  pk : out = packN out.length X
  va : h = Pl.val (X.drop (8 * n0))
theorem Wait.step {X : List Bool} {n0 : Nat} {out : Bytes} {h left : Nat} (w : Wait X n0 out h left) (h8 : 8 ≤ left) (b : UInt8) (hb : b.toNat = h / 2 ^ (left - 8) % 256) : Wait X n0 (out ++ [b]) h (left - 8) := by
  obtain ⟨w1, w2, w3, w4⟩ := w
  refine ⟨by simp; omega, by simp; omega, ?_, w4⟩
  have e : val (X.drop (8 * n0)) / 2 ^ (left - 8) % 256 = val (((X.drop (8 * n0)).drop (8 * (out.length - n0))).take 8) := val_mid _ (by rw [List.length_drop]; omega)
  rw [List.drop_drop, show 8 * n0 + 8 * (out.length - n0) = 8 * out.length from by omega, ← w4, ← hb] at e
  rw [List.length_append, List.length_singleton, packN_snoc, ← w3]
  congr 2
  have hl : ((X.drop (8 * out.length)).take 8).length = 8 := by rw [List.length_take, List.length_drop]; omega
  apply UInt8.toNat_inj.1
  rw [byteOfB_nat (by omega), hl, e]; simp
theorem Wait.cut {X : List Bool} {n0 : Nat} {out : Bytes} {h left : Nat} (w : Wait X n0 out h left) : Wait X out.length out (h % 2 ^ left) left := by
  obtain ⟨w1, w2, w3, w4⟩ := w
  refine ⟨Nat.le_refl _, w2, w3, ?_⟩
  rw [w4, val_lo _ (by rw [List.length_drop]; omega), List.length_drop, List.drop_drop]
  congr 2; omega
theorem Wait.more {X : List Bool} {out : Bytes} {h left : Nat} (w : Wait X out.length out h left) (y : List Bool) : Wait (X ++ y) out.length out (h * 2 ^ y.length + val y) (left + y.length) := by
  obtain ⟨w1, w2, w3, w4⟩ := w
  refine ⟨Nat.le_refl _, by rw [List.length_append]; omega, ?_, ?_⟩
  · have h1 : (X ++ y).take (8 * out.length) = X.take (8 * out.length) := List.take_append_of_le_length (by omega)
    have key : ∀ n (A B : List Bool), A.take (8 * n) = B.take (8 * n) → packN n A = packN n B := by
      intro n
      induction n with
      | zero => intro A B _; rfl
      | succ n ih =>
        intro A B hAB
        rw [packN, packN]
        have h8 : A.take 8 = B.take 8 := by
          have := congrArg (List.take 8) hAB
          rwa [List.take_take, List.take_take, Nat.min_eq_left (by omega)] at this
        have hd : (A.drop 8).take (8 * n) = (B.drop 8).take (8 * n) := by
          have := congrArg (List.drop 8) hAB
          rwa [List.drop_take, List.drop_take, show 8 * (n + 1) - 8 = 8 * n from by omega] at this
        rw [h8, ih _ _ hd]
    rw [key _ _ _ h1]; exact w3
  · rw [w4, List.drop_append_of_le_length (by omega), val_app]
theorem Wait.lt {X : List Bool} {n0 : Nat} {out : Bytes} {h left : Nat} (w : Wait X n0 out h left) : h < 2 ^ (8 * (out.length - n0) + left) := by
  have := val_lt (X.drop (8 * n0))
  rw [← w.va, List.length_drop] at this
  have e : X.length - 8 * n0 = 8 * (out.length - n0) + left := by have := w.le; have := w.len; omega
  rwa [e] at this
theorem Wait.done {X : List Bool} {out : Bytes} {h : Nat} (w : Wait X out.length out h 0) : out = packB X := by
  have h1 := w.len
  have h2 := w.pk
  unfold packB
  rw [show (X.length + 7) / 8 = out.length from by omega]; exact h2
theorem Wait.last {X : List Bool} {out : Bytes} {h left : Nat} (w : Wait X out.length out h left) (h0 : 0 < left) (h8 : left < 8) (b : UInt8) (hb : b.toNat = h * 2 ^ (8 - left)) : out ++ [b] = packB X := by
  have h1 := w.len
  have h2 := w.pk
  have h3 := w.va
  unfold packB
  rw [show (X.length + 7) / 8 = out.length + 1 from by omega, packN_snoc, ← h2]
  congr 2
  have hl : (X.drop (8 * out.length)).length = left := by rw [List.length_drop]; omega
  rw [List.take_of_length_le (by omega)]
  apply UInt8.toNat_inj.1
  rw [byteOfB_nat (by omega), hl, hb, h3]

theorem nibs_get : ∀ {s : Bytes} {q : Nat} {c : UInt8}, s[q]? = some c → (nibs s)[2 * q]? = some (c.toNat / 16) ∧ (nibs s)[2 * q + 1]? = some (c.toNat % 16)
  | [], q, c, h => by simp at h
  | d :: s, 0, c, h => by simp at h; subst h; simp [nibs_cons]
  | d :: s, q + 1, c, h => by
    have := nibs_get (s := s) (q := q) (c := c) (by simpa using h)
    rw [nibs_cons, show 2 * (q + 1) = 2 * q + 1 + 1 from by omega]
    simpa using this
/-- so many half bytes are written -/
structure WSt (l : List Int) (s : Bytes) (i : Nat) (out : Bytes) (h left : Nat) : Prop where
  wait : Wait (encK l ((nibs s).take i)) out.length out h left
  lt : left < 8
  has : lacks l ((nibs s).take i) = false
theorem WSt.start (l : List Int) (s : Bytes) : WSt l s 0 [] 0 0 := ⟨⟨Nat.le_refl _, rfl, rfl, rfl⟩, by omega, rfl⟩
theorem encK_snoc {l : List Int} {ks : List Nat} {i k : Nat} (h : ks[i]? = some k) : encK l (ks.take (i + 1)) = encK l (ks.take i) ++ wordB l k := by
  rw [List.take_add_one, h, encK_app]; simp [encK]
theorem lacks_snoc {l : List Int} {ks : List Nat} {i k : Nat} (h : ks[i]? = some k) : lacks l (ks.take (i + 1)) = (lacks l (ks.take i) || decide (ln l k = 0)) := by
  rw [List.take_add_one, h]; simp [lacks]
theorem lacks_of_take {l : List Int} {ks : List Nat} {i : Nat} (h : lacks l (ks.take i) = true) : lacks l ks = true := by
  unfold lacks at h ⊢
  rw [List.any_eq_true] at h ⊢
  obtain ⟨x, hx, hb⟩ := h
  exact ⟨x, List.mem_of_mem_take hx, hb⟩
theorem WSt.next {l : List Int} {s : Bytes} {i k : Nat} {out : Bytes} {h left : Nat} (hr : Right l) (w : WSt l s i out h left) (hk : (nibs s)[i]? = some k) (hk16 : k < 16) (h0 : 0 < ln l k) :
    Wait (encK l ((nibs s).take (i + 1))) out.length out (h * 2 ^ ln l k + wv l k) (left + ln l k) ∧ lacks l ((nibs s).take (i + 1)) = false ∧ h < 128 := by
  have h1 := w.wait.more (wordB l k)
  rw [wordB_len, wordB_val hr hk16 h0, ← encK_snoc hk] at h1
  refine ⟨h1, ?_, ?_⟩
  · rw [lacks_snoc hk, w.has]; simp; omega
  · have h2 := w.wait.lt
    have h3 := w.lt
    have h4 : 2 ^ (8 * (out.length - out.length) + left) ≤ 2 ^ 7 := Nat.pow_le_pow_right (by omega) (by omega)
    omega

end Pl
end Go.Proofs.Ytgfkkjcnnecefaa
