/- The library's sort over a row of the call's own: what the row holds before and behind it. -/
import Derived.Test.YtgfkkjcnnecefaaMaker
import Derived.Shelf.SlSortCmp.WholeK
namespace Go.Proofs.Ytgfkkjcnnecefaa
open Go.RowKit Go.Lib Go.Sort

section
variable {α : Type} [Inhabited α] (enc : α → List Value) (k : Nat)
theorem flatMap_get (hk : ∀ x, (enc x).length = k) (h0 : 0 < k) : ∀ (l : List α) (t : Nat), t < l.length * k → (l.flatMap enc)[t]? = some (enc (l.toArray[t / k]!))[t % k]!
  | [], t, h => by simp at h
  | a :: l, t, h => by
    rw [List.flatMap_cons]
    by_cases ht : t < k
    · have e1 : t / k = 0 := Nat.div_eq_of_lt ht
      have e2 : t % k = t := Nat.mod_eq_of_lt ht
      have hl : t < (enc a).length := by rw [hk]; exact ht
      rw [List.getElem?_append_left hl, e1, e2, List.getElem?_eq_getElem hl]
      simp [hl]
    · have e1 : t / k = (t - k) / k + 1 := by
        conv => lhs; rw [show t = (t - k) + k from by omega, Nat.add_div_right _ h0]
      have e2 : t % k = (t - k) % k := by
        conv => lhs; rw [show t = (t - k) + k from by omega, Nat.add_mod_right]
      have hh : t - k < l.length * k := by
        simp only [List.length_cons, Nat.add_mul, Nat.one_mul] at h; omega
      rw [List.getElem?_append_right (by rw [hk]; omega), hk, flatMap_get hk h0 l (t - k) hh, e1, e2]
      simp
theorem flatK_list (hk : ∀ x, (enc x).length = k) (h0 : 0 < k) (l : List α) : (flatK enc k l.toArray).toList = l.flatMap enc := by
  have hlen : (l.flatMap enc).length = l.length * k := by
    induction l with
    | nil => simp
    | cons a l ih => simp [hk, Nat.add_mul] at ih ⊢; omega
  apply List.ext_getElem?
  intro t
  by_cases ht : t < l.length * k
  · rw [flatMap_get enc k hk h0 l t ht]
    have hs : t < (flatK enc k l.toArray).size := by rw [size_flatK]; simpa using ht
    have := get_flatK enc k l.toArray t (by simpa using ht)
    rw [← this, Array.getElem?_toList, Array.getElem?_eq_getElem hs, getElem!_pos _ t hs]
  · rw [List.getElem?_eq_none (by rw [Array.length_toList, size_flatK]; simp; omega), List.getElem?_eq_none (by omega)]

theorem holdsK_own {w : World} {base e n g cap : Nat} {o : List α} (hk : ∀ x, (enc x).length = k) (h0 : 0 < k) (h : w.ownsRow base e k (.slice (some ⟨g, 0, none⟩) n cap) n (o.flatMap enc)) : HoldsK enc k w g 0 o.toArray ∧ g < w.heap.size ∧ o.length = n ∧ base ≤ g := by
  rcases h.2 with ⟨hv, _⟩ | ⟨g', cap', cur, hv, hb, hg, hn, hc, hs, ht⟩
  · cases hv
  · injection hv with ha _ hcap
    injection ha with ha
    injection ha with ha
    subst ha
    have hlen : o.length = n := by
      have h1 := h.1
      have h2 := congrArg List.length (flatK_list enc k hk h0 o)
      rw [Array.length_toList, size_flatK] at h2
      rw [← h2] at h1
      exact Nat.eq_of_mul_eq_mul_right h0 (by simpa using h1)
    refine ⟨fun j hj => ?_, (Array.getElem?_eq_some_iff.1 hg).1, hlen, hb⟩
    rw [Nat.zero_add, cell_of_row w g j _ _ _ hg]
    refine ⟨?_, by simp [World.frozen?, hg]⟩
    have hj' : j < o.length * k := by rw [size_flatK] at hj; simpa using hj
    have h3 : (flatK enc k o.toArray).toList[j]? = some (flatK enc k o.toArray)[j]! := by
      rw [Array.getElem?_toList, Array.getElem?_eq_getElem hj, getElem!_pos _ j hj]
    rw [flatK_list enc k hk h0, ← ht, List.getElem?_take, if_pos (by rw [← hlen]; exact hj'), Array.getElem?_toList] at h3
    exact h3

theorem sortWorld_own {w : World} {base e n g cap : Nat} {o o' : List α} {m : Nat} {os : Array Obj} (hk : ∀ x, (enc x).length = k) (h0 : 0 < k) (h : w.ownsRow base e k (.slice (some ⟨g, 0, none⟩) n cap) n (o.flatMap enc)) (hp : o'.length = o.length) :
    (sortWorldK enc k w g 0 m o'.toArray os).ownsRow base e k (.slice (some ⟨g, 0, none⟩) n cap) n (o'.flatMap enc) ∧ Below base w (sortWorldK enc k w g 0 m o'.toArray os) := by
  obtain ⟨_, hgl, hlen, hbg⟩ := holdsK_own enc k hk h0 h
  rcases h.2 with ⟨hv, _⟩ | ⟨g', cap', cur, hv, hb, hg, hn, hc, hs, ht⟩
  · cases hv
  · injection hv with ha _ hcap
    injection ha with ha
    injection ha with ha
    subst ha
    subst hcap
    have hfl := congrArg List.length (flatK_list enc k hk h0 o')
    rw [Array.length_toList, size_flatK] at hfl
    have hsz : (flatK enc k o'.toArray).size = n * k := by rw [size_flatK]; simp [hp, hlen]
    have hcur : n * k ≤ cur.size := by rw [hs]; exact Nat.mul_le_mul_right k hn
    have hh : (sortWorldK enc k w g 0 m o'.toArray os).heap[g]? = some (.cells (putCells id 0 (flatK enc k o'.toArray) cur) e (0, 0)) := by
      unfold sortWorldK putRowK putRow
      have hg2 : (Sort.ahead w m).heap[g]? = some (.cells cur e (0, 0)) := hg
      rw [heap_grow_old _ _ (by show g < (mapBlock _ _ _).heap.size; unfold mapBlock; simpa using hgl)]
      unfold mapBlock
      simp only [Array.getElem?_modify]
      rw [if_pos trivial, hg2]
      rfl
    refine ⟨⟨?_, .inr ⟨g, cap, _, rfl, hb, hh, hn, hc, ?_, ?_⟩⟩, rfl, rfl, rfl, ?_, fun i hi => ?_⟩
    · rw [← hfl, List.size_toArray, hp, hlen]
    · unfold putCells; simpa using hs
    · rw [← flatK_list enc k hk h0]
      apply List.ext_getElem?
      intro t
      rw [List.getElem?_take]
      by_cases htn : t < n * k
      · rw [if_pos htn, Array.getElem?_toList, Array.getElem?_toList]
        unfold putCells
        rw [Array.getElem?_mapIdx, Array.getElem?_eq_getElem (by omega)]
        simp only [Option.map_some]
        rw [if_pos (by omega), Nat.sub_zero, Array.getElem?_eq_getElem (by omega), getElem!_pos _ t (by omega)]
        rfl
      · rw [if_neg htn, List.getElem?_eq_none (by rw [Array.length_toList, hsz]; omega)]
    · unfold sortWorldK putRowK putRow mapBlock; simp [Sort.ahead]
    · unfold sortWorldK putRowK putRow
      rw [heap_grow_old _ _ (by show i < (mapBlock _ _ _).heap.size; unfold mapBlock; simp [Sort.ahead]; omega)]
      unfold mapBlock
      simp only [Array.getElem?_modify]
      rw [if_neg (by omega)]
      rfl
end

theorem perm_of {α : Type} [Inhabited α] {o : List α} {d' : Array α} (h : PermIn 0 o.toArray.size o.toArray d') : d'.toList.Perm o ∧ d'.toList.length = o.length := by
  obtain ⟨hs, _, hp⟩ := h
  have e1 : (o.toArray.extract 0 o.toArray.size) = o.toArray := by simp
  have e2 : (d'.extract 0 o.toArray.size) = d' := by rw [← hs]; simp
  rw [e1, e2] at hp
  exact ⟨by simpa using hp, by simpa using hs⟩
theorem sorted_of {α : Type} [Inhabited α] {lt : α → α → Bool} {d' : Array α} {n : Nat} (hn : d'.size = n) (h : SortedIn lt 0 n d') : d'.toList.Pairwise (fun a b => lt b a = false) := by
  rw [List.pairwise_iff_getElem]
  intro i j hi hj hij
  have hi' : i < d'.size := by simpa using hi
  have hj' : j < d'.size := by simpa using hj
  have := h i j (Nat.zero_le _) hij (by omega)
  rw [getElem!_pos d' i hi', getElem!_pos d' j hj'] at this
  simpa using this

end Go.Proofs.Ytgfkkjcnnecefaa
