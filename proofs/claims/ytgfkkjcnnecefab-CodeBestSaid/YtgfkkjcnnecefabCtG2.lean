/- The library's sort over a row of the call's own: what the row holds before and behind it. -/
import Derived.Test.YtgfkkjcnnecefabCtG1
import Derived.Shelf.SlSortCmp.WholeK
import Derived.Test.YtgfkkjcnnecefabShelfB
import Derived.Deep.RegionHeld3
import Derived.Shelf.SlSortCmp.NoneTotal

namespace Go.Proofs.Ytgfkkjcnnecefab
open Go.RowKit Go.Lib Go.Sort

section
variable {α : Type} [Inhabited α] (enc : α → List Value) (k : Nat)
theorem flatMap_get (hk : ∀ x, (enc x).length = k) (h0 : 0 < k) : ∀ (l : List α) (t : Nat), t < l.length * k → (l.flatMap enc)[t]? = some (enc (l.toArray[t / k]!))[t % k]!
  | [], t, h => by simp at h
  | a :: l, t, h => by
    rw [List.flatMap_cons]
    by_cases ht : t < k
    · have e1 : t / k = 0 := Nat.div_eq_of_lt ht
      have e2 : t % k = t := Nat.mod_eq_of_lt ht
      have hl : t < (enc a).length := by rw [hk]; exact ht
      rw [List.getElem?_append_left hl, e1, e2, List.getElem?_eq_getElem hl]
      simp [hl]
    · have e1 : t / k = (t - k) / k + 1 := by
        conv => lhs; rw [show t = (t - k) + k from by omega, Nat.add_div_right _ h0]
      have e2 : t % k = (t - k) % k := by
        conv => lhs; rw [show t = (t - k) + k from by omega, Nat.add_mod_right]
      have hh : t - k < l.length * k := by
        simp only [List.length_cons, Nat.add_mul, Nat.one_mul] at h; omega
      rw [List.getElem?_append_right (by rw [hk]; omega), hk, flatMap_get hk h0 l (t - k) hh, e1, e2]
      simp
theorem flatK_list (hk : ∀ x, (enc x).length = k) (h0 : 0 < k) (l : List α) : (flatK enc k l.toArray).toList = l.flatMap enc := by
  have hlen : (l.flatMap enc).length = l.length * k := by
    induction l with
    | nil => simp
    | cons a l ih => simp [hk, Nat.add_mul] at ih ⊢; omega
  apply List.ext_getElem?
  intro t
  by_cases ht : t < l.length * k
  · rw [flatMap_get enc k hk h0 l t ht]
    have hs : t < (flatK enc k l.toArray).size := by rw [size_flatK]; simpa using ht
    have := get_flatK enc k l.toArray t (by simpa using ht)
    rw [← this, Array.getElem?_toList, Array.getElem?_eq_getElem hs, getElem!_pos _ t hs]
  · rw [List.getElem?_eq_none (by rw [Array.length_toList, size_flatK]; simp; omega), List.getElem?_eq_none (by omega)]

theorem holdsK_own {w : World} {base e n g cap : Nat} {o : List α} (hk : ∀ x, (enc x).length = k) (h0 : 0 < k) (h : w.ownsRow base e k (.slice (some ⟨g, 0, none⟩) n cap) n (o.flatMap enc)) : HoldsK enc k w g 0 o.toArray ∧ g < w.heap.size ∧ o.length = n ∧ base ≤ g := by
  rcases h.2 with ⟨hv, _⟩ | ⟨g', cap', cur, hv, hb, hg, hn, hc, hs, ht⟩
  · cases hv
  · injection hv with ha _ hcap
    injection ha with ha
    injection ha with ha
    subst ha
    have hlen : o.length = n := by
      have h1 := h.1
      have h2 := congrArg List.length (flatK_list enc k hk h0 o)
      rw [Array.length_toList, size_flatK] at h2
      rw [← h2] at h1
      exact Nat.eq_of_mul_eq_mul_right h0 (by simpa using h1)
    refine ⟨fun j hj => ?_, (Array.getElem?_eq_some_iff.1 hg).1, hlen, hb⟩
    rw [Nat.zero_add, cell_of_row w g j _ _ _ hg]
    refine ⟨?_, by simp [World.frozen?, hg]⟩
    have hj' : j < o.length * k := by rw [size_flatK] at hj; simpa using hj
    have h3 : (flatK enc k o.toArray).toList[j]? = some (flatK enc k o.toArray)[j]! := by
      rw [Array.getElem?_toList, Array.getElem?_eq_getElem hj, getElem!_pos _ j hj]
    rw [flatK_list enc k hk h0, ← ht, List.getElem?_take, if_pos (by rw [← hlen]; exact hj'), Array.getElem?_toList] at h3
    exact h3

theorem sortWorld_own {w : World} {base e n g cap : Nat} {o o' : List α} {m : Nat} {os : Array Obj} (hk : ∀ x, (enc x).length = k) (h0 : 0 < k) (h : w.ownsRow base e k (.slice (some ⟨g, 0, none⟩) n cap) n (o.flatMap enc)) (hp : o'.length = o.length) :
    (sortWorldK enc k w g 0 m o'.toArray os).ownsRow base e k (.slice (some ⟨g, 0, none⟩) n cap) n (o'.flatMap enc) ∧ Below base w (sortWorldK enc k w g 0 m o'.toArray os) := by
  obtain ⟨_, hgl, hlen, hbg⟩ := holdsK_own enc k hk h0 h
  rcases h.2 with ⟨hv, _⟩ | ⟨g', cap', cur, hv, hb, hg, hn, hc, hs, ht⟩
  · cases hv
  · injection hv with ha _ hcap
    injection ha with ha
    injection ha with ha
    subst ha
    subst hcap
    have hfl := congrArg List.length (flatK_list enc k hk h0 o')
    rw [Array.length_toList, size_flatK] at hfl
    have hsz : (flatK enc k o'.toArray).size = n * k := by rw [size_flatK]; simp [hp, hlen]
    have hcur : n * k ≤ cur.size := by rw [hs]; exact Nat.mul_le_mul_right k hn
    have hh : (sortWorldK enc k w g 0 m o'.toArray os).heap[g]? = some (.cells (putCells id 0 (flatK enc k o'.toArray) cur) e (0, 0)) := by
      unfold sortWorldK putRowK putRow
      have hg2 : (Sort.ahead w m).heap[g]? = some (.cells cur e (0, 0)) := hg
      rw [heap_grow_old _ _ (by show g < (mapBlock _ _ _).heap.size; unfold mapBlock; simpa using hgl)]
      unfold mapBlock
      simp only [Array.getElem?_modify]
      rw [if_pos trivial, hg2]
      rfl
    refine ⟨⟨?_, .inr ⟨g, cap, _, rfl, hb, hh, hn, hc, ?_, ?_⟩⟩, rfl, rfl, rfl, ?_, fun i hi => ?_⟩
    · rw [← hfl, List.size_toArray, hp, hlen]
    · unfold putCells; simpa using hs
    · rw [← flatK_list enc k hk h0]
      apply List.ext_getElem?
      intro t
      rw [List.getElem?_take]
      by_cases htn : t < n * k
      · rw [if_pos htn, Array.getElem?_toList, Array.getElem?_toList]
        unfold putCells
        rw [Array.getElem?_mapIdx, Array.getElem?_eq_getElem (by omega)]
        simp only [Option.map_some]
        rw [if_pos (by omega), Nat.sub_zero, Array.getElem?_eq_getElem (by omega), getElem!_pos _ t (by omega)]
        rfl
      · rw [if_neg htn, List.getElem?_eq_none (by rw [Array.length_toList, hsz]; omega)]
    · unfold sortWorldK putRowK putRow mapBlock; simp [Sort.ahead]
    · unfold sortWorldK putRowK putRow
      rw [heap_grow_old _ _ (by show i < (mapBlock _ _ _).heap.size; unfold mapBlock; simp [Sort.ahead]; omega)]
      unfold mapBlock
      simp only [Array.getElem?_modify]
      rw [if_neg (by omega)]
      rfl
end

theorem perm_of {α : Type} [Inhabited α] {o : List α} {d' : Array α} (h : PermIn 0 o.toArray.size o.toArray d') : d'.toList.Perm o ∧ d'.toList.length = o.length := by
  obtain ⟨hs, _, hp⟩ := h
  have e1 : (o.toArray.extract 0 o.toArray.size) = o.toArray := by simp
  have e2 : (d'.extract 0 o.toArray.size) = d' := by rw [← hs]; simp
  rw [e1, e2] at hp
  exact ⟨by simpa using hp, by simpa using hs⟩
theorem sorted_of {α : Type} [Inhabited α] {lt : α → α → Bool} {d' : Array α} {n : Nat} (hn : d'.size = n) (h : SortedIn lt 0 n d') : d'.toList.Pairwise (fun a b => lt b a = false) := by
  rw [List.pairwise_iff_getElem]
  intro i j hi hj hij
  have hi' : i < d'.size := by simpa using hi
  have hj' : j < d'.size := by simpa using hj
  have := h i j (Nat.zero_le _) hij (by omega)
  rw [getElem!_pos d' i hi', getElem!_pos d' j hj'] at this
  simpa using this

end Go.Proofs.Ytgfkkjcnnecefab

/- The library's sort at pieces, by the program's own order. -/
namespace Go.Proofs.Ytgfkkjcnnecefab
open Go.RowKit Go.Lib Pl Go.Sort
attribute [local go_sem] ext_list app_list

/-- cmp.Compare at strings -/
def cmpS (a b : Bytes) : Int := if lessB a b = true then -1 else if a = b then 0 else 1
theorem less_model : ∀ a b : Bytes, Op.bytesLess a b = lessB a b
  | _, [] => by cases ‹Bytes› <;> rfl
  | [], _ :: _ => rfl
  | a :: x, b :: y => by rw [Op.bytesLess, lessB, less_model x y]

def orI (a b : Int) : Int := if a = 0 then b else a

set_option maxHeartbeats 1000000 in
theorem cmpOr2_any (g : Nat) (a b : Int) (w : World) (h0 : w.cell? ⟨g, 0, none⟩ = some (.int .i64 a)) (h1 : w.cell? ⟨g, 1, none⟩ = some (.int .i64 b)) :
    Calls Try.prog 33 #[.slice (some ⟨g, 0, none⟩) 2 2] w fun e w' => e = .returned (.int .i64 (orI a b)) ∧ w = w' := by
  by_cases ha : a = 0
  · subst ha
    by_cases hb : b = 0
    · subst hb
      have e : orI 0 0 = 0 := rfl
      rw [e]
      clear e
      go_enter Try.func33, Try.ntmps33
      go_wp2_with fail
      go_loop [5, 8] (fun _ i => ∃ k : Nat, k ≤ 2 ∧ i = .int .i64 k) (fun _ i => 2 - (intOf i).toNat)
      case atStart => exact ⟨0, by omega, rfl⟩
      case round =>
        obtain ⟨k, hk, rfl⟩ := hrel
        match k, hk with
        | 0, _ =>
          go_wp2_with fail
          go_round
          case rel => exact ⟨1, by omega, rfl⟩
          case measure => simp [intOf]
        | 1, _ =>
          go_wp2_with fail
          go_round
          case rel => exact ⟨2, by omega, rfl⟩
          case measure => simp [intOf]
        | 2, _ =>
          go_wp2_with fail
          go_ret
          exact ⟨rfl, rfl⟩
    · have e : orI 0 b = b := rfl
      rw [e]
      have z1 : (b == 0) = false := beq_eq_false_iff_ne.2 hb
      have z2 : (b != 0) = true := bne_iff_ne.2 hb
      clear e hb
      go_enter Try.func33, Try.ntmps33
      go_wp2_with fail
      go_loop [5, 8] (fun _ i => ∃ k : Nat, k ≤ 1 ∧ i = .int .i64 k) (fun _ i => 1 - (intOf i).toNat)
      case atStart => exact ⟨0, by omega, rfl⟩
      case round =>
        obtain ⟨k, hk, rfl⟩ := hrel
        match k, hk with
        | 0, _ =>
          go_wp2_with fail
          go_round
          case rel => exact ⟨1, by omega, rfl⟩
          case measure => simp [intOf]
        | 1, _ =>
          go_wp2_with fail
          go_ret
          exact ⟨rfl, rfl⟩
  · have e : orI a b = a := by unfold orI; rw [if_neg ha]
    rw [e]
    have z1 : (a == 0) = false := beq_eq_false_iff_ne.2 ha
    have z2 : (a != 0) = true := bne_iff_ne.2 ha
    clear e ha
    go_enter Try.func33, Try.ntmps33
    go_wp2_with fail
    go_loop [5, 8] (fun _ i => i = .int .i64 0) (fun _ _ => 0)
    case atStart => rfl
    case round =>
      subst hrel
      go_wp2_with fail
      go_ret
      exact ⟨rfl, rfl⟩

theorem cell_new_at {W : World} {cs : Array Value} {t : TypeId} {H : Nat} (i : Nat) (h : W.heap.size = H) : (W.alloc (.cells cs t)).cell? ⟨H, i, none⟩ = cs[i]? := by
  subst h; exact World.cell?_alloc_new _ _ _ _

/-- the program's own order of pieces -/
def cmpP (x y : Bytes × Nat) : Int := orI (Lib.compareInt y.2 x.2) (cmpS x.1 y.1)
theorem cmpP_lt (x y : Bytes × Nat) : ltOf cmpP x y = better x y := by
  obtain ⟨a, n⟩ := x
  obtain ⟨b, m⟩ := y
  unfold ltOf cmpP better orI Lib.compareInt cmpS
  simp only
  by_cases h1 : (m : Int) < (n : Int)
  · rw [if_pos h1]
    have : m < n := by omega
    simp [this]
  · rw [if_neg h1]
    by_cases h2 : (m : Int) > (n : Int)
    · rw [if_pos h2]
      have h3 : ¬ m < n := by omega
      have h4 : (n == m) = false := by rw [beq_eq_false_iff_ne]; omega
      simp [h3, h4]
    · rw [if_neg h2]
      have h3 : n = m := by omega
      subst h3
      by_cases h4 : lessB a b = true
      · simp [h4]
      · by_cases h5 : a = b
        · subst h5; simp [h4]
        · simp [h4, h5]
theorem swoP : SWO (ltOf cmpP) where
  irrefl x := by rw [cmpP_lt]; exact better_irrefl x
  trans x y z h1 h2 := by rw [cmpP_lt] at *; exact better_trans h1 h2
  ntrans x y z h1 h2 := by
    rw [cmpP_lt] at *
    rw [Bool.eq_false_iff] at *
    intro h3
    cases h4 : better y x with
    | true => exact h2 (better_trans h4 h3)
    | false =>
      have := better_total (by simpa using h1) h4
      subst this
      exact h2 h3

end Go.Proofs.Ytgfkkjcnnecefab

/- Plain mathematics of chapter 3: codes. No program in sight. -/
namespace Go.Proofs.Ytgfkkjcnnecefab
namespace Pl

def pw (m : Nat) : Nat := 2 ^ (15 - m)
theorem pw_pos (m : Nat) : 0 < pw m := Nat.pow_pos (by omega)
theorem pw_le (m : Nat) : pw m ≤ 32768 := by
  have : 2 ^ (15 - m) ≤ 2 ^ 15 := Nat.pow_le_pow_right (by omega) (by omega)
  exact this
def badL (x : Int) : Bool := decide (x < 0 ∨ 15 < x)
def kr1 (x : Int) : Nat := if 0 < x then pw x.toNat else 0
def kr : List Int → Nat
  | [] => 0
  | x :: l => kr1 x + kr l
theorem kr1_le (x : Int) : kr1 x ≤ 32768 := by unfold kr1; split; exact pw_le _; omega
theorem kr_le : ∀ l : List Int, kr l ≤ 32768 * l.length
  | [] => by simp [kr]
  | x :: l => by
    have := kr1_le x
    have := kr_le l
    rw [kr, List.length_cons]; omega
theorem kr_app (a b : List Int) : kr (a ++ b) = kr a + kr b := by
  induction a with
  | nil => simp [kr]
  | cons x a ih => rw [List.cons_append, kr, kr, ih]; omega
theorem kr_take {l : List Int} {k : Nat} {x : Int} (h : l[k]? = some x) : kr (l.take (k + 1)) = kr (l.take k) + kr1 x := by
  rw [List.take_add_one, h, kr_app]; simp [kr]
theorem bad_take {l : List Int} {k : Nat} {x : Int} (h : l[k]? = some x) : (l.take (k + 1)).any badL = ((l.take k).any badL || badL x) := by
  rw [List.take_add_one, h, List.any_append]; simp
theorem bad_of_take {l : List Int} {k : Nat} (h : (l.take k).any badL = true) : l.any badL = true := by
  rw [List.any_eq_true] at h ⊢
  obtain ⟨x, hx, hb⟩ := h
  exact ⟨x, List.mem_of_mem_take hx, hb⟩
/-- C1 -/
def checkE (l : List Int) : Nat := if l.any badL = true then 3 else if kr l = 0 ∨ 32768 < kr l then 1 else 0
theorem checkE_bad {l : List Int} (h : l.any badL = true) : checkE l = 3 := by unfold checkE; rw [if_pos h]
theorem checkE_form {l : List Int} (h : l.any badL = false) (h2 : kr l = 0 ∨ 32768 < kr l) : checkE l = 1 := by unfold checkE; rw [h, if_neg (by simp), if_pos h2]
theorem checkE_ok {l : List Int} (h : l.any badL = false) (h2 : ¬ (kr l = 0 ∨ 32768 < kr l)) : checkE l = 0 := by unfold checkE; rw [h, if_neg (by simp), if_neg h2]
theorem checkE_zero {l : List Int} (h : checkE l = 0) : (∀ x ∈ l, 0 ≤ x ∧ x ≤ 15) ∧ 0 < kr l ∧ kr l ≤ 32768 := by
  unfold checkE at h
  by_cases h1 : l.any badL = true
  · rw [if_pos h1] at h; omega
  · rw [if_neg h1] at h
    by_cases h2 : kr l = 0 ∨ 32768 < kr l
    · rw [if_pos h2] at h; omega
    · refine ⟨fun x hx => ?_, by omega, by omega⟩
      have h1 : l.any badL = false := by simpa using h1
      rw [List.any_eq_false] at h1
      have := h1 x hx
      simp only [badL, decide_eq_true_eq] at this
      omega

/-- C2: may they be counts -/
def badC (x : Int) : Bool := decide (x < 0 ∨ 2048 < x)
def fineB (c : List Int) : Bool := !c.any badC
theorem fine_all {c : List Int} (h : fineB c = true) : ∀ x ∈ c, 0 ≤ x ∧ x ≤ 2048 := by
  intro x hx
  unfold fineB at h
  have h : c.any badC = false := by simpa using h
  rw [List.any_eq_false] at h
  have := h x hx
  simp only [badC, decide_eq_true_eq] at this
  omega
theorem fine_of_all {c : List Int} (h : ∀ x ∈ c, 0 ≤ x ∧ x ≤ 2048) : fineB c = true := by
  unfold fineB
  rw [Bool.not_eq_true', List.any_eq_false]
  intro x hx
  have := h x hx
  simp only [badC, decide_eq_true_eq]
  omega
/-- a sign that counts and has no word -/
def lackL : List Int → List Int → Bool
  | x :: l, c :: cs => decide (0 < c ∧ x = 0) || lackL l cs
  | _, _ => false
def dotL : List Int → List Int → Int
  | x :: l, c :: cs => c * x + dotL l cs
  | _, _ => 0
def costE (l c : List Int) : Nat := if checkE l ≠ 0 then checkE l else if fineB c = false then 3 else if lackL l c = true then 5 else 0
def costN (l c : List Int) : Int := if checkE l ≠ 0 then 0 else if fineB c = false then 0 else if lackL l c = true then 0 else dotL l c
theorem lack_take : ∀ {l c : List Int} {k : Nat} {x y : Int}, l[k]? = some x → c[k]? = some y → lackL (l.take (k + 1)) (c.take (k + 1)) = (lackL (l.take k) (c.take k) || decide (0 < y ∧ x = 0))
  | a :: l, b :: c, 0, x, y, h1, h2 => by simp at h1 h2; subst h1; subst h2; simp [lackL]
  | a :: l, b :: c, k + 1, x, y, h1, h2 => by
    have := lack_take (l := l) (c := c) (k := k) (x := x) (y := y) (by simpa using h1) (by simpa using h2)
    rw [List.take_succ_cons, List.take_succ_cons, List.take_succ_cons, List.take_succ_cons, lackL, lackL, this, Bool.or_assoc]
  | [], _, _, _, _, h1, _ => by simp at h1
  | _ :: _, [], _, _, _, _, h2 => by simp at h2
theorem dot_take : ∀ {l c : List Int} {k : Nat} {x y : Int}, l[k]? = some x → c[k]? = some y → dotL (l.take (k + 1)) (c.take (k + 1)) = dotL (l.take k) (c.take k) + y * x
  | a :: l, b :: c, 0, x, y, h1, h2 => by simp at h1 h2; subst h1; subst h2; simp [dotL]
  | a :: l, b :: c, k + 1, x, y, h1, h2 => by
    have := dot_take (l := l) (c := c) (k := k) (x := x) (y := y) (by simpa using h1) (by simpa using h2)
    rw [List.take_succ_cons, List.take_succ_cons, List.take_succ_cons, List.take_succ_cons, dotL, dotL, this]; omega
  | [], _, _, _, _, h1, _ => by simp at h1
  | _ :: _, [], _, _, _, _, h2 => by simp at h2
theorem lack_of_take : ∀ {l c : List Int} {k : Nat}, lackL (l.take k) (c.take k) = true → lackL l c = true
  | [], _, k, h => by cases k <;> simp [lackL] at h
  | _ :: _, [], k, h => by cases k <;> simp [lackL] at h
  | a :: l, b :: c, 0, h => by simp [lackL] at h
  | a :: l, b :: c, k + 1, h => by
    rw [List.take_succ_cons, List.take_succ_cons, lackL, Bool.or_eq_true] at h
    rw [lackL, Bool.or_eq_true]
    exact h.imp id lack_of_take
theorem mul_le_cost (y x : Int) (hy : 0 ≤ y ∧ y ≤ 2048) (hx : 0 ≤ x ∧ x ≤ 15) : 0 ≤ y * x ∧ y * x ≤ 30720 := by
  refine ⟨Int.mul_nonneg hy.1 hx.1, ?_⟩
  calc y * x ≤ 2048 * 15 := Int.mul_le_mul hy.2 hx.2 hx.1 (by omega)
    _ = 30720 := by decide

end Pl
end Go.Proofs.Ytgfkkjcnnecefab

/- Plain mathematics of chapter 3: the words of a right code. No program in sight. -/
namespace Go.Proofs.Ytgfkkjcnnecefab
namespace Pl

/-- so many bits of a number, the great ones first -/
def bt : Nat → Nat → List Bool
  | _, 0 => []
  | n, s + 1 => bt (n / 2) s ++ [decide (n % 2 = 1)]
theorem bt_len : ∀ (s n : Nat), (bt n s).length = s
  | 0, _ => rfl
  | s + 1, n => by rw [bt, List.length_append, bt_len]; rfl
def bvT (b : Bool) : Nat := if b then 1 else 0
def val (l : List Bool) : Nat := l.foldl (fun a b => 2 * a + bvT b) 0
theorem val_nil : val [] = 0 := rfl
theorem val_snoc (l : List Bool) (b : Bool) : val (l ++ [b]) = 2 * val l + bvT b := by unfold val; rw [List.foldl_append]; rfl
theorem bvT_le (b : Bool) : bvT b ≤ 1 := by cases b <;> decide
theorem list_snoc_ind {α : Type} {p : List α → Prop} (h0 : p []) (h1 : ∀ l a, p l → p (l ++ [a])) (l : List α) : p l := by
  have : ∀ n (l : List α), l.length = n → p l := by
    intro n
    induction n with
    | zero => intro l hl; rw [List.length_eq_zero_iff.1 hl]; exact h0
    | succ n ih =>
      intro l hl
      have hne : l ≠ [] := by intro e; rw [e] at hl; simp at hl
      rw [← List.dropLast_concat_getLast hne]
      exact h1 _ _ (ih _ (by simp; omega))
  exact this _ _ rfl
theorem val_lt (l : List Bool) : val l < 2 ^ l.length := by
  induction l using list_snoc_ind with
  | h0 => decide
  | h1 l b ih =>
    have := bvT_le b
    rw [val_snoc, List.length_append, List.length_singleton, Nat.pow_succ]; omega
theorem val_app (a b : List Bool) : val (a ++ b) = val a * 2 ^ b.length + val b := by
  induction b using list_snoc_ind with
  | h0 => simp [val_nil]
  | h1 l x ih =>
    rw [← List.append_assoc, val_snoc, val_snoc, ih, List.length_append, List.length_singleton, Nat.pow_succ, ← Nat.mul_assoc]
    omega
theorem val_bt : ∀ (s n : Nat), val (bt n s) = n % 2 ^ s
  | 0, n => by simp [bt, val_nil, Nat.mod_one]
  | s + 1, n => by
    rw [bt, val_snoc, val_bt, Nat.pow_succ, Nat.mul_comm (2 ^ s) 2, Nat.mod_mul]
    have : bvT (decide (n % 2 = 1)) = n % 2 := by
      rcases Nat.mod_two_eq_zero_or_one n with h | h <;> rw [h] <;> rfl
    omega
theorem bt_val (l : List Bool) : bt (val l) l.length = l := by
  induction l using list_snoc_ind with
  | h0 => rfl
  | h1 l b ih =>
    rw [val_snoc, List.length_append, List.length_singleton, bt]
    have hb := bvT_le b
    rw [show (2 * val l + bvT b) / 2 = val l from by omega, ih]
    congr 2
    cases b
    · simp [bvT]
    · simp [bvT]
/-- the first bits -/
theorem bt_take (n s t : Nat) : bt n (s + t) = bt (n / 2 ^ t) s ++ bt n t := by
  induction t generalizing n with
  | zero => simp [bt]
  | succ t ih =>
    rw [← Nat.add_assoc, bt, ih, bt, List.append_assoc, Nat.div_div_eq_div_mul, ← Nat.pow_succ']

def sumN (f : Nat → Nat) : Nat → Nat
  | 0 => 0
  | n + 1 => sumN f n + f n
theorem sumN_le {f g : Nat → Nat} : ∀ n, (∀ j, j < n → f j ≤ g j) → sumN f n ≤ sumN g n
  | 0, _ => Nat.le_refl _
  | n + 1, h => Nat.add_le_add (sumN_le n fun j hj => h j (by omega)) (h n (by omega))
theorem sumN_congr {f g : Nat → Nat} : ∀ n, (∀ j, j < n → f j = g j) → sumN f n = sumN g n
  | 0, _ => rfl
  | n + 1, h => by rw [sumN, sumN, sumN_congr n fun j hj => h j (by omega), h n (by omega)]
theorem sumN_zero {f : Nat → Nat} : ∀ n, (∀ j, j < n → f j = 0) → sumN f n = 0
  | 0, _ => rfl
  | n + 1, h => by rw [sumN, sumN_zero n fun j hj => h j (by omega), h n (by omega)]
theorem sumN_add (f g : Nat → Nat) : ∀ n, sumN (fun j => f j + g j) n = sumN f n + sumN g n
  | 0 => rfl
  | n + 1 => by rw [sumN, sumN, sumN, sumN_add f g n]; omega
theorem sumN_one {f : Nat → Nat} {i : Nat} : ∀ n, i < n → (∀ j, j < n → j ≠ i → f j = 0) → sumN f n = f i
  | 0, h, _ => absurd h (by omega)
  | n + 1, h, hz => by
    rw [sumN]
    by_cases e : i = n
    · subst e
      rw [sumN_zero i fun j hj => hz j (by omega) (by omega)]; omega
    · rw [sumN_one n (by omega) (fun j hj hne => hz j (by omega) hne), hz n (by omega) (by omega)]; omega
theorem sumN_dvd {d : Nat} {f : Nat → Nat} : ∀ n, (∀ j, j < n → d ∣ f j) → d ∣ sumN f n
  | 0, _ => Nat.dvd_zero d
  | n + 1, h => Nat.dvd_add (sumN_dvd n fun j hj => h j (by omega)) (h n (by omega))

/-- the length of a sign's word -/
def ln (l : List Int) (i : Nat) : Nat := (l.getD i 0).toNat
/-- the signs whose words come first -/
def early (l : List Int) (s i j : Nat) : Bool := decide (0 < ln l j) && (decide (ln l j < s) || (decide (ln l j = s) && decide (j < i)))
theorem early_iff (l : List Int) (s i j : Nat) : early l s i j = true ↔ 0 < ln l j ∧ (ln l j < s ∨ (ln l j = s ∧ j < i)) := by unfold early; simp
def preS (l : List Int) (s i : Nat) : Nat := sumN (fun j => if early l s i j = true then pw (ln l j) else 0) 16
theorem early_congr {l : List Int} {s i s' i' j : Nat} (h : (0 < ln l j ∧ (ln l j < s ∨ (ln l j = s ∧ j < i))) ↔ (0 < ln l j ∧ (ln l j < s' ∨ (ln l j = s' ∧ j < i')))) : early l s i j = early l s' i' j := by
  rw [← early_iff, ← early_iff] at h
  cases h1 : early l s i j <;> cases h2 : early l s' i' j <;> simp_all
theorem preS_zero (l : List Int) : preS l 1 0 = 0 := by
  refine sumN_zero _ fun j _ => ?_
  rw [if_neg]
  rw [early_iff]; omega
theorem early_skip {l : List Int} {s i : Nat} (h : ln l i ≠ s) (j : Nat) : early l s (i + 1) j = early l s i j :=
  early_congr ⟨fun ⟨a, b⟩ => ⟨a, by rcases b with b | ⟨b, c⟩; exact .inl b; refine .inr ⟨b, ?_⟩; by_cases e : j = i; subst e; exact absurd b h; omega⟩, fun ⟨a, b⟩ => ⟨a, by omega⟩⟩
theorem preS_skip {l : List Int} {s i : Nat} (h : ln l i ≠ s) : preS l s (i + 1) = preS l s i := by
  refine sumN_congr _ fun j _ => ?_
  simp only [early_skip h j]
theorem early_hit {l : List Int} {s i : Nat} (h : ln l i = s) (hs : 0 < s) (j : Nat) : early l s (i + 1) j = (early l s i j || decide (j = i)) := by
  have h1 := early_iff l s (i + 1) j
  have h2 := early_iff l s i j
  by_cases e : j = i
  · subst e
    simp only [decide_true, Bool.or_true]
    rw [h1]; omega
  · simp only [e, decide_false, Bool.or_false]
    exact early_congr ⟨fun ⟨a, b⟩ => ⟨a, by omega⟩, fun ⟨a, b⟩ => ⟨a, by omega⟩⟩
theorem early_self (l : List Int) (i : Nat) : early l (ln l i) i i = false := by
  have := early_iff l (ln l i) i i
  cases h : early l (ln l i) i i with
  | false => rfl
  | true => have := this.1 h; omega
theorem preS_hit {l : List Int} {s i : Nat} (h : ln l i = s) (hs : 0 < s) (hi : i < 16) : preS l s (i + 1) = preS l s i + pw s := by
  have e : ∀ j, j < 16 → (if early l s (i + 1) j = true then pw (ln l j) else 0) = (if early l s i j = true then pw (ln l j) else 0) + (if j = i then pw s else 0) := by
    intro j _
    rw [early_hit h hs]
    by_cases e : j = i
    · subst e
      have := early_self l j
      rw [h] at this
      simp [this, h]
    · simp [e]
  unfold preS
  rw [sumN_congr 16 e, sumN_add]
  congr 1
  rw [sumN_one (i := i) 16 hi (fun j _ hne => by simp [hne])]
  simp
theorem preS_row (l : List Int) (s : Nat) : preS l (s + 1) 0 = preS l s 16 := by
  refine sumN_congr _ fun j hj => ?_
  rw [early_congr (s' := s) (i' := 16) ⟨fun ⟨a, b⟩ => ⟨a, by omega⟩, fun ⟨a, b⟩ => ⟨a, by omega⟩⟩]
theorem early_row {l : List Int} {s j : Nat} (hj : j < 16) : early l (s + 1) 0 j = early l s 16 j :=
  early_congr ⟨fun ⟨a, b⟩ => ⟨a, by omega⟩, fun ⟨a, b⟩ => ⟨a, by omega⟩⟩
def krS (l : List Int) : Nat := sumN (fun j => if 0 < ln l j then pw (ln l j) else 0) 16
theorem kr_sum : ∀ (l : List Int), (∀ x ∈ l, 0 ≤ x) → kr l = sumN (fun j => if 0 < ln l j then pw (ln l j) else 0) l.length := by
  intro l
  induction l using list_snoc_ind with
  | h0 => intro _; rfl
  | h1 l x ih =>
    intro h
    have hx := h x (by simp)
    rw [kr_app, ih fun y hy => h y (by simp [hy]), List.length_append, List.length_singleton, sumN]
    have e1 : ln (l ++ [x]) l.length = x.toNat := by simp [ln]
    have e2 : ∀ j, j < l.length → ln (l ++ [x]) j = ln l j := fun j hj => by unfold ln; rw [List.getD_eq_getElem?_getD, List.getD_eq_getElem?_getD, List.getElem?_append_left hj]
    have e3 : sumN (fun j => if 0 < ln (l ++ [x]) j then pw (ln (l ++ [x]) j) else 0) l.length = sumN (fun j => if 0 < ln l j then pw (ln l j) else 0) l.length := sumN_congr _ fun j hj => by simp only [e2 j hj]
    rw [e3, e1]
    congr 1
    simp only [kr, kr1, Nat.add_zero]
    by_cases hp : 0 < x
    · rw [if_pos hp, if_pos (by omega)]
    · rw [if_neg hp, if_neg (by omega)]
theorem kr_krS {l : List Int} (hl : l.length = 16) (h : ∀ x ∈ l, 0 ≤ x) : kr l = krS l := by rw [kr_sum l h, hl]; rfl
theorem preS_le (l : List Int) (s i : Nat) : preS l s i ≤ krS l :=
  sumN_le _ fun j _ => by
    by_cases h : early l s i j = true
    · rw [if_pos h, if_pos ((early_iff l s i j).1 h).1]; exact Nat.le_refl _
    · rw [if_neg h]; omega
theorem pw_dvd {a b : Nat} (h : a ≤ b) : pw b ∣ pw a := Nat.pow_dvd_pow 2 (by omega)
theorem preS_dvd {l : List Int} {s i : Nat} : pw s ∣ preS l s i :=
  sumN_dvd _ fun j _ => by
    by_cases h : early l s i j = true
    · rw [if_pos h]
      have := (early_iff l s i j).1 h
      exact pw_dvd (by omega)
    · rw [if_neg h]; exact Nat.dvd_zero _
theorem preS_mono {l : List Int} {s i s' i' : Nat} (h : s < s' ∨ (s = s' ∧ i ≤ i')) : preS l s i ≤ preS l s' i' :=
  sumN_le _ fun j _ => by
    by_cases h1 : early l s i j = true
    · have := (early_iff l s i j).1 h1
      rw [if_pos h1, if_pos ((early_iff l s' i' j).2 (by omega))]; exact Nat.le_refl _
    · rw [if_neg h1]; omega

/-- the number of a sign's word, and its bits -/
def wv (l : List Int) (i : Nat) : Nat := preS l (ln l i) i / pw (ln l i)
def wordB (l : List Int) (i : Nat) : List Bool := bt (wv l i) (ln l i)
/-- a right code -/
structure Right (l : List Int) : Prop where
  len : l.length = 16
  one : ∀ i, ln l i ≤ 15
  sum : krS l ≤ 32768
  some : 0 < krS l
  nn : ∀ x ∈ l, 0 ≤ x
theorem right_of {l : List Int} (hl : l.length = 16) (h : checkE l = 0) : Right l := by
  obtain ⟨h1, h2, h3⟩ := checkE_zero h
  rw [kr_krS hl fun x hx => (h1 x hx).1] at h2 h3
  refine ⟨hl, fun i => ?_, h3, h2, fun x hx => (h1 x hx).1⟩
  unfold ln
  by_cases hi : i < l.length
  · rw [List.getD_eq_getElem?_getD, List.getElem?_eq_getElem hi]
    have := h1 _ (List.getElem_mem hi)
    simp; omega
  · rw [List.getD_eq_getElem?_getD, List.getElem?_eq_none (by omega)]; decide
theorem wv_mul (l : List Int) (i : Nat) : wv l i * pw (ln l i) = preS l (ln l i) i := Nat.div_mul_cancel preS_dvd
theorem pw_mul {m : Nat} (h : m ≤ 15) : 2 ^ m * pw m = 32768 := by
  unfold pw
  rw [← Nat.pow_add, show m + (15 - m) = 15 from by omega]
theorem preS_room {l : List Int} (h : Right l) {i : Nat} (hi : i < 16) (hp : 0 < ln l i) : preS l (ln l i) i + pw (ln l i) ≤ 32768 := by
  rw [← preS_hit rfl hp hi]
  exact Nat.le_trans (preS_le _ _ _) h.sum
theorem wv_lt {l : List Int} (h : Right l) {i : Nat} (hi : i < 16) (hp : 0 < ln l i) : wv l i < 2 ^ ln l i := by
  have h1 := preS_room h hi hp
  rw [← wv_mul, ← pw_mul (h.one i)] at h1
  have h2 := pw_pos (ln l i)
  have : (wv l i + 1) * pw (ln l i) ≤ 2 ^ ln l i * pw (ln l i) := by rw [Nat.add_mul]; omega
  exact Nat.le_of_mul_le_mul_right this h2
theorem wordB_len (l : List Int) (i : Nat) : (wordB l i).length = ln l i := bt_len _ _
theorem wordB_val {l : List Int} (h : Right l) {i : Nat} (hi : i < 16) (hp : 0 < ln l i) : val (wordB l i) = wv l i := by
  unfold wordB
  rw [val_bt, Nat.mod_eq_of_lt (wv_lt h hi hp)]

theorem pw_split {a b : Nat} (h : a ≤ b) (hb : b ≤ 15) : pw a = 2 ^ (b - a) * pw b := by
  unfold pw
  rw [← Nat.pow_add]
  congr 1; omega
/-- no word begins another -/
theorem word_free {l : List Int} (h : Right l) {i j : Nat} (hi : i < 16) (hj : j < 16) (pi : 0 < ln l i) (pj : 0 < ln l j) (hp : wordB l i <+: wordB l j) : i = j := by
  obtain ⟨t, ht⟩ := hp
  have hl : ln l i + t.length = ln l j := by
    have := congrArg List.length ht
    rw [List.length_append, wordB_len, wordB_len] at this; exact this
  have hv := congrArg val ht
  rw [val_app, wordB_val h hi pi, wordB_val h hj pj] at hv
  have htl := val_lt t
  have hpj := pw_pos (ln l j)
  have hsp := pw_split (show ln l i ≤ ln l j by omega) (h.one j)
  rw [show ln l j - ln l i = t.length from by omega] at hsp
  -- the numbers, in the same room
  have hJ := wv_mul l j
  have hI := wv_mul l i
  rw [← hv, Nat.add_mul, Nat.mul_assoc, ← hsp, hI] at hJ
  have hlt : val t * pw (ln l j) < pw (ln l i) := by rw [hsp]; exact Nat.mul_lt_mul_of_pos_right htl hpj
  by_cases e : i = j
  · exact e
  · exfalso
    by_cases hlex : ln l i < ln l j ∨ (ln l i = ln l j ∧ i < j)
    · have := preS_mono (l := l) (s := ln l i) (i := i + 1) (s' := ln l j) (i' := j) (by omega)
      rw [preS_hit rfl pi hi] at this
      omega
    · have he : ln l j = ln l i := by omega
      have hji : j < i := by omega
      have := preS_mono (l := l) (s := ln l j) (i := j + 1) (s' := ln l i) (i' := i) (by omega)
      rw [preS_hit rfl pj hj] at this
      have hpp := pw_pos (ln l j)
      omega

end Pl
end Go.Proofs.Ytgfkkjcnnecefab

/- Plain mathematics of chapter 3: building the best code. No program in sight. -/
namespace Go.Proofs.Ytgfkkjcnnecefab
namespace Pl

/-- a tree: what it weighs, and its signs, the least one first -/
abbrev Tr := Nat × List Nat
def hd (t : Tr) : Nat := t.2.headD 16
def keyLt (a b : Tr) : Bool := decide (a.1 < b.1) || (decide (a.1 = b.1) && decide (hd a < hd b))
theorem keyLt_iff (a b : Tr) : keyLt a b = true ↔ a.1 < b.1 ∨ (a.1 = b.1 ∧ hd a < hd b) := by unfold keyLt; simp
def insT (x : Tr) : List Tr → List Tr
  | [] => [x]
  | y :: l => if keyLt x y = true then x :: y :: l else y :: insT x l
def sortT : List Tr → List Tr
  | [] => []
  | x :: l => insT x (sortT l)
theorem insT_perm (x : Tr) : ∀ l, (insT x l).Perm (x :: l)
  | [] => List.Perm.refl _
  | y :: l => by
    unfold insT
    split
    · exact List.Perm.refl _
    · exact ((insT_perm x l).cons y).trans (List.Perm.swap x y l)
theorem sortT_perm : ∀ l, (sortT l).Perm l
  | [] => List.Perm.refl _
  | x :: l => (insT_perm x _).trans ((sortT_perm l).cons x)
def Srt (l : List Tr) : Prop := l.Pairwise fun a b => keyLt a b = true
/-- no two have the same least sign -/
def KD (l : List Tr) : Prop := l.Pairwise fun a b => hd a ≠ hd b
theorem KD.perm {l l' : List Tr} (h : KD l) (hp : l.Perm l') : KD l' := (hp.pairwise_iff (fun h => Ne.symm h)).1 h
theorem insT_srt (x : Tr) : ∀ l, Srt l → (∀ y ∈ l, hd x ≠ hd y) → Srt (insT x l)
  | [], _, _ => by simp [insT, Srt]
  | y :: l, h, hx => by
    have h := List.pairwise_cons.1 h
    unfold insT
    by_cases e : keyLt x y = true
    · rw [if_pos e]
      refine List.pairwise_cons.2 ⟨fun z hz => ?_, List.pairwise_cons.2 h⟩
      rcases List.mem_cons.1 hz with rfl | hz
      · exact e
      · have h1 := h.1 z hz
        rw [keyLt_iff] at h1 e ⊢
        omega
    · rw [if_neg e]
      refine List.pairwise_cons.2 ⟨fun z hz => ?_, insT_srt x l h.2 fun z hz => hx z (by simp [hz])⟩
      rcases List.mem_cons.1 ((insT_perm x l).mem_iff.1 hz) with rfl | hz
      · have h1 := hx y (by simp)
        rw [keyLt_iff] at e ⊢
        omega
      · exact h.1 z hz
theorem sortT_srt : ∀ l, KD l → Srt (sortT l)
  | [], _ => List.Pairwise.nil
  | x :: l, h => by
    have h := List.pairwise_cons.1 h
    exact insT_srt x _ (sortT_srt l h.2) fun y hy => h.1 y ((sortT_perm l).mem_iff.1 hy)
theorem srt_unique : ∀ (c d : List Tr), Srt c → Srt d → c.Perm d → c = d
  | [], d, _, _, h => (List.nil_perm.1 h).symm
  | x :: c, [], _, _, h => absurd (List.perm_nil.1 h) (by simp)
  | x :: c, y :: d, h1, h2, h => by
    have a1 := List.pairwise_cons.1 h1
    have a2 := List.pairwise_cons.1 h2
    have e : x = y := by
      rcases List.mem_cons.1 (h.mem_iff.1 (by simp : x ∈ x :: c)) with e | hx
      · exact e
      · rcases List.mem_cons.1 (h.mem_iff.2 (by simp : y ∈ y :: d)) with e | hy
        · exact e.symm
        · have b1 := a1.1 y hy
          have b2 := a2.1 x hx
          rw [keyLt_iff] at b1 b2
          omega
    subst e
    rw [srt_unique c d a1.2 a2.2 (List.Perm.cons_inv h)]
theorem sortT_eq {l l' : List Tr} (h : KD l) (hp : l.Perm l') : sortT l = sortT l' :=
  srt_unique _ _ (sortT_srt l h) (sortT_srt l' (h.perm hp)) ((sortT_perm l).trans (hp.trans (sortT_perm l').symm))
theorem sortT_of_srt {l p : List Tr} (h : KD l) (hp : p.Perm l) (hs : Srt p) : sortT l = p :=
  srt_unique _ _ (sortT_srt l h) hs ((sortT_perm l).trans hp.symm)

/-- the signs of two trees -/
def mg (a b : List Nat) : List Nat := (List.range 16).filter fun i => decide (i ∈ a ∨ i ∈ b)
def mgT (a b : Tr) : Tr := (a.1 + b.1, mg a.2 b.2)
theorem mem_mg {a b : List Nat} (ha : ∀ i ∈ a, i < 16) (hb : ∀ i ∈ b, i < 16) (i : Nat) : i ∈ mg a b ↔ i ∈ a ∨ i ∈ b := by
  unfold mg
  rw [List.mem_filter, List.mem_range, decide_eq_true_eq]
  constructor
  · exact fun h => h.2
  · intro h
    refine ⟨?_, h⟩
    rcases h with h | h
    · exact ha i h
    · exact hb i h
theorem asc_unique : ∀ (c d : List Nat), c.Pairwise (· < ·) → d.Pairwise (· < ·) → (∀ i, i ∈ c ↔ i ∈ d) → c = d
  | [], [], _, _, _ => rfl
  | [], y :: d, _, _, h => absurd ((h y).2 (by simp)) (by simp)
  | x :: c, [], _, _, h => absurd ((h x).1 (by simp)) (by simp)
  | x :: c, y :: d, h1, h2, h => by
    have a1 := List.pairwise_cons.1 h1
    have a2 := List.pairwise_cons.1 h2
    have e : x = y := by
      rcases List.mem_cons.1 ((h x).1 (by simp)) with e | hx
      · exact e
      · rcases List.mem_cons.1 ((h y).2 (by simp)) with e | hy
        · exact e.symm
        · have b1 := a1.1 y hy
          have b2 := a2.1 x hx
          omega
    subst e
    congr 1
    refine asc_unique c d a1.2 a2.2 fun i => ?_
    have hi := h i
    simp only [List.mem_cons] at hi
    constructor
    · intro hc
      have hne : i ≠ x := fun e => by have := a1.1 i hc; omega
      exact (hi.1 (.inr hc)).resolve_left hne
    · intro hc
      have hne : i ≠ x := fun e => by have := a2.1 i hc; omega
      exact (hi.2 (.inr hc)).resolve_left hne
theorem mg_asc (a b : List Nat) : (mg a b).Pairwise (· < ·) := List.Pairwise.filter _ List.pairwise_lt_range
structure VT (t : Tr) : Prop where
  ne : t.2 ≠ []
  asc : t.2.Pairwise (· < ·)
  lt : ∀ i ∈ t.2, i < 16
def Dis (a b : Tr) : Prop := ∀ i ∈ a.2, i ∉ b.2
theorem Dis.symm {a b : Tr} (h : Dis a b) : Dis b a := fun i hi hj => h i hj hi
structure Forest (l : List Tr) : Prop where
  vt : ∀ t ∈ l, VT t
  dis : l.Pairwise Dis
theorem Forest.perm {l l' : List Tr} (h : Forest l) (hp : l.Perm l') : Forest l' :=
  ⟨fun t ht => h.vt t (hp.mem_iff.2 ht), (hp.pairwise_iff Dis.symm).1 h.dis⟩
theorem hd_mem {t : Tr} (h : VT t) : hd t ∈ t.2 := by
  unfold hd
  cases e : t.2 with
  | nil => exact absurd e h.ne
  | cons x l => simp
theorem Forest.kd {l : List Tr} (h : Forest l) : KD l := by
  refine List.Pairwise.imp_of_mem ?_ h.dis
  intro a b ha hb hd1 e
  exact hd1 (hd a) (hd_mem (h.vt a ha)) (e ▸ hd_mem (h.vt b hb))
theorem vt_mg {a b : Tr} (ha : VT a) (hb : VT b) : VT (mgT a b) := by
  refine ⟨?_, mg_asc _ _, ?_⟩
  · intro e
    have := (mem_mg ha.lt hb.lt (hd a)).2 (.inl (hd_mem ha))
    rw [show mg a.2 b.2 = [] from e] at this; simp at this
  · intro i hi
    rcases (mem_mg ha.lt hb.lt i).1 hi with h | h
    · exact ha.lt i h
    · exact hb.lt i h
theorem Forest.step {a b : Tr} {r : List Tr} (h : Forest (a :: b :: r)) : Forest (r ++ [mgT a b]) := by
  have va := h.vt a (by simp)
  have vb := h.vt b (by simp)
  have d1 := List.pairwise_cons.1 h.dis
  have d2 := List.pairwise_cons.1 d1.2
  refine ⟨fun t ht => ?_, ?_⟩
  · rcases List.mem_append.1 ht with ht | ht
    · exact h.vt t (by simp [ht])
    · have : t = mgT a b := by simpa using ht
      subst this; exact vt_mg va vb
  · refine List.pairwise_append.2 ⟨d2.2, by simp, fun x hx y hy => ?_⟩
    have : y = mgT a b := by simpa using hy
    subst this
    intro i hi hm
    rcases (mem_mg va.lt vb.lt i).1 hm with e | e
    · exact d1.1 x (by simp [hx]) i e hi
    · exact d2.1 x hx i e hi

/-- how often the tree of a sign is made one with another -/
def build : Nat → List Tr → Nat → Nat
  | 0, _, _ => 0
  | f + 1, l, i => match sortT l with
    | a :: b :: r => (if i ∈ mg a.2 b.2 then 1 else 0) + build f (r ++ [mgT a b]) i
    | _ => 0
def costS : Nat → List Tr → Nat
  | 0, _ => 0
  | f + 1, l => match sortT l with
    | a :: b :: r => a.1 + b.1 + costS f (r ++ [mgT a b])
    | _ => 0
theorem build_perm {f : Nat} {l l' : List Tr} (h : Forest l) (hp : l.Perm l') (i : Nat) : build f l i = build f l' i := by
  cases f with
  | zero => rfl
  | succ f => unfold build; rw [sortT_eq h.kd hp]
theorem build_step {f : Nat} {l r : List Tr} {a b : Tr} (h : sortT l = a :: b :: r) (i : Nat) : build (f + 1) l i = (if i ∈ mg a.2 b.2 then 1 else 0) + build f (r ++ [mgT a b]) i := by
  rw [build, h]
theorem build_short {l : List Tr} (h : l.length ≤ 1) (f i : Nat) : build f l i = 0 := by
  cases f with
  | zero => rfl
  | succ f =>
    rw [build]
    match l, h with
    | [], _ => rfl
    | [x], _ => rfl
theorem costS_short {l : List Tr} (h : l.length ≤ 1) (f : Nat) : costS f l = 0 := by
  cases f with
  | zero => rfl
  | succ f =>
    rw [costS]
    match l, h with
    | [], _ => rfl
    | [x], _ => rfl
theorem sort_two {l : List Tr} (h : 2 ≤ l.length) : ∃ a b r, sortT l = a :: b :: r ∧ (a :: b :: r).Perm l ∧ r.length + 2 = l.length := by
  have hp := sortT_perm l
  match e : sortT l with
  | [] => rw [e] at hp; have := hp.length_eq; simp at this; omega
  | [x] => rw [e] at hp; have := hp.length_eq; simp at this; omega
  | a :: b :: r => rw [e] at hp; exact ⟨a, b, r, rfl, hp, by have := hp.length_eq; simpa using this⟩

theorem pw_half {m : Nat} (h : m + 1 ≤ 15) : pw m = 2 * pw (m + 1) := by
  unfold pw
  rw [show 15 - m = (15 - (m + 1)) + 1 from by omega, Nat.pow_succ]; omega
def krD (d : List (Tr × Nat)) : Nat := (d.map fun x => pw x.2).sum
def coD (d : List (Tr × Nat)) : Nat := (d.map fun x => x.1.1 * x.2).sum
/-- what is built -/
theorem built : ∀ (f : Nat) (l : List Tr), Forest l → 1 ≤ l.length → l.length ≤ f + 1 → l.length ≤ 16 →
    ∃ d : List (Tr × Nat), (d.map Prod.fst).Perm l ∧ (∀ x ∈ d, ∀ i ∈ x.1.2, build f l i = x.2) ∧ (∀ i, (∀ t ∈ l, i ∉ t.2) → build f l i = 0) ∧ krD d = 32768 ∧ (∀ x ∈ d, x.2 + 1 ≤ l.length) ∧ coD d = costS f l
  | f, l, hF, h1, hf, h16 => by
    by_cases h2 : l.length = 1
    · match l, h2 with
      | [t], _ =>
        refine ⟨[(t, 0)], List.Perm.refl _, fun x hx i _ => ?_, fun i _ => build_short (by simp) _ _, by simp [krD]; rfl, fun x hx => ?_, ?_⟩
        · have : x = (t, 0) := by simpa using hx
          subst this; exact build_short (by simp) _ _
        · have : x = (t, 0) := by simpa using hx
          subst this; simp
        · rw [costS_short (by simp)]; simp [coD]
    · obtain ⟨a, b, r, hs, hp, hl⟩ := sort_two (show 2 ≤ l.length by omega)
      obtain ⟨g, rfl⟩ : ∃ g, f = g + 1 := ⟨f - 1, by omega⟩
      have hFp := hF.perm hp.symm
      have va := hFp.vt a (by simp)
      have vb := hFp.vt b (by simp)
      have d1 := List.pairwise_cons.1 hFp.dis
      have d2 := List.pairwise_cons.1 d1.2
      obtain ⟨d, e1, e2, e3, e4, e5, e6⟩ := built g (r ++ [mgT a b]) hFp.step (by simp) (by simp; omega) (by simp; omega)
      have hm : mgT a b ∈ d.map Prod.fst := e1.mem_iff.2 (by simp)
      obtain ⟨x, hx, hxa⟩ := List.mem_map.1 hm
      obtain ⟨s, t, rfl⟩ := List.append_of_mem hx
      have e7 : ((s ++ t).map Prod.fst).Perm r := by
        have h1 : ((s ++ x :: t).map Prod.fst).Perm (mgT a b :: (s ++ t).map Prod.fst) := by
          rw [← hxa]; exact (List.perm_middle (a := x) (l₁ := s) (l₂ := t)).map _
        have h3 : (r ++ [mgT a b]).Perm (mgT a b :: r) := List.perm_append_comm
        exact List.Perm.cons_inv (h1.symm.trans (e1.trans h3))
      have hlen : (r ++ [mgT a b]).length = r.length + 1 := by simp
      have hx5 := e5 x hx
      rw [hlen] at hx5
      refine ⟨(a, x.2 + 1) :: (b, x.2 + 1) :: (s ++ t), ?_, ?_, ?_, ?_, ?_, ?_⟩
      · rw [List.map_cons, List.map_cons]
        exact ((e7.cons b).cons a).trans hp
      · intro y hy i hi
        rw [build_step hs]
        rcases List.mem_cons.1 hy with rfl | hy
        · have hi2 := (mem_mg va.lt vb.lt i).2 (.inl hi)
          rw [if_pos hi2, e2 x hx i (by rw [hxa]; exact hi2)]; simp only; omega
        · rcases List.mem_cons.1 hy with rfl | hy
          · have hi2 := (mem_mg va.lt vb.lt i).2 (.inr hi)
            rw [if_pos hi2, e2 x hx i (by rw [hxa]; exact hi2)]; simp only; omega
          · have hyr : y.1 ∈ r := e7.mem_iff.1 (List.mem_map.2 ⟨y, hy, rfl⟩)
            have hn : i ∉ mg a.2 b.2 := by
              intro h
              rcases (mem_mg va.lt vb.lt i).1 h with h | h
              · exact d1.1 y.1 (by simp [hyr]) i h hi
              · exact d2.1 y.1 hyr i h hi
            have hyd : y ∈ s ++ x :: t := by
              rcases List.mem_append.1 hy with h | h
              · exact List.mem_append.2 (.inl h)
              · exact List.mem_append.2 (.inr (by simp [h]))
            rw [if_neg hn, e2 y hyd i hi]; omega
      · intro i hi
        have ha := hi a (hp.mem_iff.1 (by simp))
        have hb := hi b (hp.mem_iff.1 (by simp))
        have hn : i ∉ mg a.2 b.2 := by
          intro h
          rcases (mem_mg va.lt vb.lt i).1 h with h | h
          · exact ha h
          · exact hb h
        rw [build_step hs, if_neg hn, e3 i fun t ht => ?_]
        rcases List.mem_append.1 ht with ht | ht
        · exact hi t (hp.mem_iff.1 (by simp [ht]))
        · have : t = mgT a b := by simpa using ht
          subst this; exact hn
      · unfold krD at e4 ⊢
        rw [List.map_append, List.map_cons, List.sum_append, List.sum_cons] at e4
        rw [List.map_cons, List.map_cons, List.sum_cons, List.sum_cons, List.map_append, List.sum_append]
        have := pw_half (m := x.2) (by omega)
        simp only at this ⊢; omega
      · intro y hy
        rcases List.mem_cons.1 hy with rfl | hy
        · simp only; omega
        · rcases List.mem_cons.1 hy with rfl | hy
          · simp only; omega
          · have := e5 y (by rcases List.mem_append.1 hy with h | h; exact List.mem_append.2 (.inl h); exact List.mem_append.2 (.inr (by simp [h])))
            rw [hlen] at this; omega
      · unfold coD at e6 ⊢
        rw [List.map_append, List.map_cons, List.sum_append, List.sum_cons] at e6
        rw [List.map_cons, List.map_cons, List.sum_cons, List.sum_cons, List.map_append, List.sum_append, costS, hs]
        have hxw : x.1.1 = a.1 + b.1 := by rw [hxa]; rfl
        rw [hxw] at e6
        simp only [Nat.mul_add, Nat.add_mul, Nat.mul_one] at e6 ⊢
        omega

/-- the least weight, and the greatest length, put in front -/
def front : Nat × Nat → List (Nat × Nat) → (Nat × Nat) × List (Nat × Nat)
  | p, [] => (p, [])
  | p, q :: r => ((front (min p.1 q.1, max p.2 q.2) r).1, (max p.1 q.1, min p.2 q.2) :: (front (min p.1 q.1, max p.2 q.2) r).2)
def krP (d : List (Nat × Nat)) : Nat := (d.map fun x => pw x.2).sum
def coP (d : List (Nat × Nat)) : Nat := (d.map fun x => x.1 * x.2).sum
theorem krP_cons (x : Nat × Nat) (d : List (Nat × Nat)) : krP (x :: d) = pw x.2 + krP d := by simp [krP]
theorem coP_cons (x : Nat × Nat) (d : List (Nat × Nat)) : coP (x :: d) = x.1 * x.2 + coP d := by simp [coP]
theorem swap_cost (a b x y : Nat) : min a b * max x y + max a b * min x y ≤ a * x + b * y := by
  rcases Nat.le_total a b with h | h <;> rcases Nat.le_total x y with k | k
  · rw [Nat.min_eq_left h, Nat.max_eq_right h, Nat.max_eq_right k, Nat.min_eq_left k]
    obtain ⟨u, rfl⟩ := Nat.exists_eq_add_of_le h
    obtain ⟨v, rfl⟩ := Nat.exists_eq_add_of_le k
    simp only [Nat.mul_add, Nat.add_mul]; omega
  · rw [Nat.min_eq_left h, Nat.max_eq_right h, Nat.max_eq_left k, Nat.min_eq_right k]; omega
  · rw [Nat.min_eq_right h, Nat.max_eq_left h, Nat.max_eq_right k, Nat.min_eq_left k]; omega
  · rw [Nat.min_eq_right h, Nat.max_eq_left h, Nat.max_eq_left k, Nat.min_eq_right k]
    obtain ⟨u, rfl⟩ := Nat.exists_eq_add_of_le h
    obtain ⟨v, rfl⟩ := Nat.exists_eq_add_of_le k
    simp only [Nat.mul_add, Nat.add_mul]; omega
theorem minmax_perm (a b : Nat) (l : List Nat) : (min a b :: max a b :: l).Perm (a :: b :: l) := by
  rcases Nat.le_total a b with h | h
  · rw [Nat.min_eq_left h, Nat.max_eq_right h]
  · rw [Nat.min_eq_right h, Nat.max_eq_left h]; exact List.Perm.swap _ _ _
theorem front_spec : ∀ (r : List (Nat × Nat)) (p : Nat × Nat),
    coP ((front p r).1 :: (front p r).2) ≤ coP (p :: r) ∧ krP ((front p r).1 :: (front p r).2) = krP (p :: r) ∧
    (((front p r).1 :: (front p r).2).map Prod.fst).Perm ((p :: r).map Prod.fst) ∧
    ((front p r).1.1 ≤ p.1 ∧ ∀ q ∈ (front p r).2, (front p r).1.1 ≤ q.1) ∧
    (p.2 ≤ (front p r).1.2 ∧ ∀ q ∈ (front p r).2, q.2 ≤ (front p r).1.2) ∧
    (∀ m, (∀ q ∈ p :: r, q.2 ≤ m) → ∀ q ∈ (front p r).1 :: (front p r).2, q.2 ≤ m) ∧ (front p r).2.length = r.length
  | [], p => by
    refine ⟨Nat.le_refl _, rfl, List.Perm.refl _, ⟨Nat.le_refl _, by simp [front]⟩, ⟨Nat.le_refl _, by simp [front]⟩, fun m h => h, rfl⟩
  | q :: r, p => by
    obtain ⟨h1, h2, h3, h4, h5, h6, h7⟩ := front_spec r (min p.1 q.1, max p.2 q.2)
    obtain ⟨t, ht⟩ : ∃ t, t = front (min p.1 q.1, max p.2 q.2) r := ⟨_, rfl⟩
    rw [← ht] at h1 h2 h3 h4 h5 h6 h7
    rw [front, ← ht]
    simp only at h4 h5 ⊢
    rw [coP_cons, coP_cons] at h1
    rw [krP_cons, krP_cons] at h2
    simp only at h1 h2
    have sw := swap_cost p.1 q.1 p.2 q.2
    refine ⟨?_, ?_, ?_, ⟨by omega, ?_⟩, ⟨by omega, ?_⟩, ?_, by simp [h7]⟩
    · rw [coP_cons, coP_cons, coP_cons, coP_cons]; simp only; omega
    · rw [krP_cons, krP_cons, krP_cons, krP_cons]; simp only
      rcases Nat.le_total p.2 q.2 with k | k
      · rw [Nat.max_eq_right k] at h2; rw [Nat.min_eq_left k]; omega
      · rw [Nat.max_eq_left k] at h2; rw [Nat.min_eq_right k]; omega
    · simp only [List.map_cons] at h3 ⊢
      have s1 : (t.1.1 :: max p.1 q.1 :: t.2.map Prod.fst).Perm (max p.1 q.1 :: t.1.1 :: t.2.map Prod.fst) := List.Perm.swap _ _ _
      have s2 := h3.cons (max p.1 q.1)
      have s3 : (max p.1 q.1 :: min p.1 q.1 :: r.map Prod.fst).Perm (min p.1 q.1 :: max p.1 q.1 :: r.map Prod.fst) := List.Perm.swap _ _ _
      exact s1.trans (s2.trans (s3.trans (minmax_perm _ _ _)))
    · intro z hz
      rcases List.mem_cons.1 hz with rfl | hz
      · simp only; omega
      · exact h4.2 z hz
    · intro z hz
      rcases List.mem_cons.1 hz with rfl | hz
      · simp only; omega
      · exact h5.2 z hz
    · intro m hm z hz
      have hp := hm p (by simp)
      have hq := hm q (by simp)
      have h8 := h6 m (fun y hy => by
        rcases List.mem_cons.1 hy with rfl | hy
        · simp only; omega
        · exact hm y (by simp [hy]))
      rcases List.mem_cons.1 hz with rfl | hz
      · exact h8 _ (by simp)
      · rcases List.mem_cons.1 hz with rfl | hz
        · simp only; omega
        · exact h8 z (by simp [hz])
theorem krP_dvd {m : Nat} : ∀ (d : List (Nat × Nat)), (∀ x ∈ d, x.2 ≤ m) → pw m ∣ krP d
  | [], _ => Nat.dvd_zero _
  | x :: d, h => by
    rw [krP_cons]
    exact Nat.dvd_add (pw_dvd (h x (by simp))) (krP_dvd d fun y hy => h y (by simp [hy]))
/-- the first of a sorted row is the least of whatever row has the same numbers -/
theorem least_eq {a a' : Nat} {r r' : List Nat} (h : (a' :: r').Perm (a :: r)) (h1 : ∀ x ∈ r, a ≤ x) (h2 : ∀ x ∈ r', a' ≤ x) : a' = a ∧ r'.Perm r := by
  have e : a' = a := by
    rcases List.mem_cons.1 (h.mem_iff.1 (by simp : a' ∈ a' :: r')) with e | h3
    · exact e
    · rcases List.mem_cons.1 (h.mem_iff.2 (by simp : a ∈ a :: r)) with e | h4
      · exact e.symm
      · have := h1 _ h3; have := h2 _ h4; omega
  subst e
  exact ⟨rfl, List.Perm.cons_inv h⟩
theorem bestCode : ∀ (f : Nat) (l : List Tr), Forest l → l.length ≤ f + 1 → l.length ≤ 16 → ∀ d : List (Nat × Nat), (d.map Prod.fst).Perm (l.map Prod.fst) → krP d ≤ 32768 → (∀ x ∈ d, x.2 ≤ 15) → costS f l ≤ coP d
  | f, l, hF, hf, h16, d, hd, hk, h15 => by
    by_cases h2 : l.length ≤ 1
    · rw [costS_short h2]; omega
    · obtain ⟨a, b, r, hs, hp, hl⟩ := sort_two (show 2 ≤ l.length by omega)
      obtain ⟨g, rfl⟩ : ∃ g, f = g + 1 := ⟨f - 1, by omega⟩
      have hFp := hF.perm hp.symm
      have hsr : Srt (a :: b :: r) := hs ▸ sortT_srt l hF.kd
      have s1 := List.pairwise_cons.1 hsr
      have s2 := List.pairwise_cons.1 s1.2
      have l1 : ∀ x ∈ b.1 :: r.map Prod.fst, a.1 ≤ x := by
        intro x hx
        rw [← List.map_cons (f := Prod.fst)] at hx
        obtain ⟨y, hy, rfl⟩ := List.mem_map.1 hx
        have := (keyLt_iff _ _).1 (s1.1 y hy); omega
      have l2 : ∀ x ∈ r.map Prod.fst, b.1 ≤ x := by
        intro x hx
        obtain ⟨y, hy, rfl⟩ := List.mem_map.1 hx
        have := (keyLt_iff _ _).1 (s2.1 y hy); omega
      have hd2 : (d.map Prod.fst).Perm (a.1 :: b.1 :: r.map Prod.fst) := hd.trans (hp.map Prod.fst).symm
      have hdl : d.length = r.length + 2 := by have := hd2.length_eq; simpa using this
      match d, hdl, hd2, hk, h15 with
      | p :: q :: rest, hdl, hd2, hk, h15 =>
        obtain ⟨c1, k1, p1, m1, x1, b1, n1⟩ := front_spec (q :: rest) p
        obtain ⟨u, hu⟩ : ∃ u, u = front p (q :: rest) := ⟨_, rfl⟩
        rw [← hu] at c1 k1 p1 m1 x1 b1 n1
        obtain ⟨⟨ua, uL⟩, uR⟩ := u
        simp only at c1 k1 p1 m1 x1 b1 n1
        match uR, n1, c1, k1, p1, m1, x1, b1 with
        | q2 :: rest2, n1, c1, k1, p1, m1, x1, b1 =>
          obtain ⟨c2, k2, p2, m2, x2, b2, n2⟩ := front_spec rest2 q2
          obtain ⟨v, hv⟩ : ∃ v, v = front q2 rest2 := ⟨_, rfl⟩
          rw [← hv] at c2 k2 p2 m2 x2 b2 n2
          obtain ⟨⟨vb, vL⟩, vR⟩ := v
          simp only at c2 k2 p2 m2 x2 b2 n2
          -- the weights are the least ones
          have hpu := (p1.trans hd2)
          simp only [List.map_cons] at hpu
          obtain ⟨eua, hpr⟩ := least_eq hpu l1 (by
            intro x hx
            rw [← List.map_cons (f := Prod.fst)] at hx
            obtain ⟨y, hy, rfl⟩ := List.mem_map.1 hx
            exact m1.2 y hy)
          have hpv := p2.trans (by simpa using hpr)
          simp only [List.map_cons] at hpv
          obtain ⟨evb, hpr2⟩ := least_eq hpv l2 (by
            intro x hx
            obtain ⟨y, hy, rfl⟩ := List.mem_map.1 hx
            exact m2.2 y hy)
          subst eua; subst evb
          -- the room
          have hb15 := b1 15 h15
          have hvL : vL ≤ uL := b2 uL x1.2 (b.1, vL) (by simp)
          have huL : uL ≤ 15 := hb15 (a.1, uL) (by simp)
          rw [krP_cons] at k1
          rw [krP_cons] at k2
          simp only at k1 k2
          have hpu1 := pw_pos uL
          have hdv : pw vL ∣ pw vL + krP vR := Nat.dvd_add (Nat.dvd_refl _) (krP_dvd vR fun z hz => x2.2 z hz)
          have hd15 : pw vL ∣ 32768 := by
            have := pw_dvd (a := 0) (b := vL) (by omega)
            exact this
          have hroom : pw vL + (pw vL + krP vR) ≤ 32768 := by
            obtain ⟨m, hm⟩ := hdv
            obtain ⟨n, hn⟩ := hd15
            have hlt : pw vL * m < pw vL * n := by omega
            have hmn : m < n := Nat.lt_of_mul_lt_mul_left hlt
            have : pw vL * (m + 1) ≤ pw vL * n := Nat.mul_le_mul_left _ hmn
            rw [Nat.mul_add] at this; omega
          have hv1 : 1 ≤ vL := by
            rcases Nat.eq_zero_or_pos vL with e | e
            · subst e
              have : pw 0 = 32768 := rfl
              omega
            · exact e
          have hpw := pw_half (m := vL - 1) (by omega)
          rw [show vL - 1 + 1 = vL from by omega] at hpw
          have hdn : (((a.1 + b.1, vL - 1) :: vR).map Prod.fst).Perm ((r ++ [mgT a b]).map Prod.fst) := by
            rw [List.map_append, List.map_cons, List.map_cons, List.map_nil]
            have h3 : (r.map Prod.fst ++ [(mgT a b).1]).Perm ((mgT a b).1 :: r.map Prod.fst) := List.perm_append_comm
            exact (hpr2.cons _).trans h3.symm
          have ih := bestCode g (r ++ [mgT a b]) hFp.step (by simp; omega) (by simp; omega) _ hdn (by rw [krP_cons]; simp only; omega) (by
            intro z hz
            rcases List.mem_cons.1 hz with rfl | hz
            · simp only; omega
            · have := x2.2 z hz; omega)
          rw [costS, hs]
          rw [coP_cons] at ih c1 c2
          simp only at ih c1 c2 ⊢
          have hle : a.1 * vL ≤ a.1 * uL := Nat.mul_le_mul_left _ hvL
          have e1 : (a.1 + b.1) * vL = a.1 + b.1 + (a.1 + b.1) * (vL - 1) := by
            conv => lhs; rw [show vL = (vL - 1) + 1 from by omega]
            rw [Nat.mul_add]; omega
          rw [Nat.add_mul] at e1
          omega

end Pl
end Go.Proofs.Ytgfkkjcnnecefab

/- Plain mathematics of chapter 3: what Build tells, and that nothing costs less. No program in sight. -/
namespace Go.Proofs.Ytgfkkjcnnecefab
namespace Pl

def cn (c : List Int) (i : Nat) : Nat := (c.getD i 0).toNat
def trOf (c : List Int) (i : Nat) : Option Tr := if 0 < c.getD i 0 then some (cn c i, [i]) else none
/-- the trees of the first so many signs -/
def startF (c : List Int) : Nat → List Tr
  | 0 => []
  | k + 1 => startF c k ++ (trOf c k).toList
theorem startF_pos {c : List Int} {k : Nat} (h : 0 < c.getD k 0) : startF c (k + 1) = startF c k ++ [(cn c k, [k])] := by rw [startF, trOf, if_pos h]; rfl
theorem startF_zero {c : List Int} {k : Nat} (h : ¬ 0 < c.getD k 0) : startF c (k + 1) = startF c k := by rw [startF, trOf, if_neg h]; simp
theorem mem_startF {c : List Int} {t : Tr} : ∀ {k : Nat}, t ∈ startF c k ↔ ∃ i, i < k ∧ 0 < c.getD i 0 ∧ t = (cn c i, [i])
  | 0 => by simp [startF]
  | k + 1 => by
    by_cases h : 0 < c.getD k 0
    · rw [startF_pos h, List.mem_append, mem_startF, List.mem_singleton]
      constructor
      · rintro (⟨i, h1, h2, h3⟩ | h3)
        · exact ⟨i, by omega, h2, h3⟩
        · exact ⟨k, by omega, h, h3⟩
      · rintro ⟨i, h1, h2, h3⟩
        by_cases e : i = k
        · subst e; exact .inr h3
        · exact .inl ⟨i, by omega, h2, h3⟩
    · rw [startF_zero h, mem_startF]
      constructor
      · rintro ⟨i, h1, h2, h3⟩; exact ⟨i, by omega, h2, h3⟩
      · rintro ⟨i, h1, h2, h3⟩
        by_cases e : i = k
        · subst e; exact absurd h2 h
        · exact ⟨i, by omega, h2, h3⟩
theorem startF_len (c : List Int) : ∀ k, (startF c k).length ≤ k
  | 0 => Nat.le_refl _
  | k + 1 => by
    have := startF_len c k
    by_cases h : 0 < c.getD k 0
    · rw [startF_pos h, List.length_append]; simp; omega
    · rw [startF_zero h]; omega
theorem startF_forest (c : List Int) : ∀ k, k ≤ 16 → Forest (startF c k)
  | 0, _ => ⟨by simp [startF], List.Pairwise.nil⟩
  | k + 1, hk => by
    have ih := startF_forest c k (by omega)
    by_cases h : 0 < c.getD k 0
    · rw [startF_pos h]
      refine ⟨fun t ht => ?_, List.pairwise_append.2 ⟨ih.dis, by simp, fun x hx y hy => ?_⟩⟩
      · rcases List.mem_append.1 ht with ht | ht
        · exact ih.vt t ht
        · have : t = (cn c k, [k]) := by simpa using ht
          subst this
          exact ⟨by simp, by simp, fun i hi => by have : i = k := by simpa using hi
                                                  omega⟩
      · have hy : y = (cn c k, [k]) := by simpa using hy
        subst hy
        obtain ⟨i, h1, _, rfl⟩ := mem_startF.1 hx
        intro j hj hj2
        have e1 : j = i := by simpa using hj
        have e2 : j = k := by simpa using hj2
        omega
    · rw [startF_zero h]; exact ih
theorem sum_startF (c : List Int) (g : Tr → Nat) (q : Nat → Nat) (hg : ∀ i, g (cn c i, [i]) = q i) : ∀ k, ((startF c k).map g).sum = sumN (fun j => if 0 < c.getD j 0 then q j else 0) k
  | 0 => rfl
  | k + 1 => by
    rw [sumN, ← sum_startF c g q hg k]
    by_cases h : 0 < c.getD k 0
    · rw [startF_pos h, if_pos h, List.map_append, List.sum_append]; simp [hg]
    · rw [startF_zero h, if_neg h]; rfl

def fulF (c : List Int) : List Tr := startF c 16
def buildE (c : List Int) : Nat := if fineB c = false then 3 else if (fulF c).length = 0 then 5 else 0
def lenAt (c : List Int) (i : Nat) : Nat := if (fulF c).length = 1 then (if 0 < c.getD i 0 then 1 else 0) else build ((fulF c).length - 1) (fulF c) i
def lensOf (c : List Int) : List Int := if buildE c ≠ 0 then List.replicate 16 0 else (List.range 16).map fun i => (lenAt c i : Int)
theorem lensOf_len (c : List Int) : (lensOf c).length = 16 := by unfold lensOf; split <;> simp
theorem lensOf_get {c : List Int} (h : buildE c = 0) {i : Nat} (hi : i < 16) : (lensOf c).getD i 0 = (lenAt c i : Int) := by
  unfold lensOf
  rw [if_neg (by omega), List.getD_eq_getElem?_getD, List.getElem?_map, List.getElem?_range hi]; rfl
theorem fulF_len (c : List Int) : (fulF c).length ≤ 16 := startF_len c 16
theorem buildE_zero {c : List Int} (h : buildE c = 0) : fineB c = true ∧ 1 ≤ (fulF c).length := by
  unfold buildE at h
  cases hf : fineB c with
  | false => rw [hf, if_pos rfl] at h; omega
  | true =>
    rw [hf, if_neg (by simp)] at h
    by_cases h2 : (fulF c).length = 0
    · rw [if_pos h2] at h; omega
    · exact ⟨rfl, by omega⟩
/-- of one sign alone -/
theorem one_alone {c : List Int} (h : (fulF c).length = 1) : ∃ i, i < 16 ∧ ∀ j, j < 16 → (0 < c.getD j 0 ↔ j = i) := by
  match e : fulF c, h with
  | [t], _ =>
    have ht : t ∈ startF c 16 := by show t ∈ fulF c; rw [e]; simp
    obtain ⟨i, h1, h2, h3⟩ := mem_startF.1 ht
    refine ⟨i, h1, fun j hj => ⟨fun hp => ?_, fun e => e ▸ h2⟩⟩
    have hj2 : (cn c j, [j]) ∈ fulF c := mem_startF.2 ⟨j, hj, hp, rfl⟩
    rw [e, List.mem_singleton, h3] at hj2
    have := (Prod.ext_iff.1 hj2).2
    simpa using this
theorem sumPos {g : Nat → Nat} : ∀ {n i : Nat}, i < n → g i ≤ sumN g n
  | 0, _, h => absurd h (by omega)
  | n + 1, i, h => by
    rw [sumN]
    by_cases e : i = n
    · subst e; omega
    · have := sumPos (g := g) (n := n) (i := i) (by omega); omega
theorem sum_map_le {α : Type} (f : α → Nat) : ∀ {l : List α} {x : α}, x ∈ l → f x ≤ (l.map f).sum
  | y :: l, x, h => by
    rw [List.map_cons, List.sum_cons]
    rcases List.mem_cons.1 h with rfl | h
    · omega
    · have := sum_map_le f h; omega
theorem krD_two {d : List (Tr × Nat)} (h : krD d = 32768) (h2 : 2 ≤ d.length) : ∀ x ∈ d, 1 ≤ x.2 := by
  intro x hx
  rcases Nat.eq_zero_or_pos x.2 with e | e
  · exfalso
    obtain ⟨s, t, rfl⟩ := List.append_of_mem hx
    unfold krD at h
    rw [List.map_append, List.map_cons, List.sum_append, List.sum_cons, e] at h
    have h0 : pw 0 = 32768 := rfl
    have hne : ∃ y, y ∈ s ++ t := by
      match s, t, h2 with
      | y :: s, t, _ => exact ⟨y, by simp⟩
      | [], y :: t, _ => exact ⟨y, by simp⟩
      | [], [], h2 => simp at h2
    obtain ⟨y, hy⟩ := hne
    have hp := pw_pos y.2
    rcases List.mem_append.1 hy with hy | hy
    · have := sum_map_le (fun x : Tr × Nat => pw x.2) hy; omega
    · have := sum_map_le (fun x : Tr × Nat => pw x.2) hy; omega
  · exact e
/-- what is built, of two signs at least -/
structure Code2 (c : List Int) : Prop where
  used : ∀ j, j < 16 → 0 < c.getD j 0 → 1 ≤ lenAt c j ∧ lenAt c j ≤ 15
  not : ∀ j, j < 16 → ¬ 0 < c.getD j 0 → lenAt c j = 0
  room : 0 < sumN (fun j => if 0 < c.getD j 0 then pw (lenAt c j) else 0) 16 ∧ sumN (fun j => if 0 < c.getD j 0 then pw (lenAt c j) else 0) 16 ≤ 32768
  least : ∀ r : Nat → Nat, (∀ j, j < 16 → 0 < c.getD j 0 → 1 ≤ r j ∧ r j ≤ 15) → sumN (fun j => if 0 < c.getD j 0 then pw (r j) else 0) 16 ≤ 32768 → sumN (fun j => if 0 < c.getD j 0 then cn c j * lenAt c j else 0) 16 ≤ sumN (fun j => if 0 < c.getD j 0 then cn c j * r j else 0) 16
theorem code2 {c : List Int} (h : buildE c = 0) : Code2 c := by
  obtain ⟨_, h1⟩ := buildE_zero h
  by_cases h2 : (fulF c).length = 1
  · obtain ⟨i, hi, hall⟩ := one_alone h2
    have hl : ∀ j, j < 16 → lenAt c j = if 0 < c.getD j 0 then 1 else 0 := fun j _ => by unfold lenAt; rw [if_pos h2]
    refine ⟨fun j hj hp => ?_, fun j hj hp => ?_, ?_, fun r hr _ => ?_⟩
    · rw [hl j hj, if_pos hp]; omega
    · rw [hl j hj, if_neg hp]
    · rw [sumN_one (i := i) 16 hi (fun j hj hne => by rw [if_neg (fun hp => hne ((hall j hj).1 hp))])]
      have := pw_pos (lenAt c i)
      have := pw_le (lenAt c i)
      rw [if_pos ((hall i hi).2 rfl)]; omega
    · refine sumN_le 16 fun j hj => ?_
      by_cases hp : 0 < c.getD j 0
      · rw [if_pos hp, if_pos hp, hl j hj, if_pos hp]
        exact Nat.mul_le_mul_left _ (hr j hj hp).1
      · rw [if_neg hp, if_neg hp]; exact Nat.le_refl _
  · have hlen := fulF_len c
    have hF : Forest (fulF c) := startF_forest c 16 (Nat.le_refl _)
    have hl : ∀ j, lenAt c j = build ((fulF c).length - 1) (fulF c) j := fun j => by unfold lenAt; rw [if_neg h2]
    obtain ⟨d, e1, e2, e3, e4, e5, e6⟩ := built ((fulF c).length - 1) (fulF c) hF h1 (by omega) hlen
    have hdl : d.length = (fulF c).length := by have := e1.length_eq; simpa using this
    have hd1 := krD_two e4 (by omega)
    have hone : ∀ x ∈ d, x.2 = lenAt c (hd x.1) := by
      intro x hx
      have hx1 : x.1 ∈ startF c 16 := e1.mem_iff.1 (List.mem_map.2 ⟨x, hx, rfl⟩)
      obtain ⟨i, _, _, hxi⟩ := mem_startF.1 hx1
      rw [hl, ← e2 x hx (hd x.1) (by rw [hxi]; simp [hd])]
    have hof : ∀ j, j < 16 → 0 < c.getD j 0 → ∃ x ∈ d, x.2 = lenAt c j := by
      intro j hj hp
      have : (cn c j, [j]) ∈ d.map Prod.fst := e1.mem_iff.2 (mem_startF.2 ⟨j, hj, hp, rfl⟩)
      obtain ⟨x, hx, hxe⟩ := List.mem_map.1 this
      exact ⟨x, hx, by rw [hone x hx, hxe]; rfl⟩
    have hkr : krD d = sumN (fun j => if 0 < c.getD j 0 then pw (lenAt c j) else 0) 16 := by
      rw [← sum_startF c (fun t => pw (lenAt c (hd t))) (fun j => pw (lenAt c j)) (fun i => rfl) 16]
      unfold krD
      have s1 : d.map (fun x => pw x.2) = (d.map Prod.fst).map fun t => pw (lenAt c (hd t)) := by
        rw [List.map_map]
        exact List.map_congr_left fun x hx => by simp only [Function.comp]; rw [← hone x hx]
      rw [s1]
      exact (e1.map _).sum_nat
    have hco : coD d = sumN (fun j => if 0 < c.getD j 0 then cn c j * lenAt c j else 0) 16 := by
      rw [← sum_startF c (fun t => t.1 * lenAt c (hd t)) (fun j => cn c j * lenAt c j) (fun i => rfl) 16]
      unfold coD
      have s1 : d.map (fun x => x.1.1 * x.2) = (d.map Prod.fst).map fun t => t.1 * lenAt c (hd t) := by
        rw [List.map_map]
        exact List.map_congr_left fun x hx => by simp only [Function.comp]; rw [← hone x hx]
      rw [s1]
      exact (e1.map _).sum_nat
    refine ⟨fun j hj hp => ?_, fun j hj hp => ?_, ?_, fun r hr hk => ?_⟩
    · obtain ⟨x, hx, hxe⟩ := hof j hj hp
      have := e5 x hx
      have := hd1 x hx
      omega
    · rw [hl]
      refine e3 j fun t ht => ?_
      obtain ⟨i, _, h2, rfl⟩ := mem_startF.1 ht
      intro hm
      have : j = i := by simpa using hm
      subst this; exact hp h2
    · rw [← hkr, e4]; omega
    · rw [← hco, e6]
      have hP := bestCode ((fulF c).length - 1) (fulF c) hF (by omega) hlen ((fulF c).map fun t => (t.1, r (hd t))) (by rw [List.map_map]; exact List.Perm.refl _) ?_ ?_
      · refine Nat.le_trans hP (Nat.le_of_eq ?_)
        rw [← sum_startF c (fun t => t.1 * r (hd t)) (fun j => cn c j * r j) (fun i => rfl) 16]
        unfold coP
        rw [List.map_map]; rfl
      · refine Nat.le_trans (Nat.le_of_eq ?_) hk
        rw [← sum_startF c (fun t => pw (r (hd t))) (fun j => pw (r j)) (fun i => rfl) 16]
        unfold krP
        rw [List.map_map]; rfl
      · intro x hx
        obtain ⟨t, ht, rfl⟩ := List.mem_map.1 hx
        obtain ⟨i, hi, hp, rfl⟩ := mem_startF.1 ht
        exact (hr i hi hp).2

theorem dot_sum {l c : List Int} (hl : l.length = 16) (hc : c.length = 16) (nl : ∀ x ∈ l, 0 ≤ x) (nc : ∀ x ∈ c, 0 ≤ x) : ∀ k, k ≤ 16 → dotL (l.take k) (c.take k) = ((sumN (fun j => if 0 < c.getD j 0 then cn c j * ln l j else 0) k : Nat) : Int)
  | 0, _ => by simp [dotL, sumN]
  | k + 1, hk => by
    obtain ⟨x, hx⟩ : ∃ x, l[k]? = some x := ⟨_, List.getElem?_eq_getElem (by omega)⟩
    obtain ⟨y, hy⟩ : ∃ y, c[k]? = some y := ⟨_, List.getElem?_eq_getElem (by omega)⟩
    have hx0 := nl x (List.mem_of_getElem? hx)
    have hy0 := nc y (List.mem_of_getElem? hy)
    rw [dot_take hx hy, dot_sum hl hc nl nc k (by omega), sumN, Int.natCast_add]
    congr 1
    unfold cn ln
    rw [List.getD_eq_getElem?_getD, hy, List.getD_eq_getElem?_getD, hx]
    simp only [Option.getD_some]
    by_cases hp : 0 < y
    · rw [if_pos hp, Int.natCast_mul, Int.toNat_of_nonneg hx0, Int.toNat_of_nonneg hy0]
    · rw [if_neg hp]
      have : y = 0 := by omega
      subst this; simp
theorem dot_all {l c : List Int} (hl : l.length = 16) (hc : c.length = 16) (nl : ∀ x ∈ l, 0 ≤ x) (nc : ∀ x ∈ c, 0 ≤ x) : dotL l c = ((sumN (fun j => if 0 < c.getD j 0 then cn c j * ln l j else 0) 16 : Nat) : Int) := by
  have := dot_sum hl hc nl nc 16 (Nat.le_refl _)
  rwa [List.take_of_length_le (by omega), List.take_of_length_le (by omega)] at this
theorem lack_iff {l c : List Int} : ∀ (_hl : l.length = c.length), (lackL l c = false ↔ ∀ j, j < l.length → ¬ (0 < c.getD j 0 ∧ l.getD j 0 = 0)) := by
  induction l generalizing c with
  | nil => intro _; simp [lackL]
  | cons x l ih =>
    intro hl
    cases c with
    | nil => simp at hl
    | cons y c =>
      have hl2 : l.length = c.length := by simpa using hl
      rw [lackL, Bool.or_eq_false_iff, ih hl2, decide_eq_false_iff_not]
      constructor
      · rintro ⟨h1, h2⟩ j hj
        cases j with
        | zero => simpa using h1
        | succ j => simpa using h2 j (by simpa using hj)
      · intro h
        exact ⟨by simpa using h 0 (by simp), fun j hj => by simpa using h (j + 1) (by simpa using hj)⟩
theorem getD_mem {l : List Int} {j : Nat} (h : j < l.length) : l.getD j 0 ∈ l := by rw [List.getD_eq_getElem?_getD, List.getElem?_eq_getElem h]; simp
/-- what Build tells is right -/
theorem lens_right {c : List Int} (h : buildE c = 0) : checkE (lensOf c) = 0 := by
  have hc2 := code2 h
  have hl16 := lensOf_len c
  have hb : ∀ j, j < 16 → lenAt c j ≤ 15 := fun j hj => by
    by_cases hp : 0 < c.getD j 0
    · exact (hc2.used j hj hp).2
    · rw [hc2.not j hj hp]; omega
  have hnn : ∀ x ∈ lensOf c, 0 ≤ x ∧ x ≤ 15 := by
    intro x hx
    obtain ⟨j, hj, rfl⟩ := List.mem_iff_getElem.1 hx
    have e : (lensOf c)[j] = (lensOf c).getD j 0 := by rw [List.getD_eq_getElem?_getD, List.getElem?_eq_getElem hj]; rfl
    have hj2 : j < 16 := by omega
    rw [e, lensOf_get h hj2]
    have := hb j hj2; omega
  have hkr : kr (lensOf c) = sumN (fun j => if 0 < c.getD j 0 then pw (lenAt c j) else 0) 16 := by
    rw [kr_krS hl16 fun x hx => (hnn x hx).1]
    refine sumN_congr 16 fun j hj => ?_
    have e : ln (lensOf c) j = lenAt c j := by unfold ln; rw [lensOf_get h hj]; simp
    rw [e]
    by_cases hp : 0 < c.getD j 0
    · rw [if_pos hp, if_pos (show 0 < lenAt c j from (hc2.used j hj hp).1)]
    · rw [if_neg hp, if_neg (by rw [hc2.not j hj hp]; omega)]
  refine checkE_ok ?_ ?_
  · rw [List.any_eq_false]
    intro x hx
    have := hnn x hx
    simp only [badL, decide_eq_true_eq]; omega
  · rw [hkr]
    have := hc2.room; omega
theorem lens_ln {c : List Int} (h : buildE c = 0) {j : Nat} (hj : j < 16) : ln (lensOf c) j = lenAt c j := by unfold ln; rw [lensOf_get h hj]; simp
theorem lens_has {c : List Int} (hc : c.length = 16) (h : buildE c = 0) : lackL (lensOf c) c = false := by
  have hl16 := lensOf_len c
  rw [lack_iff (by omega)]
  intro j hj
  rw [lensOf_get h (by omega)]
  rintro ⟨h1, h2⟩
  have := ((code2 h).used j (by omega) h1).1
  omega
theorem lens_cost {c : List Int} (hc : c.length = 16) (h : buildE c = 0) : costE (lensOf c) c = 0 := by
  unfold costE
  rw [lens_right h, (buildE_zero h).1, lens_has hc h]; simp
/-- NO RIGHT CODE COSTS LESS -/
theorem lens_best {c r : List Int} (hc : c.length = 16) (hr : r.length = 16) (h : buildE c = 0) (h2 : costE r c = 0) : costN (lensOf c) c ≤ costN r c := by
  have hc2 := code2 h
  have h3 : checkE r = 0 := by
    by_cases e : checkE r = 0
    · exact e
    · have e2 := h2; unfold costE at e2; rw [if_pos e] at e2; exact absurd e2 e
  have hR := right_of hr h3
  have hfine := (buildE_zero h).1
  have hlk : lackL r c = false := by
    have e2 := h2
    unfold costE at e2
    rw [h3, hfine] at e2
    cases e : lackL r c with
    | false => rfl
    | true => rw [e] at e2; simp at e2
  have hnc : ∀ x ∈ c, 0 ≤ x := fun x hx => (fine_all hfine x hx).1
  have hL := right_of (lensOf_len c) (lens_right h)
  have e1 : costN (lensOf c) c = dotL (lensOf c) c := by unfold costN; rw [lens_right h, hfine, lens_has hc h]; simp
  have e2 : costN r c = dotL r c := by unfold costN; rw [h3, hfine, hlk]; simp
  rw [e1, e2, dot_all (lensOf_len c) hc hL.nn hnc, dot_all hr hc hR.nn hnc]
  have e3 : sumN (fun j => if 0 < c.getD j 0 then cn c j * ln (lensOf c) j else 0) 16 = sumN (fun j => if 0 < c.getD j 0 then cn c j * lenAt c j else 0) 16 := sumN_congr 16 fun j hj => by rw [lens_ln h hj]
  rw [e3]
  have hrl : ∀ j, j < 16 → 0 < c.getD j 0 → 1 ≤ ln r j := fun j hj hp => by
    have := (lack_iff (by omega)).1 hlk j (by omega)
    have h0 := hR.nn _ (getD_mem (l := r) (j := j) (by omega))
    unfold ln
    rcases Int.lt_or_le 0 (r.getD j 0) with h | h
    · omega
    · exact absurd ⟨hp, by omega⟩ this
  have := hc2.least (ln r) (fun j hj hp => ⟨hrl j hj hp, hR.one j⟩) (Nat.le_trans (sumN_le 16 fun j hj => ?_) hR.sum)
  · omega
  · by_cases hp : 0 < c.getD j 0
    · rw [if_pos hp, if_pos (show 0 < ln r j from hrl j hj hp)]; exact Nat.le_refl _
    · rw [if_neg hp]; omega

end Pl
end Go.Proofs.Ytgfkkjcnnecefab

/- The program's row of trees in memory, wherever it begins in its block, and the signs of each tree. -/
namespace Go.Proofs.Ytgfkkjcnnecefab
open Go.RowKit Go.Lib Pl Go.Sort

/-- a tree of the program: its weight, its signs and where these lie -/
structure El where
  w : Nat
  g : Nat
  cap : Nat
  s : List Nat
instance : Inhabited El := ⟨⟨0, 0, 0, []⟩⟩
def El.tr (e : El) : Tr := (e.w, e.s)
abbrev SgV (e : El) : Value := .slice (some ⟨e.g, 0, none⟩) e.s.length e.cap
def elCells (e : El) : List Value := [I (e.w : Int), SgV e]
theorem elCells_len (e : El) : (elCells e).length = 2 := rfl
def natI (i : Nat) : Value := I (i : Int)
def SgOK (w : World) (base : Nat) (e : El) : Prop := w.ownsRow base 3 1 (SgV e) e.s.length (e.s.map natI)
theorem elsLen (l : List El) : (l.flatMap elCells).length = l.length * 2 := by
  induction l with
  | nil => rfl
  | cons x l ih => simp [elCells] at ih ⊢; omega
theorem els_get : ∀ (l : List El) (i : Nat) (x : El), l[i]? = some x → (l.flatMap elCells)[i * 2]? = some (I (x.w : Int)) ∧ (l.flatMap elCells)[i * 2 + 1]? = some (SgV x)
  | [], i, x, h => by simp at h
  | u :: l, 0, x, h => by simp at h; subst h; simp [elCells]
  | u :: l, i + 1, x, h => by
    have h' : l[i]? = some x := by simpa using h
    obtain ⟨a, b⟩ := els_get l i x h'
    have e : (u :: l).flatMap elCells = elCells u ++ l.flatMap elCells := by simp
    have hl : (elCells u).length = 2 := rfl
    rw [e]
    refine ⟨?_, ?_⟩
    · rw [List.getElem?_append_right (by omega), hl, show (i + 1) * 2 - 2 = i * 2 from by omega]; exact a
    · rw [List.getElem?_append_right (by omega), hl, show (i + 1) * 2 + 1 - 2 = i * 2 + 1 from by omega]; exact b

/-- a row of trees that begins at a place of its block -/
def QAt (w : World) (base g off cap : Nat) (l : List El) : Prop :=
  base ≤ g ∧ ∃ cur, w.heap[g]? = some (.cells cur 50 (0, 0)) ∧ l.length ≤ cap ∧ cap ≤ maxLen ∧ off + cap * 2 ≤ cur.size ∧ (cur.toList.drop off).take (l.length * 2) = l.flatMap elCells

theorem QAt.kept {w w' : World} {base g off cap : Nat} {l : List El} (h : QAt w base g off cap l) (hg : w'.heap[g]? = w.heap[g]?) : QAt w' base g off cap l := by
  obtain ⟨hb, cur, h1, h2⟩ := h
  exact ⟨hb, cur, hg.trans h1, h2⟩
theorem QAt.lt {w : World} {base g off cap : Nat} {l : List El} (h : QAt w base g off cap l) : g < w.heap.size := by
  obtain ⟨hb, cur, h1, h2⟩ := h
  exact (Array.getElem?_eq_some_iff.1 h1).1
theorem QAt.of_own {w : World} {base g n cap : Nat} {l : List El} (h : w.ownsRow base 50 2 (.slice (some ⟨g, 0, none⟩) n cap) n (l.flatMap elCells)) : QAt w base g 0 cap l ∧ l.length = n := by
  have hl : l.length = n := by have := h.1; rw [elsLen] at this; omega
  rcases h.2 with ⟨hv, _⟩ | ⟨g', cap', cur, hv, hb, hg, hn, hc, hs, ht⟩
  · cases hv
  · injection hv with ha _ hcap
    injection ha with ha
    injection ha with ha
    subst ha
    subst hcap
    exact ⟨⟨hb, cur, hg, by omega, hc, by omega, by rw [List.drop_zero, hl]; exact ht⟩, hl⟩
theorem QAt.row {w : World} {base g off cap : Nat} {l : List El} (h : QAt w base g off cap l) {j : Nat} {u : Value} (hu : (l.flatMap elCells)[j]? = some u) : w.cell? ⟨g, off + j, none⟩ = some u ∧ w.frozen? ⟨g, off + j, none⟩ = false := by
  obtain ⟨hb, cur, h1, h2, h3, h4, h5⟩ := h
  refine ⟨?_, by simp [World.frozen?, h1]⟩
  rw [cell_of_row w g (off + j) cur _ _ h1]
  rw [← h5, List.getElem?_take] at hu
  split at hu
  · rw [List.getElem?_drop] at hu; simpa using hu
  · cases hu
theorem QAt.get {w : World} {base g off cap : Nat} {l : List El} (h : QAt w base g off cap l) {k : Nat} {x : El} (hx : l[k]? = some x) : w.cell? ⟨g, off + k * 2, none⟩ = some (I (x.w : Int)) ∧ w.cell? ⟨g, off + (k * 2 + 1), none⟩ = some (SgV x) := by
  obtain ⟨h1, h2⟩ := els_get l k x hx
  exact ⟨(h.row h1).1, (h.row h2).1⟩
theorem QAt.cut {w : World} {base g off cap : Nat} {a b : El} {l : List El} (h : QAt w base g off cap (a :: b :: l)) : QAt w base g (off + 4) (cap - 2) l ∧ 2 ≤ cap := by
  obtain ⟨hb, cur, h1, h2, h3, h4, h5⟩ := h
  simp only [List.length_cons] at h2 h5
  refine ⟨⟨hb, cur, h1, by omega, by omega, by omega, ?_⟩, by omega⟩
  have e := congrArg (List.drop 4) h5
  rw [List.drop_take, List.drop_drop] at e
  have e2 : (a :: b :: l).flatMap elCells = [I (a.w : Int), SgV a, I (b.w : Int), SgV b] ++ l.flatMap elCells := by simp [elCells]
  rw [e2] at e
  have e3 : (l.length + 1 + 1) * 2 - 4 = l.length * 2 := by omega
  rw [e3] at e
  rw [e]
  rfl
theorem QAt.holdsK {w : World} {base g off cap : Nat} {l : List El} (h : QAt w base g off cap l) {α : Type} [Inhabited α] (enc : α → List Value) (d : Array α) (hd : (Go.Sort.flatK enc 2 d).toList = l.flatMap elCells) : Go.Sort.HoldsK enc 2 w g off d := by
  intro j hj
  have hu : (l.flatMap elCells)[j]? = some (Go.Sort.flatK enc 2 d)[j]! := by
    rw [← hd, Array.getElem?_toList, Array.getElem?_eq_getElem hj, getElem!_pos _ j hj]
  exact h.row hu

/-- what the library's sort leaves -/
theorem QAt.sorted {w : World} {base g off cap m : Nat} {l l' : List El} {os : Array Obj} (h : QAt w base g off cap l) {α : Type} [Inhabited α] (enc : α → List Value) (d : Array α) (hd : (Go.Sort.flatK enc 2 d).toList = l'.flatMap elCells) (hp : l'.length = l.length) :
    QAt (Go.Proofs.sortWorldK enc 2 w g off m d os) base g off cap l' ∧ w.grownBy (Go.Proofs.sortWorldK enc 2 w g off m d os) (some g) := by
  have hgl := h.lt
  obtain ⟨hb, cur, h1, h2, h3, h4, h5⟩ := h
  have hsz : (Go.Sort.flatK enc 2 d).size = l.length * 2 := by
    rw [← Array.length_toList, hd, elsLen, hp]
  have hcur : off + l.length * 2 ≤ cur.size := by omega
  have hh : (Go.Proofs.sortWorldK enc 2 w g off m d os).heap[g]? = some (.cells (Go.Sort.putCells id off (Go.Sort.flatK enc 2 d) cur) 50 (0, 0)) := by
    unfold Go.Proofs.sortWorldK Go.Sort.putRowK Go.Sort.putRow
    have hg2 : (Go.Sort.ahead w m).heap[g]? = some (.cells cur 50 (0, 0)) := h1
    rw [heap_grow_old _ _ (by show g < (mapBlock _ _ _).heap.size; unfold mapBlock; simpa using hgl)]
    unfold mapBlock
    simp only [Array.getElem?_modify]
    rw [if_pos trivial, hg2]
    rfl
  refine ⟨⟨hb, _, hh, by omega, h3, ?_, ?_⟩, rfl, rfl, rfl, ?_, fun i hi hne => ?_⟩
  · unfold putCells; simpa using h4
  · rw [hp, ← hd]
    apply List.ext_getElem?
    intro t
    rw [List.getElem?_take]
    by_cases htn : t < l.length * 2
    · rw [if_pos htn, List.getElem?_drop, Array.getElem?_toList, Array.getElem?_toList]
      unfold putCells
      rw [Array.getElem?_mapIdx, Array.getElem?_eq_getElem (by omega)]
      simp only [Option.map_some]
      rw [if_pos (by omega), show off + t - off = t from by omega, Array.getElem?_eq_getElem (by omega), getElem!_pos _ t (by omega)]
      rfl
    · rw [if_neg htn, List.getElem?_eq_none (by rw [Array.length_toList, hsz]; omega)]
  · unfold sortWorldK putRowK putRow mapBlock; simp [Sort.ahead]
  · unfold sortWorldK putRowK putRow
    rw [heap_grow_old _ _ (by show i < (mapBlock _ _ _).heap.size; unfold mapBlock; simp [Sort.ahead]; omega)]
    unfold mapBlock
    simp only [Array.getElem?_modify]
    rw [if_neg (by intro e; exact hne (by rw [e]))]
    rfl

theorem info_tree : (Try.prog.info? 50).map (fun i => (i.zero, i.size, i.bytes)) = some (some (.agg #[.int .i64 0, .slice none 0 0]), 2, 32) := by kernel_rfl

/-- append(l, tree{..}) where l may begin anywhere in its block -/
theorem run_append_Q {w : World} {base g off cap : Nat} {l : List El} (ty : TypeId) (hq : QAt w base g off cap l) (x : El) (a : Addr) (c : Nat) (hx : ∀ j u, (elCells x)[j]? = some u → w.cell? (a.add j) = some u) (hn : l.length ≤ 1000) (hbase : base ≤ w.heap.size) :
    ∃ g' off' cap' w', (Builtin.append_ #[47, 47] ty #[.slice (some ⟨g, off, none⟩) l.length cap, .slice (some a) 1 c]).run Try.prog w = .ok (.slice (some ⟨g', off', none⟩) (l.length + 1) cap') w' ∧
      QAt w' base g' off' cap' (l ++ [x]) ∧ w.grownBy w' (some g) ∧ (g' = g ∨ g' = w.heap.size) := by
  obtain ⟨i0, hi, hz0, hz1, hz2⟩ := info_parts info_tree
  have ht := Try.underlying47
  have hgl := hq.lt
  have hq0 := hq
  obtain ⟨hb, cur, h1, h2, h3, h4, h5⟩ := hq
  have hlen : ((l ++ [x]).flatMap elCells).length = (l.length + 1) * 2 := by rw [elsLen]; simp
  have h1c : ∀ u ∈ elCells x, u.oneCell' = true := by
    intro u hu
    simp [elCells] at hu
    rcases hu with rfl | rfl <;> rfl
  by_cases hroom : l.length + 1 ≤ cap
  · have hf := run_firstCells_some (P := Try.prog) w i0.size 1 a 1 c (elCells x) (by rw [hz1]; rfl) hx
    have hst := run_storeCells_at Try.prog g (off + l.length * 2) 50 (elCells x) 0 cur w h1 (by simp [elCells]; omega) h1c
    simp only [Nat.add_zero] at hst
    refine ⟨g, off, cap, w.setRow g (cur.toList.take (off + l.length * 2) ++ elCells x ++ cur.toList.drop (off + l.length * 2 + (elCells x).length)).toArray, ?_, ⟨hb, _, setRow_heap w g cur _ _ _ h1, by simp; omega, h3, ?_, ?_⟩, ⟨rfl, rfl, rfl, by simp, fun k _ hk => setRow_other w g k _ (fun e => hk (by simp [e]))⟩, .inl rfl⟩
    · rw [hz1] at hf
      simp [Builtin.append_, run_underlying ht, sizeOf, typeInfo, hi, hz1, Builtin.lenOf, hroom, hf, Addr.add_lit, hst]
    · simp only [List.size_toArray, List.length_append, List.length_take, List.length_drop, Array.length_toList]
      simp [elCells]; omega
    · simp only [List.toList_toArray]
      have e1 : (cur.toList.take (off + l.length * 2) ++ elCells x ++ cur.toList.drop (off + l.length * 2 + (elCells x).length)).drop off = l.flatMap elCells ++ elCells x ++ cur.toList.drop (off + l.length * 2 + (elCells x).length) := by
        have e0 : (cur.toList.take (off + l.length * 2)).drop off = l.flatMap elCells := by
          rw [List.drop_take, ← h5, show off + l.length * 2 - off = l.length * 2 from by omega]
        rw [List.append_assoc, List.drop_append_of_le_length (by simp; omega), e0, List.append_assoc]
      rw [e1, List.flatMap_append, List.take_append_of_le_length (by simp only [List.length_append, elsLen]; simp [elCells]; try omega)]
      rw [List.take_of_length_le (by simp only [List.length_append, elsLen]; simp [elCells]; try omega)]
      simp
  · have hfit := growslice_fits (need := l.length + 1) (old := cap) (bytes := 32) (by omega) (by omega)
    have hr := run_append_grow (P := Try.prog) w 47 ty 50 i0 _ ht hi hz0 ⟨g, off, none⟩ l.length cap (l.flatMap elCells) (by rw [elsLen, hz1]) (fun j u hu => by rw [Addr.add_lit]; exact (hq0.row hu).1) a 1 c (elCells x) (by rw [hz1]; rfl) hx (by omega) (by omega) (by rw [hz2]; exact hfit)
    have hge := grownCap_ge w (l.length + 1) cap 50
    refine ⟨w.heap.size, 0, grownCap w (l.length + 1) cap 50, _, hr, ⟨hbase, _, heap_alloc_new w.drew _, by simpa using hge, grownCap_le_maxLen w _ _ _ (by unfold maxLen; omega), ?_, ?_⟩, ⟨rfl, rfl, rfl, by simp, fun k hk _ => Below.heap_alloc w.drew _ k hk⟩, .inr rfl⟩
    · have hz : (Value.agg #[Value.int IntKind.i64 0, Value.slice none 0 0]).cells.size = 2 := rfl
      simp only [Array.size_append, List.size_toArray, size_zeroCells, elsLen, hz]
      have : (elCells x).length = 2 := rfl
      have h9 : (grownCap w (l.length + 1) cap 50 - (l.length + 1)) * 2 + (l.length + 1) * 2 = grownCap w (l.length + 1) cap 50 * 2 := by omega
      omega
    · simp only [Array.toList_append, List.drop_zero, List.toList_toArray]
      rw [List.flatMap_append, List.take_append_of_le_length (by simp only [List.length_append, elsLen]; simp [elCells]; try omega)]
      rw [List.take_of_length_le (by simp only [List.length_append, elsLen]; simp [elCells]; try omega)]
      simp

/-- .. for the walk -/
theorem wpList_push_Q {w : World} {ops : Array Oper} {rest : List Oper} {o : Oper} {a : Act} {Q : Exit → Act → World → Prop} (hgd : o.guard = none) (s x : Operand)
    (ho : o.op = .call { callee := .builtin .append, args := #[s, x], argTypes := #[47, 47] })
    (base g off cap n : Nat) (l : List El) (hln : l.length = n) (hs : a.eval s = .slice (some ⟨g, off, none⟩) n cap) (hq : QAt w base g off cap l) (e : El)
    (H : Nat) (hH : w.heap.size = H) (hx : a.eval x = .slice (some ⟨H, 0, none⟩) 1 1)
    (hn : n ≤ 1000) (hbase : base ≤ w.heap.size)
    (h : ∀ g' off' cap' w', QAt w' base g' off' cap' (l ++ [e]) → (w.alloc (.cells #[I (e.w : Int), SgV e] 50)).grownBy w' (some g) → (g' = g ∨ g' = H + 1) → wpList Try.prog ops Q rest (a.put o.dst (.slice (some ⟨g', off', none⟩) (n + 1) cap')) w') :
    wpList Try.prog ops Q (o :: rest) a (w.alloc (.cells #[I (e.w : Int), SgV e] 50)) := by
  subst hH
  subst hln
  refine wpList_plain hgd fun K hK => ?_
  obtain ⟨g', off', cap', w', hr, h2, h3, h4⟩ := run_append_Q (w := w.alloc (.cells #[I (e.w : Int), SgV e] 50)) o.type (hq.kept (Below.heap_alloc w _ g hq.lt)) e ⟨w.heap.size, 0, none⟩ 1 (cells2_new _ _ _ _) hn (by simp; omega)
  unfold Oper.wp execOp
  simp only [ho, resolve, invoke, builtin, Sem.run_bind, Sem.run_pure, Result.andThen_ok, List.map_toArray, List.map_cons, List.map_nil, hs, hx, hr]
  refine hK _ _ (h _ _ _ _ h2 h3 ?_)
  rcases h4 with h4 | h4
  · exact .inl h4
  · right; simpa using h4

/-- .. at a step of a region that draws its order -/
theorem step_push_Q {w : World} {ops : Array Oper} {o : Oper} {a : Act} {K : Act → World → Prop} {Q : Exit → Act → World → Prop} {E : Prop} (hgd : o.guard = none) (s x : Operand)
    (ho : o.op = .call { callee := .builtin .append, args := #[s, x], argTypes := #[47, 47] })
    (base g off cap n : Nat) (l : List El) (hln : l.length = n) (hs : a.eval s = .slice (some ⟨g, off, none⟩) n cap) (hq : QAt w base g off cap l) (e : El)
    (H : Nat) (hx : a.eval x = .slice (some ⟨H, 0, none⟩) 1 1) (c0 : w.cell? ⟨H, 0, none⟩ = some (I (e.w : Int))) (c1 : w.cell? ⟨H, 1, none⟩ = some (SgV e))
    (hn : n ≤ 1000) (hbase : base ≤ w.heap.size)
    (h : ∀ g' off' cap' w', QAt w' base g' off' cap' (l ++ [e]) → w.grownBy w' (some g) → (g' = g ∨ g' = w.heap.size) → K (a.put o.dst (.slice (some ⟨g', off', none⟩) (n + 1) cap')) w') :
    if Region.wanted o (yielded ops a.tmps) = true then Oper.wp Try.prog o a w K Q else E := by
  have hw : Region.wanted o (yielded ops a.tmps) = true := by simp [Region.wanted, hgd]
  rw [if_pos hw]
  subst hln
  obtain ⟨g', off', cap', w', hr, h2, h3, h4⟩ := run_append_Q (w := w) o.type hq e ⟨H, 0, none⟩ 1 (by
    intro j u hu
    match j, hu with
    | 0, hu => simp [elCells] at hu; subst hu; rw [Addr.add_lit]; exact c0
    | 1, hu => simp [elCells] at hu; subst hu; rw [Addr.add_lit]; exact c1
    | j + 2, hu => simp [elCells] at hu) hn hbase
  unfold Oper.wp execOp
  simp only [ho, resolve, invoke, builtin, Sem.run_bind, Sem.run_pure, Result.andThen_ok, List.map_toArray, List.map_cons, List.map_nil, hs, hx, hr]
  exact h _ _ _ _ h2 h3 h4

end Go.Proofs.Ytgfkkjcnnecefab

/- The library's sort at trees, by the program's own order. -/
namespace Go.Proofs.Ytgfkkjcnnecefab
open Go.RowKit Go.Lib Pl Go.Sort

/-- what order reads -/
structure OrdAt (W : World) (B : Nat) (wx wy hx hy : Int) (gx cx nx gy cy ny : Nat) : Prop where
  a : W.cell? ⟨B, 0, none⟩ = some (I wx)
  b : W.cell? ⟨B, 1, none⟩ = some (.slice (some ⟨gx, 0, none⟩) nx cx)
  c : W.cell? ⟨B + 1, 0, none⟩ = some (I wy)
  d : W.cell? ⟨B + 1, 1, none⟩ = some (.slice (some ⟨gy, 0, none⟩) ny cy)
  e : W.cell? ⟨gx, 0, none⟩ = some (.int .i64 hx)
  f : W.cell? ⟨gy, 0, none⟩ = some (.int .i64 hy)
section
variable {W : World} {B : Nat} {wx wy hx hy : Int} {gx cx nx gy cy ny : Nat}
theorem OrdAt.drew (h : OrdAt W B wx wy hx hy gx cx nx gy cy ny) : OrdAt W.drew B wx wy hx hy gx cx nx gy cy ny := ⟨h.a, h.b, h.c, h.d, h.e, h.f⟩
theorem cell_alloc {p : Addr} {v : Value} (o : Obj) (h : W.cell? p = some v) : (W.alloc o).cell? p = some v := (((Below.refl W.heap.size W).alloc (Nat.le_refl _) o).cell (block_lt_of_cell h)).trans h
theorem OrdAt.alloc (h : OrdAt W B wx wy hx hy gx cx nx gy cy ny) (o : Obj) : OrdAt (W.alloc o) B wx wy hx hy gx cx nx gy cy ny := ⟨cell_alloc o h.a, cell_alloc o h.b, cell_alloc o h.c, cell_alloc o h.d, cell_alloc o h.e, cell_alloc o h.f⟩
end

set_option maxHeartbeats 2000000 in
set_option maxRecDepth 100000 in
theorem order_raw (wx wy hx hy : Int) (gx cx nx gy cy ny : Nat) (w : World) (h1 : w.cell? ⟨gx, 0, none⟩ = some (.int .i64 hx)) (h2 : w.cell? ⟨gy, 0, none⟩ = some (.int .i64 hy)) (p1 : 0 < nx) (p2 : 0 < ny) :
    Calls Try.prog 19 #[.agg #[I wx, .slice (some ⟨gx, 0, none⟩) nx cx], .agg #[I wy, .slice (some ⟨gy, 0, none⟩) ny cy]] w fun e w' => e = .returned (.int .i64 (orI (Lib.compareInt wx wy) (Lib.compareInt hx hy))) ∧ ∃ q os', w' = grow (w.drewN q) os' := by
  obtain ⟨c1, hc1⟩ : ∃ c, c = Lib.compareInt wx wy := ⟨_, rfl⟩
  obtain ⟨c2, hc2⟩ : ∃ c, c = Lib.compareInt hx hy := ⟨_, rfl⟩
  have K1 := fun (W : World) => Try.cmp_Compare_int wx wy W
  have K2 := fun (W : World) => Try.cmp_Compare_int hx hy W
  rw [← hc1, ← hc2]
  rw [← hc1] at K1
  rw [← hc2] at K2
  have K1 := hide K1
  have K2 := hide K2
  have K3 := hide (fun (g : Nat) (W : World) => cmpOr2_any g c1 c2 W)
  clear hc1 hc2
  obtain ⟨B, hB⟩ : ∃ B, B = w.heap.size := ⟨_, rfl⟩
  obtain ⟨w0, hw0⟩ : ∃ w0, w0 = (w.alloc (.cells #[I wx, .slice (some ⟨gx, 0, none⟩) nx cx] 50)).alloc (.cells #[I wy, .slice (some ⟨gy, 0, none⟩) ny cy] 50) := ⟨_, rfl⟩
  have h0 : OrdAt w0 B wx wy hx hy gx cx nx gy cy ny := by
    have e1 : (w.alloc (.cells #[I wx, .slice (some ⟨gx, 0, none⟩) nx cx] 50)).heap.size = w.heap.size + 1 := by simp
    rw [hw0, hB]
    refine ⟨cell_alloc _ (World.cell?_alloc_new _ _ _ _), cell_alloc _ (World.cell?_alloc_new _ _ _ _), ?_, ?_, cell_alloc _ (cell_alloc _ h1), cell_alloc _ (cell_alloc _ h2)⟩
    · rw [← e1]; exact World.cell?_alloc_new _ _ _ _
    · rw [← e1]; exact World.cell?_alloc_new _ _ _ _
  have hs0 : w0.heap.size = B + 2 := by rw [hw0, hB]; simp
  have H0 := hide h0
  have HS0 := hide hs0
  have HB := hide hB
  have HW0 := hide hw0
  clear h0 h1 h2 hs0 hB
  obtain ⟨r1, r2, r3, r4, r5, r6⟩ : (∀ W : World, OrdAt W B wx wy hx hy gx cx nx gy cy ny → W.cell? ⟨B, 0, none⟩ = some (I wx)) ∧ (∀ W : World, OrdAt W B wx wy hx hy gx cx nx gy cy ny → W.cell? ⟨B, 1, none⟩ = some (.slice (some ⟨gx, 0, none⟩) nx cx)) ∧ (∀ W : World, OrdAt W B wx wy hx hy gx cx nx gy cy ny → W.cell? ⟨B + 1, 0, none⟩ = some (I wy)) ∧ (∀ W : World, OrdAt W B wx wy hx hy gx cx nx gy cy ny → W.cell? ⟨B + 1, 1, none⟩ = some (.slice (some ⟨gy, 0, none⟩) ny cy)) ∧ (∀ W : World, OrdAt W B wx wy hx hy gx cx nx gy cy ny → W.cell? ⟨gx, 0, none⟩ = some (.int .i64 hx)) ∧ (∀ W : World, OrdAt W B wx wy hx hy gx cx nx gy cy ny → W.cell? ⟨gy, 0, none⟩ = some (.int .i64 hy)) := ⟨fun _ h => h.a, fun _ h => h.b, fun _ h => h.c, fun _ h => h.d, fun _ h => h.e, fun _ h => h.f⟩
  go_enter Try.func19, Try.ntmps19
  go_upto_region 1 with fail
  rw [← hw0, ← unhide HB]
  clear hw0
  go_region_held3 (fun w' => OrdAt w' B wx wy hx hy gx cx nx gy cy ny) (first | exact (unhide H0).drew | assumption | exact OrdAt.drew (by assumption) | exact OrdAt.alloc (by assumption) _ | exact (OrdAt.alloc (by assumption) _).drew)
    ((first
      | (go_at_call 28; (with_reducible refine (unhide K1 _).mono ?_); rintro e w1 ⟨rfl, rfl⟩)
      | (go_at_call 28; (with_reducible refine (unhide K2 _).mono ?_); rintro e w1 ⟨rfl, rfl⟩)
      | (go_at_call 33; refine (unhide K3 _ _ (by exact (cell_new_at 0 (by simp)).trans rfl) (by exact (cell_new_at 1 (by simp)).trans rfl)).mono ?_; rintro e w1 ⟨rfl, rfl⟩)))
  all_goals
    go_wp2_with fail
    go_ret
    refine ⟨rfl, 1, #[.cells #[I wx, .slice (some ⟨gx, 0, none⟩) nx cx] 50, .cells #[I wy, .slice (some ⟨gy, 0, none⟩) ny cy] 50, .cells #[.int .i64 c1, .int .i64 c2] 3], ?_⟩
    rw [unhide HW0, alloc_eq_grow, alloc_eq_grow, alloc_eq_grow, grow_grow, grow_grow]
    rfl

def cmpE (x y : El) : Int := orI (Lib.compareInt x.w y.w) (Lib.compareInt (hd x.tr : Nat) (hd y.tr : Nat))
theorem cmpE_lt (x y : El) : decide (cmpE x y < 0) = keyLt x.tr y.tr := by
  have hk := keyLt_iff x.tr y.tr
  have e1 : x.tr.1 = x.w := rfl
  have e2 : y.tr.1 = y.w := rfl
  rw [e1, e2] at hk
  unfold cmpE orI Lib.compareInt
  rw [Bool.eq_iff_iff, decide_eq_true_eq, hk]
  repeat' split
  all_goals omega
theorem SgOK.head {w : World} {base : Nat} {e : El} (h : SgOK w base e) (hv : VT e.tr) : w.cell? ⟨e.g, 0, none⟩ = some (I (hd e.tr : Int)) ∧ 0 < e.s.length := by
  have hne : e.s ≠ [] := hv.ne
  have hp : 0 < e.s.length := List.length_pos_iff.2 hne
  refine ⟨?_, hp⟩
  have := h.cells (g := e.g) rfl 0 (natI (hd e.tr)) (by
    show (e.s.map natI)[0]? = _
    cases hs : e.s with
    | nil => exact absurd hs hne
    | cons a r => unfold hd El.tr; rw [hs]; rfl)
  rwa [Addr.add_lit] at this
theorem SgOK.kept {w w' : World} {base : Nat} {e : El} (h : SgOK w base e) (hg : w'.heap[e.g]? = w.heap[e.g]?) : SgOK w' base e := by
  refine ⟨h.1, ?_⟩
  rcases h.2 with ⟨hv, _⟩ | ⟨g', cap', cur, hv, hb, hg', rest⟩
  · cases hv
  · refine .inr ⟨g', cap', cur, hv, hb, ?_, rest⟩
    injection hv with ha
    injection ha with ha
    injection ha with ha
    rw [← ha] at hg' ⊢
    exact hg.trans hg'
theorem SgOK.ne {w : World} {base base' g off cap : Nat} {e : El} {l : List El} (h : SgOK w base e) (hq : QAt w base' g off cap l) : e.g ≠ g := by
  intro heq
  rcases h.2 with ⟨hv, _⟩ | ⟨g', cap', cur, hv, hb, hg', rest⟩
  · cases hv
  · injection hv with ha
    injection ha with ha
    injection ha with ha
    obtain ⟨_, cur2, h2, _⟩ := hq
    rw [← ha, heq, h2] at hg'
    injection hg' with hg'
    injection hg' with _ hg'
    exact absurd hg' (by decide)
theorem SgOK.lt {w : World} {base : Nat} {e : El} (h : SgOK w base e) : base ≤ e.g ∧ e.g < w.heap.size := World.ownsRow.lt h e.g rfl

theorem sortTree_any {w : World} {base g off cap : Nat} {l : List El} (hq : QAt w base g off cap l) (hs : ∀ e ∈ l, SgOK w base e) (hf : Forest (l.map El.tr)) (hn : l.length ≤ 1000) (h0 : 0 < l.length) :
    Calls Try.prog 18 #[.slice (some ⟨g, off, none⟩) l.length cap, .func (.func 19) #[] #[]] w fun e w' =>
      e = .returned (.tuple #[]) ∧ ∃ l', l'.Perm l ∧ Srt (l'.map El.tr) ∧ QAt w' base g off cap l' ∧ w.grownBy w' (some g) := by
  obtain ⟨n, hnl⟩ : ∃ n, n = l.length := ⟨_, rfl⟩
  have h0' : 0 < n := by omega
  haveI : Inhabited (Fin n) := ⟨⟨0, h0'⟩⟩
  obtain ⟨el, hel⟩ : ∃ el : Fin n → El, el = fun i => l[i.val]'(by have := i.isLt; omega) := ⟨_, rfl⟩
  have hmem : ∀ i, el i ∈ l := fun i => by rw [hel]; exact List.getElem_mem _
  have hmap : (List.finRange n).map el = l := by
    apply List.ext_getElem
    · simp [hnl]
    · intro i h1 h2
      simp [hel]
  have hfl : ∀ d : List (Fin n), (Go.Sort.flatK (fun i => elCells (el i)) 2 d.toArray).toList = (d.map el).flatMap elCells := fun d => by
    rw [flatK_list (fun i => elCells (el i)) 2 (fun _ => rfl) (by omega), List.flatMap_map]
  obtain ⟨d, hd⟩ : ∃ d, d = (List.finRange n).toArray := ⟨_, rfl⟩
  have hdn : d.size = n := by rw [hd]; simp
  have hH : Go.Sort.HoldsK (fun i => elCells (el i)) 2 w g off d := hq.holdsK _ _ (by rw [hd, hfl, hmap])
  have eg : ∀ args w, (callFunc 19 args).run Try.prog w = .ok (.enter 19 args) w := enters_of Try.func19 (by kernel_rfl) rfl
  have hvt : ∀ i, VT (el i).tr := fun i => hf.vt _ (List.mem_map_of_mem (hmem i))
  have hcmp : Go.Proofs.CmpLays Try.prog 19 #[] (fun i => elCells (el i)) 2 (fun i j => cmpE (el i) (el j)) g off d.size w := by
    intro m os dk hdk x y
    have keep : ∀ k, k ≠ g → k < w.heap.size → (Go.Proofs.sortWorldK (fun i => elCells (el i)) 2 w g off m dk os).heap[k]? = w.heap[k]? := by
      intro k hk hlt
      have e : (dk.toList.map el).length = l.length := by simp [hdk, hdn, hnl]
      exact ((hq.sorted (m := m) (os := os) (fun i => elCells (el i)) dk (by rw [← hfl, Array.toArray_toList]) e).2).block k hlt (fun e => hk (by injection e))
    have sx := hs _ (hmem x)
    have sy := hs _ (hmem y)
    obtain ⟨a1, a2⟩ := (sx.kept (keep _ (sx.ne hq) sx.lt.2)).head (hvt x)
    obtain ⟨b1, b2⟩ := (sy.kept (keep _ (sy.ne hq) sy.lt.2)).head (hvt y)
    exact order_raw _ _ _ _ _ _ _ _ _ _ _ a1 b1 a2 b2
  have hlt : ∀ i j : Fin n, Go.Proofs.ltOf (fun i j => cmpE (el i) (el j)) i j = keyLt (el i).tr (el j).tr := fun i j => cmpE_lt (el i) (el j)
  have hO : SWO (Go.Proofs.ltOf fun (i j : Fin n) => cmpE (el i) (el j)) := by
    refine ⟨fun x => ?_, fun x y z h1 h2 => ?_, fun x y z h1 h2 => ?_⟩
    · rw [hlt, Bool.eq_false_iff]; intro h; have := (keyLt_iff _ _).1 h; omega
    · rw [hlt] at *
      rw [keyLt_iff] at *
      omega
    · rw [hlt] at *
      rw [Bool.eq_false_iff] at *
      intro h
      rw [ne_eq, keyLt_iff] at h1 h2
      rw [keyLt_iff] at h
      omega
  have hcon := Go.Proofs.AnyQ.slices_SortFunc Try.sortTree 2 Try.isAgg50 Try.sizeOf50 (fun i => elCells (el i)) (fun _ => rfl) (fun x v hv => by simp [elCells] at hv; rcases hv with rfl | rfl <;> rfl) (fun i j => cmpE (el i) (el j)) hO 19 #[] g off cap d w eg hcmp hH hq.lt (by omega)
  change Calls Try.prog 18 _ _ _ at hcon
  rw [hdn] at hcon
  rw [← hnl]
  refine hcon.mono ?_
  rintro e w' ⟨rfl, d', m, os, hp, hss, rfl⟩
  have hp' : PermIn 0 (List.finRange n).toArray.size (List.finRange n).toArray d' := by
    rw [← hd, hdn]; exact hp
  obtain ⟨hp1, hp2⟩ := perm_of hp'
  have hpl : (d'.toList.map el).Perm l := by
    have := hp1.map el
    rwa [hmap] at this
  have hsrt := sorted_of (n := n) (by simpa using hp2) hss
  obtain ⟨r1, r2⟩ := hq.sorted (m := m) (os := os) (fun i => elCells (el i)) d' (l' := d'.toList.map el) (by rw [← hfl, Array.toArray_toList]) hpl.length_eq
  refine ⟨rfl, d'.toList.map el, hpl, ?_, r1, r2⟩
  have hkd : KD ((d'.toList.map el).map El.tr) := hf.kd.perm (hpl.map El.tr).symm
  unfold Srt
  unfold KD at hkd
  rw [List.map_map, List.pairwise_map] at hkd ⊢
  refine (hsrt.and hkd).imp ?_
  rintro a b ⟨h1, h2⟩
  rw [hlt, Bool.eq_false_iff, ne_eq, keyLt_iff] at h1
  rw [keyLt_iff]
  simp only [Function.comp] at h2 ⊢
  omega

end Go.Proofs.Ytgfkkjcnnecefab
