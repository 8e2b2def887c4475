/- Plain mathematics of chapter 3: what Build tells, and that nothing costs less. No program in sight. -/
import Derived.Test.YtgfkkjcnnecefaaCwG2
import Derived.RegionTactic
import Derived.Deep.QuietTactic
import Derived.BigQuiet
import Derived.Deep.RegionHeld3
import Derived.Deep.RegionLaw
import Derived.Deep.AppendLies
import Derived.Deep.DeepCutAuto
import Derived.Deep.RegionWith

namespace Go.Proofs.Ytgfkkjcnnecefaa
namespace Pl

def cn (c : List Int) (i : Nat) : Nat := (c.getD i 0).toNat
def trOf (c : List Int) (i : Nat) : Option Tr := if 0 < c.getD i 0 then some (cn c i, [i]) else none
/-- the trees of the first so many signs -/
def startF (c : List Int) : Nat → List Tr
  | 0 => []
  | k + 1 => startF c k ++ (trOf c k).toList
theorem startF_pos {c : List Int} {k : Nat} (h : 0 < c.getD k 0) : startF c (k + 1) = startF c k ++ [(cn c k, [k])] := by rw [startF, trOf, if_pos h]; rfl
theorem startF_zero {c : List Int} {k : Nat} (h : ¬ 0 < c.getD k 0) : startF c (k + 1) = startF c k := by rw [startF, trOf, if_neg h]; simp
theorem mem_startF {c : List Int} {t : Tr} : ∀ {k : Nat}, t ∈ startF c k ↔ ∃ i, i < k ∧ 0 < c.getD i 0 ∧ t = (cn c i, [i])
  | 0 => by simp [startF]
  | k + 1 => by
    by_cases h : 0 < c.getD k 0
    · rw [startF_pos h, List.mem_append, mem_startF, List.mem_singleton]
      constructor
      · rintro (⟨i, h1, h2, h3⟩ | h3)
        · exact ⟨i, by omega, h2, h3⟩
        · exact ⟨k, by omega, h, h3⟩
      · rintro ⟨i, h1, h2, h3⟩
        by_cases e : i = k
        · subst e; exact .inr h3
        · exact .inl ⟨i, by omega, h2, h3⟩
    · rw [startF_zero h, mem_startF]
      constructor
      · rintro ⟨i, h1, h2, h3⟩; exact ⟨i, by omega, h2, h3⟩
      · rintro ⟨i, h1, h2, h3⟩
        by_cases e : i = k
        · subst e; exact absurd h2 h
        · exact ⟨i, by omega, h2, h3⟩
theorem startF_len (c : List Int) : ∀ k, (startF c k).length ≤ k
  | 0 => Nat.le_refl _
  | k + 1 => by
    have := startF_len c k
    by_cases h : 0 < c.getD k 0
    · rw [startF_pos h, List.length_append]; simp; omega
    · rw [startF_zero h]; omega
theorem startF_forest (c : List Int) : ∀ k, k ≤ 16 → Forest (startF c k)
  | 0, _ => ⟨by simp [startF], List.Pairwise.nil⟩
  | k + 1, hk => by
    have ih := startF_forest c k (by omega)
    by_cases h : 0 < c.getD k 0
    · rw [startF_pos h]
      refine ⟨fun t ht => ?_, List.pairwise_append.2 ⟨ih.dis, by simp, fun x hx y hy => ?_⟩⟩
      · rcases List.mem_append.1 ht with ht | ht
        · exact ih.vt t ht
        · have : t = (cn c k, [k]) := by simpa using ht
          subst this
          exact ⟨by simp, by simp, fun i hi => by have : i = k := by simpa using hi
                                                  omega⟩
      · have hy : y = (cn c k, [k]) := by simpa using hy
        subst hy
        obtain ⟨i, h1, _, rfl⟩ := mem_startF.1 hx
        intro j hj hj2
        have e1 : j = i := by simpa using hj
        have e2 : j = k := by simpa using hj2
        omega
    · rw [startF_zero h]; exact ih
theorem sum_startF (c : List Int) (g : Tr → Nat) (q : Nat → Nat) (hg : ∀ i, g (cn c i, [i]) = q i) : ∀ k, ((startF c k).map g).sum = sumN (fun j => if 0 < c.getD j 0 then q j else 0) k
  | 0 => rfl
  | k + 1 => by
    rw [sumN, ← sum_startF c g q hg k]
    by_cases h : 0 < c.getD k 0
    · rw [startF_pos h, if_pos h, List.map_append, List.sum_append]; simp [hg]
    · rw [startF_zero h, if_neg h]; rfl

def fulF (c : List Int) : List Tr := startF c 16
def buildE (c : List Int) : Nat := if fineB c = false then 3 else if (fulF c).length = 0 then 5 else 0
def lenAt (c : List Int) (i : Nat) : Nat := if (fulF c).length = 1 then (if 0 < c.getD i 0 then 1 else 0) else build ((fulF c).length - 1) (fulF c) i
def lensOf (c : List Int) : List Int := if buildE c ≠ 0 then List.replicate 16 0 else (List.range 16).map fun i => (lenAt c i : Int)
theorem lensOf_len (c : List Int) : (lensOf c).length = 16 := by unfold lensOf; split <;> simp
theorem lensOf_get {c : List Int} (h : buildE c = 0) {i : Nat} (hi : i < 16) : (lensOf c).getD i 0 = (lenAt c i : Int) := by
  unfold lensOf
  rw [if_neg (by omega), List.getD_eq_getElem?_getD, List.getElem?_map, List.getElem?_range hi]; rfl
theorem fulF_len (c : List Int) : (fulF c).length ≤ 16 := startF_len c 16
theorem buildE_zero {c : List Int} (h : buildE c = 0) : fineB c = true ∧ 1 ≤ (fulF c).length := by
  unfold buildE at h
  cases hf : fineB c with
  | false => rw [hf, if_pos rfl] at h; omega
  | true =>
    rw [hf, if_neg (by simp)] at h
    by_cases h2 : (fulF c).length = 0
    · rw [if_pos h2] at h; omega
    · exact ⟨rfl, by omega⟩
/-- of one sign alone -/
theorem one_alone {c : List Int} (h : (fulF c).length = 1) : ∃ i, i < 16 ∧ ∀ j, j < 16 → (0 < c.getD j 0 ↔ j = i) := by
  match e : fulF c, h with
  | [t], _ =>
    have ht : t ∈ startF c 16 := by show t ∈ fulF c; rw [e]; simp
    obtain ⟨i, h1, h2, h3⟩ := mem_startF.1 ht
    refine ⟨i, h1, fun j hj => ⟨fun hp => ?_, fun e => e ▸ h2⟩⟩
    have hj2 : (cn c j, [j]) ∈ fulF c := mem_startF.2 ⟨j, hj, hp, rfl⟩
    rw [e, List.mem_singleton, h3] at hj2
    have := (Prod.ext_iff.1 hj2).2
    simpa using this
theorem sumPos {g : Nat → Nat} : ∀ {n i : Nat}, i < n → g i ≤ sumN g n
  | 0, _, h => absurd h (by omega)
  | n + 1, i, h => by
    rw [sumN]
    by_cases e : i = n
    · subst e; omega
    · have := sumPos (g := g) (n := n) (i := i) (by omega); omega
theorem sum_map_le {α : Type} (f : α → Nat) : ∀ {l : List α} {x : α}, x ∈ l → f x ≤ (l.map f).sum
  | y :: l, x, h => by
    rw [List.map_cons, List.sum_cons]
    rcases List.mem_cons.1 h with rfl | h
    · omega
    · have := sum_map_le f h; omega
theorem krD_two {d : List (Tr × Nat)} (h : krD d = 32768) (h2 : 2 ≤ d.length) : ∀ x ∈ d, 1 ≤ x.2 := by
  intro x hx
  rcases Nat.eq_zero_or_pos x.2 with e | e
  · exfalso
    obtain ⟨s, t, rfl⟩ := List.append_of_mem hx
    unfold krD at h
    rw [List.map_append, List.map_cons, List.sum_append, List.sum_cons, e] at h
    have h0 : pw 0 = 32768 := rfl
    have hne : ∃ y, y ∈ s ++ t := by
      match s, t, h2 with
      | y :: s, t, _ => exact ⟨y, by simp⟩
      | [], y :: t, _ => exact ⟨y, by simp⟩
      | [], [], h2 => simp at h2
    obtain ⟨y, hy⟩ := hne
    have hp := pw_pos y.2
    rcases List.mem_append.1 hy with hy | hy
    · have := sum_map_le (fun x : Tr × Nat => pw x.2) hy; omega
    · have := sum_map_le (fun x : Tr × Nat => pw x.2) hy; omega
  · exact e
/-- what is built, of two signs at least -/
structure Code2 (c : List Int) : Prop where
  used : ∀ j, j < 16 → 0 < c.getD j 0 → 1 ≤ lenAt c j ∧ lenAt c j ≤ 15
  not : ∀ j, j < 16 → ¬ 0 < c.getD j 0 → lenAt c j = 0
  room : 0 < sumN (fun j => if 0 < c.getD j 0 then pw (lenAt c j) else 0) 16 ∧ sumN (fun j => if 0 < c.getD j 0 then pw (lenAt c j) else 0) 16 ≤ 32768
  least : ∀ r : Nat → Nat, (∀ j, j < 16 → 0 < c.getD j 0 → 1 ≤ r j ∧ r j ≤ 15) → sumN (fun j => if 0 < c.getD j 0 then pw (r j) else 0) 16 ≤ 32768 → sumN (fun j => if 0 < c.getD j 0 then cn c j * lenAt c j else 0) 16 ≤ sumN (fun j => if 0 < c.getD j 0 then cn c j * r j else 0) 16
theorem code2 {c : List Int} (h : buildE c = 0) : Code2 c := by
  obtain ⟨_, h1⟩ := buildE_zero h
  by_cases h2 : (fulF c).length = 1
  · obtain ⟨i, hi, hall⟩ := one_alone h2
    have hl : ∀ j, j < 16 → lenAt c j = if 0 < c.getD j 0 then 1 else 0 := fun j _ => by unfold lenAt; rw [if_pos h2]
    refine ⟨fun j hj hp => ?_, fun j hj hp => ?_, ?_, fun r hr _ => ?_⟩
    · rw [hl j hj, if_pos hp]; omega
    · rw [hl j hj, if_neg hp]
    · rw [sumN_one (i := i) 16 hi (fun j hj hne => by rw [if_neg (fun hp => hne ((hall j hj).1 hp))])]
      have := pw_pos (lenAt c i)
      have := pw_le (lenAt c i)
      rw [if_pos ((hall i hi).2 rfl)]; omega
    · refine sumN_le 16 fun j hj => ?_
      by_cases hp : 0 < c.getD j 0
      · rw [if_pos hp, if_pos hp, hl j hj, if_pos hp]
        exact Nat.mul_le_mul_left _ (hr j hj hp).1
      · rw [if_neg hp, if_neg hp]; exact Nat.le_refl _
  · have hlen := fulF_len c
    have hF : Forest (fulF c) := startF_forest c 16 (Nat.le_refl _)
    have hl : ∀ j, lenAt c j = build ((fulF c).length - 1) (fulF c) j := fun j => by unfold lenAt; rw [if_neg h2]
    obtain ⟨d, e1, e2, e3, e4, e5, e6⟩ := built ((fulF c).length - 1) (fulF c) hF h1 (by omega) hlen
    have hdl : d.length = (fulF c).length := by have := e1.length_eq; simpa using this
    have hd1 := krD_two e4 (by omega)
    have hone : ∀ x ∈ d, x.2 = lenAt c (hd x.1) := by
      intro x hx
      have hx1 : x.1 ∈ startF c 16 := e1.mem_iff.1 (List.mem_map.2 ⟨x, hx, rfl⟩)
      obtain ⟨i, _, _, hxi⟩ := mem_startF.1 hx1
      rw [hl, ← e2 x hx (hd x.1) (by rw [hxi]; simp [hd])]
    have hof : ∀ j, j < 16 → 0 < c.getD j 0 → ∃ x ∈ d, x.2 = lenAt c j := by
      intro j hj hp
      have : (cn c j, [j]) ∈ d.map Prod.fst := e1.mem_iff.2 (mem_startF.2 ⟨j, hj, hp, rfl⟩)
      obtain ⟨x, hx, hxe⟩ := List.mem_map.1 this
      exact ⟨x, hx, by rw [hone x hx, hxe]; rfl⟩
    have hkr : krD d = sumN (fun j => if 0 < c.getD j 0 then pw (lenAt c j) else 0) 16 := by
      rw [← sum_startF c (fun t => pw (lenAt c (hd t))) (fun j => pw (lenAt c j)) (fun i => rfl) 16]
      unfold krD
      have s1 : d.map (fun x => pw x.2) = (d.map Prod.fst).map fun t => pw (lenAt c (hd t)) := by
        rw [List.map_map]
        exact List.map_congr_left fun x hx => by simp only [Function.comp]; rw [← hone x hx]
      rw [s1]
      exact (e1.map _).sum_nat
    have hco : coD d = sumN (fun j => if 0 < c.getD j 0 then cn c j * lenAt c j else 0) 16 := by
      rw [← sum_startF c (fun t => t.1 * lenAt c (hd t)) (fun j => cn c j * lenAt c j) (fun i => rfl) 16]
      unfold coD
      have s1 : d.map (fun x => x.1.1 * x.2) = (d.map Prod.fst).map fun t => t.1 * lenAt c (hd t) := by
        rw [List.map_map]
        exact List.map_congr_left fun x hx => by simp only [Function.comp]; rw [← hone x hx]
      rw [s1]
      exact (e1.map _).sum_nat
    refine ⟨fun j hj hp => ?_, fun j hj hp => ?_, ?_, fun r hr hk => ?_⟩
    · obtain ⟨x, hx, hxe⟩ := hof j hj hp
      have := e5 x hx
      have := hd1 x hx
      omega
    · rw [hl]
      refine e3 j fun t ht => ?_
      obtain ⟨i, _, h2, rfl⟩ := mem_startF.1 ht
      intro hm
      have : j = i := by simpa using hm
      subst this; exact hp h2
    · rw [← hkr, e4]; omega
    · rw [← hco, e6]
      have hP := bestCode ((fulF c).length - 1) (fulF c) hF (by omega) hlen ((fulF c).map fun t => (t.1, r (hd t))) (by rw [List.map_map]; exact List.Perm.refl _) ?_ ?_
      · refine Nat.le_trans hP (Nat.le_of_eq ?_)
        rw [← sum_startF c (fun t => t.1 * r (hd t)) (fun j => cn c j * r j) (fun i => rfl) 16]
        unfold coP
        rw [List.map_map]; rfl
      · refine Nat.le_trans (Nat.le_of_eq ?_) hk
        rw [← sum_startF c (fun t => pw (r (hd t))) (fun j => pw (r j)) (fun i => rfl) 16]
        unfold krP
        rw [List.map_map]; rfl
      · intro x hx
        obtain ⟨t, ht, rfl⟩ := List.mem_map.1 hx
        obtain ⟨i, hi, hp, rfl⟩ := mem_startF.1 ht
        exact (hr i hi hp).2

theorem dot_sum {l c : List Int} (hl : l.length = 16) (hc : c.length = 16) (nl : ∀ x ∈ l, 0 ≤ x) (nc : ∀ x ∈ c, 0 ≤ x) : ∀ k, k ≤ 16 → dotL (l.take k) (c.take k) = ((sumN (fun j => if 0 < c.getD j 0 then cn c j * ln l j else 0) k : Nat) : Int)
  | 0, _ => by simp [dotL, sumN]
  | k + 1, hk => by
    obtain ⟨x, hx⟩ : ∃ x, l[k]? = some x := ⟨_, List.getElem?_eq_getElem (by omega)⟩
    obtain ⟨y, hy⟩ : ∃ y, c[k]? = some y := ⟨_, List.getElem?_eq_getElem (by omega)⟩
    have hx0 := nl x (List.mem_of_getElem? hx)
    have hy0 := nc y (List.mem_of_getElem? hy)
    rw [dot_take hx hy, dot_sum hl hc nl nc k (by omega), sumN, Int.natCast_add]
    congr 1
    unfold cn ln
    rw [List.getD_eq_getElem?_getD, hy, List.getD_eq_getElem?_getD, hx]
    simp only [Option.getD_some]
    by_cases hp : 0 < y
    · rw [if_pos hp, Int.natCast_mul, Int.toNat_of_nonneg hx0, Int.toNat_of_nonneg hy0]
    · rw [if_neg hp]
      have : y = 0 := by omega
      subst this; simp
theorem dot_all {l c : List Int} (hl : l.length = 16) (hc : c.length = 16) (nl : ∀ x ∈ l, 0 ≤ x) (nc : ∀ x ∈ c, 0 ≤ x) : dotL l c = ((sumN (fun j => if 0 < c.getD j 0 then cn c j * ln l j else 0) 16 : Nat) : Int) := by
  have := dot_sum hl hc nl nc 16 (Nat.le_refl _)
  rwa [List.take_of_length_le (by omega), List.take_of_length_le (by omega)] at this
theorem lack_iff {l c : List Int} : ∀ (_hl : l.length = c.length), (lackL l c = false ↔ ∀ j, j < l.length → ¬ (0 < c.getD j 0 ∧ l.getD j 0 = 0)) := by
  induction l generalizing c with
  | nil => intro _; simp [lackL]
  | cons x l ih =>
    intro hl
    cases c with
    | nil => simp at hl
    | cons y c =>
      have hl2 : l.length = c.length := by simpa using hl
      rw [lackL, Bool.or_eq_false_iff, ih hl2, decide_eq_false_iff_not]
      constructor
      · rintro ⟨h1, h2⟩ j hj
        cases j with
        | zero => simpa using h1
        | succ j => simpa using h2 j (by simpa using hj)
      · intro h
        exact ⟨by simpa using h 0 (by simp), fun j hj => by simpa using h (j + 1) (by simpa using hj)⟩
theorem getD_mem {l : List Int} {j : Nat} (h : j < l.length) : l.getD j 0 ∈ l := by rw [List.getD_eq_getElem?_getD, List.getElem?_eq_getElem h]; simp
/-- what Build tells is right -/
theorem lens_right {c : List Int} (h : buildE c = 0) : checkE (lensOf c) = 0 := by
  have hc2 := code2 h
  have hl16 := lensOf_len c
  have hb : ∀ j, j < 16 → lenAt c j ≤ 15 := fun j hj => by
    by_cases hp : 0 < c.getD j 0
    · exact (hc2.used j hj hp).2
    · rw [hc2.not j hj hp]; omega
  have hnn : ∀ x ∈ lensOf c, 0 ≤ x ∧ x ≤ 15 := by
    intro x hx
    obtain ⟨j, hj, rfl⟩ := List.mem_iff_getElem.1 hx
    have e : (lensOf c)[j] = (lensOf c).getD j 0 := by rw [List.getD_eq_getElem?_getD, List.getElem?_eq_getElem hj]; rfl
    have hj2 : j < 16 := by omega
    rw [e, lensOf_get h hj2]
    have := hb j hj2; omega
  have hkr : kr (lensOf c) = sumN (fun j => if 0 < c.getD j 0 then pw (lenAt c j) else 0) 16 := by
    rw [kr_krS hl16 fun x hx => (hnn x hx).1]
    refine sumN_congr 16 fun j hj => ?_
    have e : ln (lensOf c) j = lenAt c j := by unfold ln; rw [lensOf_get h hj]; simp
    rw [e]
    by_cases hp : 0 < c.getD j 0
    · rw [if_pos hp, if_pos (show 0 < lenAt c j from (hc2.used j hj hp).1)]
    · rw [if_neg hp, if_neg (by rw [hc2.not j hj hp]; omega)]
  refine checkE_ok ?_ ?_
  · rw [List.any_eq_false]
    intro x hx
    have := hnn x hx
    simp only [badL, decide_eq_true_eq]; omega
  · rw [hkr]
    have := hc2.room; omega
theorem lens_ln {c : List Int} (h : buildE c = 0) {j : Nat} (hj : j < 16) : ln (lensOf c) j = lenAt c j := by unfold ln; rw [lensOf_get h hj]; simp
theorem lens_has {c : List Int} (hc : c.length = 16) (h : buildE c = 0) : lackL (lensOf c) c = false := by
  have hl16 := lensOf_len c
  rw [lack_iff (by omega)]
  intro j hj
  rw [lensOf_get h (by omega)]
  rintro ⟨h1, h2⟩
  have := ((code2 h).used j (by omega) h1).1
  omega
theorem lens_cost {c : List Int} (hc : c.length = 16) (h : buildE c = 0) : costE (lensOf c) c = 0 := by
  unfold costE
  rw [lens_right h, (buildE_zero h).1, lens_has hc h]; simp
/-- NO RIGHT CODE COSTS LESS -/
theorem lens_best {c r : List Int} (hc : c.length = 16) (hr : r.length = 16) (h : buildE c = 0) (h2 : costE r c = 0) : costN (lensOf c) c ≤ costN r c := by
  have hc2 := code2 h
  have h3 : checkE r = 0 := by
    by_cases e : checkE r = 0
    · exact e
    · have e2 := h2; unfold costE at e2; rw [if_pos e] at e2; exact absurd e2 e
  have hR := right_of hr h3
  have hfine := (buildE_zero h).1
  have hlk : lackL r c = false := by
    have e2 := h2
    unfold costE at e2
    rw [h3, hfine] at e2
    cases e : lackL r c with
    | false => rfl
    | true => rw [e] at e2; simp at e2
  have hnc : ∀ x ∈ c, 0 ≤ x := fun x hx => (fine_all hfine x hx).1
  have hL := right_of (lensOf_len c) (lens_right h)
  have e1 : costN (lensOf c) c = dotL (lensOf c) c := by unfold costN; rw [lens_right h, hfine, lens_has hc h]; simp
  have e2 : costN r c = dotL r c := by unfold costN; rw [h3, hfine, hlk]; simp
  rw [e1, e2, dot_all (lensOf_len c) hc hL.nn hnc, dot_all hr hc hR.nn hnc]
  have e3 : sumN (fun j => if 0 < c.getD j 0 then cn c j * ln (lensOf c) j else 0) 16 = sumN (fun j => if 0 < c.getD j 0 then cn c j * lenAt c j else 0) 16 := sumN_congr 16 fun j hj => by rw [lens_ln h hj]
  rw [e3]
  have hrl : ∀ j, j < 16 → 0 < c.getD j 0 → 1 ≤ ln r j := fun j hj hp => by
    have := (lack_iff (by omega)).1 hlk j (by omega)
    have h0 := hR.nn _ (getD_mem (l := r) (j := j) (by omega))
    unfold ln
    rcases Int.lt_or_le 0 (r.getD j 0) with h | h
    · omega
    · exact absurd ⟨hp, by omega⟩ this
  have := hc2.least (ln r) (fun j hj hp => ⟨hrl j hj hp, hR.one j⟩) (Nat.le_trans (sumN_le 16 fun j hj => ?_) hR.sum)
  · omega
  · by_cases hp : 0 < c.getD j 0
    · rw [if_pos hp, if_pos (show 0 < ln r j from hrl j hj hp)]; exact Nat.le_refl _
    · rw [if_neg hp]; omega

end Pl
end Go.Proofs.Ytgfkkjcnnecefaa

/- The program's row of trees in memory, wherever it begins in its block, and the signs of each tree. -/
namespace Go.Proofs.Ytgfkkjcnnecefaa
open Go.RowKit Go.Lib Pl Go.Sort

/-- a tree of the program: its weight, its signs and where these lie -/
structure El where
  w : Nat
  g : Nat
  cap : Nat
  s : List Nat
instance : Inhabited El := ⟨⟨0, 0, 0, []⟩⟩
def El.tr (e : El) : Tr := (e.w, e.s)
abbrev SgV (e : El) : Value := .slice (some ⟨e.g, 0, none⟩) e.s.length e.cap
def elCells (e : El) : List Value := [I (e.w : Int), SgV e]
theorem elCells_len (e : El) : (elCells e).length = 2 := rfl
def natI (i : Nat) : Value := I (i : Int)
def SgOK (w : World) (base : Nat) (e : El) : Prop := w.ownsRow base 3 1 (SgV e) e.s.length (e.s.map natI)
theorem elsLen (l : List El) : (l.flatMap elCells).length = l.length * 2 := by
  induction l with
  | nil => rfl
  | cons x l ih => simp [elCells] at ih ⊢; omega
theorem els_get : ∀ (l : List El) (i : Nat) (x : El), l[i]? = some x → (l.flatMap elCells)[i * 2]? = some (I (x.w : Int)) ∧ (l.flatMap elCells)[i * 2 + 1]? = some (SgV x)
  | [], i, x, h => by simp at h
  | u :: l, 0, x, h => by simp at h; subst h; simp [elCells]
  | u :: l, i + 1, x, h => by
    have h' : l[i]? = some x := by simpa using h
    obtain ⟨a, b⟩ := els_get l i x h'
    have e : (u :: l).flatMap elCells = elCells u ++ l.flatMap elCells := by simp
    have hl : (elCells u).length = 2 := rfl
    rw [e]
    refine ⟨?_, ?_⟩
    · rw [List.getElem?_append_right (by omega), hl, show (i + 1) * 2 - 2 = i * 2 from by omega]; exact a
    · rw [List.getElem?_append_right (by omega), hl, show (i + 1) * 2 + 1 - 2 = i * 2 + 1 from by omega]; exact b

/-- a row of trees that begins at a place of its block -/
def QAt (w : World) (base g off cap : Nat) (l : List El) : Prop :=
  base ≤ g ∧ ∃ cur, w.heap[g]? = some (.cells cur 109 (0, 0)) ∧ l.length ≤ cap ∧ cap ≤ maxLen ∧ off + cap * 2 ≤ cur.size ∧ (cur.toList.drop off).take (l.length * 2) = l.flatMap elCells

theorem QAt.kept {w w' : World} {base g off cap : Nat} {l : List El} (h : QAt w base g off cap l) (hg : w'.heap[g]? = w.heap[g]?) : QAt w' base g off cap l := by
  obtain ⟨hb, cur, h1, h2⟩ := h
  exact ⟨hb, cur, hg.trans h1, h2⟩
theorem QAt.lt {w : World} {base g off cap : Nat} {l : List El} (h : QAt w base g off cap l) : g < w.heap.size := by
  obtain ⟨hb, cur, h1, h2⟩ := h
  exact (Array.getElem?_eq_some_iff.1 h1).1
theorem QAt.of_own {w : World} {base g n cap : Nat} {l : List El} (h : w.ownsRow base 109 2 (.slice (some ⟨g, 0, none⟩) n cap) n (l.flatMap elCells)) : QAt w base g 0 cap l ∧ l.length = n := by
  have hl : l.length = n := by have := h.1; rw [elsLen] at this; omega
  rcases h.2 with ⟨hv, _⟩ | ⟨g', cap', cur, hv, hb, hg, hn, hc, hs, ht⟩
  · cases hv
  · injection hv with ha _ hcap
    injection ha with ha
    injection ha with ha
    subst ha
    subst hcap
    exact ⟨⟨hb, cur, hg, by omega, hc, by omega, by rw [List.drop_zero, hl]; exact ht⟩, hl⟩
theorem QAt.row {w : World} {base g off cap : Nat} {l : List El} (h : QAt w base g off cap l) {j : Nat} {u : Value} (hu : (l.flatMap elCells)[j]? = some u) : w.cell? ⟨g, off + j, none⟩ = some u ∧ w.frozen? ⟨g, off + j, none⟩ = false := by
  obtain ⟨hb, cur, h1, h2, h3, h4, h5⟩ := h
  refine ⟨?_, by simp [World.frozen?, h1]⟩
  rw [cell_of_row w g (off + j) cur _ _ h1]
  rw [← h5, List.getElem?_take] at hu
  split at hu
  · rw [List.getElem?_drop] at hu; simpa using hu
  · cases hu
theorem QAt.get {w : World} {base g off cap : Nat} {l : List El} (h : QAt w base g off cap l) {k : Nat} {x : El} (hx : l[k]? = some x) : w.cell? ⟨g, off + k * 2, none⟩ = some (I (x.w : Int)) ∧ w.cell? ⟨g, off + (k * 2 + 1), none⟩ = some (SgV x) := by
  obtain ⟨h1, h2⟩ := els_get l k x hx
  exact ⟨(h.row h1).1, (h.row h2).1⟩
theorem QAt.cut {w : World} {base g off cap : Nat} {a b : El} {l : List El} (h : QAt w base g off cap (a :: b :: l)) : QAt w base g (off + 4) (cap - 2) l ∧ 2 ≤ cap := by
  obtain ⟨hb, cur, h1, h2, h3, h4, h5⟩ := h
  simp only [List.length_cons] at h2 h5
  refine ⟨⟨hb, cur, h1, by omega, by omega, by omega, ?_⟩, by omega⟩
  have e := congrArg (List.drop 4) h5
  rw [List.drop_take, List.drop_drop] at e
  have e2 : (a :: b :: l).flatMap elCells = [I (a.w : Int), SgV a, I (b.w : Int), SgV b] ++ l.flatMap elCells := by simp [elCells]
  rw [e2] at e
  have e3 : (l.length + 1 + 1) * 2 - 4 = l.length * 2 := by omega
  rw [e3] at e
  rw [e]
  rfl
theorem QAt.holdsK {w : World} {base g off cap : Nat} {l : List El} (h : QAt w base g off cap l) {α : Type} [Inhabited α] (enc : α → List Value) (d : Array α) (hd : (Go.Sort.flatK enc 2 d).toList = l.flatMap elCells) : Go.Sort.HoldsK enc 2 w g off d := by
  intro j hj
  have hu : (l.flatMap elCells)[j]? = some (Go.Sort.flatK enc 2 d)[j]! := by
    rw [← hd, Array.getElem?_toList, Array.getElem?_eq_getElem hj, getElem!_pos _ j hj]
  exact h.row hu

/-- what the library's sort leaves -/
theorem QAt.sorted {w : World} {base g off cap m : Nat} {l l' : List El} {os : Array Obj} (h : QAt w base g off cap l) {α : Type} [Inhabited α] (enc : α → List Value) (d : Array α) (hd : (Go.Sort.flatK enc 2 d).toList = l'.flatMap elCells) (hp : l'.length = l.length) :
    QAt (Go.Proofs.sortWorldK enc 2 w g off m d os) base g off cap l' ∧ w.grownBy (Go.Proofs.sortWorldK enc 2 w g off m d os) (some g) := by
  have hgl := h.lt
  obtain ⟨hb, cur, h1, h2, h3, h4, h5⟩ := h
  have hsz : (Go.Sort.flatK enc 2 d).size = l.length * 2 := by
    rw [← Array.length_toList, hd, elsLen, hp]
  have hcur : off + l.length * 2 ≤ cur.size := by omega
  have hh : (Go.Proofs.sortWorldK enc 2 w g off m d os).heap[g]? = some (.cells (Go.Sort.putCells id off (Go.Sort.flatK enc 2 d) cur) 109 (0, 0)) := by
    unfold Go.Proofs.sortWorldK Go.Sort.putRowK Go.Sort.putRow
    have hg2 : (Go.Sort.ahead w m).heap[g]? = some (.cells cur 109 (0, 0)) := h1
    rw [heap_grow_old _ _ (by show g < (mapBlock _ _ _).heap.size; unfold mapBlock; simpa using hgl)]
    unfold mapBlock
    simp only [Array.getElem?_modify]
    rw [if_pos trivial, hg2]
    rfl
  refine ⟨⟨hb, _, hh, by omega, h3, ?_, ?_⟩, rfl, rfl, rfl, ?_, fun i hi hne => ?_⟩
  · unfold putCells; simpa using h4
  · rw [hp, ← hd]
    apply List.ext_getElem?
    intro t
    rw [List.getElem?_take]
    by_cases htn : t < l.length * 2
    · rw [if_pos htn, List.getElem?_drop, Array.getElem?_toList, Array.getElem?_toList]
      unfold putCells
      rw [Array.getElem?_mapIdx, Array.getElem?_eq_getElem (by omega)]
      simp only [Option.map_some]
      rw [if_pos (by omega), show off + t - off = t from by omega, Array.getElem?_eq_getElem (by omega), getElem!_pos _ t (by omega)]
      rfl
    · rw [if_neg htn, List.getElem?_eq_none (by rw [Array.length_toList, hsz]; omega)]
  · unfold sortWorldK putRowK putRow mapBlock; simp [Sort.ahead]
  · unfold sortWorldK putRowK putRow
    rw [heap_grow_old _ _ (by show i < (mapBlock _ _ _).heap.size; unfold mapBlock; simp [Sort.ahead]; omega)]
    unfold mapBlock
    simp only [Array.getElem?_modify]
    rw [if_neg (by intro e; exact hne (by rw [e]))]
    rfl

theorem info_tree : (Try.prog.info? 109).map (fun i => (i.zero, i.size, i.bytes)) = some (some (.agg #[.int .i64 0, .slice none 0 0]), 2, 32) := by kernel_rfl

/-- append(l, tree{..}) where l may begin anywhere in its block -/
theorem run_append_Q {w : World} {base g off cap : Nat} {l : List El} (ty : TypeId) (hq : QAt w base g off cap l) (x : El) (a : Addr) (c : Nat) (hx : ∀ j u, (elCells x)[j]? = some u → w.cell? (a.add j) = some u) (hn : l.length ≤ 1000) (hbase : base ≤ w.heap.size) :
    ∃ g' off' cap' w', (Builtin.append_ #[106, 106] ty #[.slice (some ⟨g, off, none⟩) l.length cap, .slice (some a) 1 c]).run Try.prog w = .ok (.slice (some ⟨g', off', none⟩) (l.length + 1) cap') w' ∧
      QAt w' base g' off' cap' (l ++ [x]) ∧ w.grownBy w' (some g) ∧ (g' = g ∨ g' = w.heap.size) := by
  obtain ⟨i0, hi, hz0, hz1, hz2⟩ := info_parts info_tree
  have ht := Try.underlying106
  have hgl := hq.lt
  have hq0 := hq
  obtain ⟨hb, cur, h1, h2, h3, h4, h5⟩ := hq
  have hlen : ((l ++ [x]).flatMap elCells).length = (l.length + 1) * 2 := by rw [elsLen]; simp
  have h1c : ∀ u ∈ elCells x, u.oneCell' = true := by
    intro u hu
    simp [elCells] at hu
    rcases hu with rfl | rfl <;> rfl
  by_cases hroom : l.length + 1 ≤ cap
  · have hf := run_firstCells_some (P := Try.prog) w i0.size 1 a 1 c (elCells x) (by rw [hz1]; rfl) hx
    have hst := run_storeCells_at Try.prog g (off + l.length * 2) 109 (elCells x) 0 cur w h1 (by simp [elCells]; omega) h1c
    simp only [Nat.add_zero] at hst
    refine ⟨g, off, cap, w.setRow g (cur.toList.take (off + l.length * 2) ++ elCells x ++ cur.toList.drop (off + l.length * 2 + (elCells x).length)).toArray, ?_, ⟨hb, _, setRow_heap w g cur _ _ _ h1, by simp; omega, h3, ?_, ?_⟩, ⟨rfl, rfl, rfl, by simp, fun k _ hk => setRow_other w g k _ (fun e => hk (by simp [e]))⟩, .inl rfl⟩
    · rw [hz1] at hf
      simp [Builtin.append_, run_underlying ht, sizeOf, typeInfo, hi, hz1, Builtin.lenOf, hroom, hf, Addr.add_lit, hst]
    · simp only [List.size_toArray, List.length_append, List.length_take, List.length_drop, Array.length_toList]
      simp [elCells]; omega
    · simp only [List.toList_toArray]
      have e1 : (cur.toList.take (off + l.length * 2) ++ elCells x ++ cur.toList.drop (off + l.length * 2 + (elCells x).length)).drop off = l.flatMap elCells ++ elCells x ++ cur.toList.drop (off + l.length * 2 + (elCells x).length) := by
        have e0 : (cur.toList.take (off + l.length * 2)).drop off = l.flatMap elCells := by
          rw [List.drop_take, ← h5, show off + l.length * 2 - off = l.length * 2 from by omega]
        rw [List.append_assoc, List.drop_append_of_le_length (by simp; omega), e0, List.append_assoc]
      rw [e1, List.flatMap_append, List.take_append_of_le_length (by simp only [List.length_append, elsLen]; simp [elCells]; try omega)]
      rw [List.take_of_length_le (by simp only [List.length_append, elsLen]; simp [elCells]; try omega)]
      simp
  · have hfit := growslice_fits (need := l.length + 1) (old := cap) (bytes := 32) (by omega) (by omega)
    have hr := run_append_grow (P := Try.prog) w 106 ty 109 i0 _ ht hi hz0 ⟨g, off, none⟩ l.length cap (l.flatMap elCells) (by rw [elsLen, hz1]) (fun j u hu => by rw [Addr.add_lit]; exact (hq0.row hu).1) a 1 c (elCells x) (by rw [hz1]; rfl) hx (by omega) (by omega) (by rw [hz2]; exact hfit)
    have hge := grownCap_ge w (l.length + 1) cap 109
    refine ⟨w.heap.size, 0, grownCap w (l.length + 1) cap 109, _, hr, ⟨hbase, _, heap_alloc_new w.drew _, by simpa using hge, grownCap_le_maxLen w _ _ _ (by unfold maxLen; omega), ?_, ?_⟩, ⟨rfl, rfl, rfl, by simp, fun k hk _ => Below.heap_alloc w.drew _ k hk⟩, .inr rfl⟩
    · have hz : (Value.agg #[Value.int IntKind.i64 0, Value.slice none 0 0]).cells.size = 2 := rfl
      simp only [Array.size_append, List.size_toArray, size_zeroCells, elsLen, hz]
      have : (elCells x).length = 2 := rfl
      have h9 : (grownCap w (l.length + 1) cap 109 - (l.length + 1)) * 2 + (l.length + 1) * 2 = grownCap w (l.length + 1) cap 109 * 2 := by omega
      omega
    · simp only [Array.toList_append, List.drop_zero, List.toList_toArray]
      rw [List.flatMap_append, List.take_append_of_le_length (by simp only [List.length_append, elsLen]; simp [elCells]; try omega)]
      rw [List.take_of_length_le (by simp only [List.length_append, elsLen]; simp [elCells]; try omega)]
      simp

/-- .. for the walk -/
theorem wpList_push_Q {w : World} {ops : Array Oper} {rest : List Oper} {o : Oper} {a : Act} {Q : Exit → Act → World → Prop} (hgd : o.guard = none) (s x : Operand)
    (ho : o.op = .call { callee := .builtin .append, args := #[s, x], argTypes := #[106, 106] })
    (base g off cap n : Nat) (l : List El) (hln : l.length = n) (hs : a.eval s = .slice (some ⟨g, off, none⟩) n cap) (hq : QAt w base g off cap l) (e : El)
    (H : Nat) (hH : w.heap.size = H) (hx : a.eval x = .slice (some ⟨H, 0, none⟩) 1 1)
    (hn : n ≤ 1000) (hbase : base ≤ w.heap.size)
    (h : ∀ g' off' cap' w', QAt w' base g' off' cap' (l ++ [e]) → (w.alloc (.cells #[I (e.w : Int), SgV e] 109)).grownBy w' (some g) → (g' = g ∨ g' = H + 1) → wpList Try.prog ops Q rest (a.put o.dst (.slice (some ⟨g', off', none⟩) (n + 1) cap')) w') :
    wpList Try.prog ops Q (o :: rest) a (w.alloc (.cells #[I (e.w : Int), SgV e] 109)) := by
  subst hH
  subst hln
  refine wpList_plain hgd fun K hK => ?_
  obtain ⟨g', off', cap', w', hr, h2, h3, h4⟩ := run_append_Q (w := w.alloc (.cells #[I (e.w : Int), SgV e] 109)) o.type (hq.kept (Below.heap_alloc w _ g hq.lt)) e ⟨w.heap.size, 0, none⟩ 1 (cells2_new _ _ _ _) hn (by simp; omega)
  unfold Oper.wp execOp
  simp only [ho, resolve, invoke, builtin, Sem.run_bind, Sem.run_pure, Result.andThen_ok, List.map_toArray, List.map_cons, List.map_nil, hs, hx, hr]
  refine hK _ _ (h _ _ _ _ h2 h3 ?_)
  rcases h4 with h4 | h4
  · exact .inl h4
  · right; simpa using h4

/-- .. at a step of a region that draws its order -/
theorem step_push_Q {w : World} {ops : Array Oper} {o : Oper} {a : Act} {K : Act → World → Prop} {Q : Exit → Act → World → Prop} {E : Prop} (hgd : o.guard = none) (s x : Operand)
    (ho : o.op = .call { callee := .builtin .append, args := #[s, x], argTypes := #[106, 106] })
    (base g off cap n : Nat) (l : List El) (hln : l.length = n) (hs : a.eval s = .slice (some ⟨g, off, none⟩) n cap) (hq : QAt w base g off cap l) (e : El)
    (H : Nat) (hx : a.eval x = .slice (some ⟨H, 0, none⟩) 1 1) (c0 : w.cell? ⟨H, 0, none⟩ = some (I (e.w : Int))) (c1 : w.cell? ⟨H, 1, none⟩ = some (SgV e))
    (hn : n ≤ 1000) (hbase : base ≤ w.heap.size)
    (h : ∀ g' off' cap' w', QAt w' base g' off' cap' (l ++ [e]) → w.grownBy w' (some g) → (g' = g ∨ g' = w.heap.size) → K (a.put o.dst (.slice (some ⟨g', off', none⟩) (n + 1) cap')) w') :
    if Region.wanted o (yielded ops a.tmps) = true then Oper.wp Try.prog o a w K Q else E := by
  have hw : Region.wanted o (yielded ops a.tmps) = true := by simp [Region.wanted, hgd]
  rw [if_pos hw]
  subst hln
  obtain ⟨g', off', cap', w', hr, h2, h3, h4⟩ := run_append_Q (w := w) o.type hq e ⟨H, 0, none⟩ 1 (by
    intro j u hu
    match j, hu with
    | 0, hu => simp [elCells] at hu; subst hu; rw [Addr.add_lit]; exact c0
    | 1, hu => simp [elCells] at hu; subst hu; rw [Addr.add_lit]; exact c1
    | j + 2, hu => simp [elCells] at hu) hn hbase
  unfold Oper.wp execOp
  simp only [ho, resolve, invoke, builtin, Sem.run_bind, Sem.run_pure, Result.andThen_ok, List.map_toArray, List.map_cons, List.map_nil, hs, hx, hr]
  exact h _ _ _ _ h2 h3 h4

end Go.Proofs.Ytgfkkjcnnecefaa

/- The library's sort at trees, by the program's own order. -/
namespace Go.Proofs.Ytgfkkjcnnecefaa
open Go.RowKit Go.Lib Pl Go.Sort

/-- what order reads -/
structure OrdAt (W : World) (B : Nat) (wx wy hx hy : Int) (gx cx nx gy cy ny : Nat) : Prop where
  a : W.cell? ⟨B, 0, none⟩ = some (I wx)
  b : W.cell? ⟨B, 1, none⟩ = some (.slice (some ⟨gx, 0, none⟩) nx cx)
  c : W.cell? ⟨B + 1, 0, none⟩ = some (I wy)
  d : W.cell? ⟨B + 1, 1, none⟩ = some (.slice (some ⟨gy, 0, none⟩) ny cy)
  e : W.cell? ⟨gx, 0, none⟩ = some (.int .i64 hx)
  f : W.cell? ⟨gy, 0, none⟩ = some (.int .i64 hy)
section
variable {W : World} {B : Nat} {wx wy hx hy : Int} {gx cx nx gy cy ny : Nat}
theorem OrdAt.drew (h : OrdAt W B wx wy hx hy gx cx nx gy cy ny) : OrdAt W.drew B wx wy hx hy gx cx nx gy cy ny := ⟨h.a, h.b, h.c, h.d, h.e, h.f⟩
theorem cell_alloc {p : Addr} {v : Value} (o : Obj) (h : W.cell? p = some v) : (W.alloc o).cell? p = some v := (((Below.refl W.heap.size W).alloc (Nat.le_refl _) o).cell (block_lt_of_cell h)).trans h
theorem OrdAt.alloc (h : OrdAt W B wx wy hx hy gx cx nx gy cy ny) (o : Obj) : OrdAt (W.alloc o) B wx wy hx hy gx cx nx gy cy ny := ⟨cell_alloc o h.a, cell_alloc o h.b, cell_alloc o h.c, cell_alloc o h.d, cell_alloc o h.e, cell_alloc o h.f⟩
end

set_option maxHeartbeats 2000000 in
set_option maxRecDepth 100000 in
theorem order_raw (wx wy hx hy : Int) (gx cx nx gy cy ny : Nat) (w : World) (h1 : w.cell? ⟨gx, 0, none⟩ = some (.int .i64 hx)) (h2 : w.cell? ⟨gy, 0, none⟩ = some (.int .i64 hy)) (p1 : 0 < nx) (p2 : 0 < ny) :
    Calls Try.prog 67 #[.agg #[I wx, .slice (some ⟨gx, 0, none⟩) nx cx], .agg #[I wy, .slice (some ⟨gy, 0, none⟩) ny cy]] w fun e w' => e = .returned (.int .i64 (orI (Lib.compareInt wx wy) (Lib.compareInt hx hy))) ∧ ∃ q os', w' = grow (w.drewN q) os' := by
  obtain ⟨c1, hc1⟩ : ∃ c, c = Lib.compareInt wx wy := ⟨_, rfl⟩
  obtain ⟨c2, hc2⟩ : ∃ c, c = Lib.compareInt hx hy := ⟨_, rfl⟩
  have K1 := fun (W : World) => Try.cmp_Compare_int wx wy W
  have K2 := fun (W : World) => Try.cmp_Compare_int hx hy W
  rw [← hc1, ← hc2]
  rw [← hc1] at K1
  rw [← hc2] at K2
  have K1 := hide K1
  have K2 := hide K2
  have K3 := hide (fun (g : Nat) (W : World) => cmpOr2_any g c1 c2 W)
  clear hc1 hc2
  obtain ⟨B, hB⟩ : ∃ B, B = w.heap.size := ⟨_, rfl⟩
  obtain ⟨w0, hw0⟩ : ∃ w0, w0 = (w.alloc (.cells #[I wx, .slice (some ⟨gx, 0, none⟩) nx cx] 109)).alloc (.cells #[I wy, .slice (some ⟨gy, 0, none⟩) ny cy] 109) := ⟨_, rfl⟩
  have h0 : OrdAt w0 B wx wy hx hy gx cx nx gy cy ny := by
    have e1 : (w.alloc (.cells #[I wx, .slice (some ⟨gx, 0, none⟩) nx cx] 109)).heap.size = w.heap.size + 1 := by simp
    rw [hw0, hB]
    refine ⟨cell_alloc _ (World.cell?_alloc_new _ _ _ _), cell_alloc _ (World.cell?_alloc_new _ _ _ _), ?_, ?_, cell_alloc _ (cell_alloc _ h1), cell_alloc _ (cell_alloc _ h2)⟩
    · rw [← e1]; exact World.cell?_alloc_new _ _ _ _
    · rw [← e1]; exact World.cell?_alloc_new _ _ _ _
  have hs0 : w0.heap.size = B + 2 := by rw [hw0, hB]; simp
  have H0 := hide h0
  have HS0 := hide hs0
  have HB := hide hB
  have HW0 := hide hw0
  clear h0 h1 h2 hs0 hB
  obtain ⟨r1, r2, r3, r4, r5, r6⟩ : (∀ W : World, OrdAt W B wx wy hx hy gx cx nx gy cy ny → W.cell? ⟨B, 0, none⟩ = some (I wx)) ∧ (∀ W : World, OrdAt W B wx wy hx hy gx cx nx gy cy ny → W.cell? ⟨B, 1, none⟩ = some (.slice (some ⟨gx, 0, none⟩) nx cx)) ∧ (∀ W : World, OrdAt W B wx wy hx hy gx cx nx gy cy ny → W.cell? ⟨B + 1, 0, none⟩ = some (I wy)) ∧ (∀ W : World, OrdAt W B wx wy hx hy gx cx nx gy cy ny → W.cell? ⟨B + 1, 1, none⟩ = some (.slice (some ⟨gy, 0, none⟩) ny cy)) ∧ (∀ W : World, OrdAt W B wx wy hx hy gx cx nx gy cy ny → W.cell? ⟨gx, 0, none⟩ = some (.int .i64 hx)) ∧ (∀ W : World, OrdAt W B wx wy hx hy gx cx nx gy cy ny → W.cell? ⟨gy, 0, none⟩ = some (.int .i64 hy)) := ⟨fun _ h => h.a, fun _ h => h.b, fun _ h => h.c, fun _ h => h.d, fun _ h => h.e, fun _ h => h.f⟩
  go_enter Try.func67, Try.ntmps67
  go_upto_region 1 with fail
  rw [← hw0, ← unhide HB]
  clear hw0
  go_region_held3 (fun w' => OrdAt w' B wx wy hx hy gx cx nx gy cy ny) (first | exact (unhide H0).drew | assumption | exact OrdAt.drew (by assumption) | exact OrdAt.alloc (by assumption) _ | exact (OrdAt.alloc (by assumption) _).drew)
    ((first
      | (go_at_call 86; (with_reducible refine (unhide K1 _).mono ?_); rintro e w1 ⟨rfl, rfl⟩)
      | (go_at_call 86; (with_reducible refine (unhide K2 _).mono ?_); rintro e w1 ⟨rfl, rfl⟩)
      | (go_at_call 85; refine (unhide K3 _ _ (by exact (cell_new_at 0 (by simp)).trans rfl) (by exact (cell_new_at 1 (by simp)).trans rfl)).mono ?_; rintro e w1 ⟨rfl, rfl⟩)))
  all_goals
    go_wp2_with fail
    go_ret
    refine ⟨rfl, 1, #[.cells #[I wx, .slice (some ⟨gx, 0, none⟩) nx cx] 109, .cells #[I wy, .slice (some ⟨gy, 0, none⟩) ny cy] 109, .cells #[.int .i64 c1, .int .i64 c2] 3], ?_⟩
    rw [unhide HW0, alloc_eq_grow, alloc_eq_grow, alloc_eq_grow, grow_grow, grow_grow]
    rfl

def cmpE (x y : El) : Int := orI (Lib.compareInt x.w y.w) (Lib.compareInt (hd x.tr : Nat) (hd y.tr : Nat))
theorem cmpE_lt (x y : El) : decide (cmpE x y < 0) = keyLt x.tr y.tr := by
  have hk := keyLt_iff x.tr y.tr
  have e1 : x.tr.1 = x.w := rfl
  have e2 : y.tr.1 = y.w := rfl
  rw [e1, e2] at hk
  unfold cmpE orI Lib.compareInt
  rw [Bool.eq_iff_iff, decide_eq_true_eq, hk]
  repeat' split
  all_goals omega
theorem SgOK.head {w : World} {base : Nat} {e : El} (h : SgOK w base e) (hv : VT e.tr) : w.cell? ⟨e.g, 0, none⟩ = some (I (hd e.tr : Int)) ∧ 0 < e.s.length := by
  have hne : e.s ≠ [] := hv.ne
  have hp : 0 < e.s.length := List.length_pos_iff.2 hne
  refine ⟨?_, hp⟩
  have := h.cells (g := e.g) rfl 0 (natI (hd e.tr)) (by
    show (e.s.map natI)[0]? = _
    cases hs : e.s with
    | nil => exact absurd hs hne
    | cons a r => unfold hd El.tr; rw [hs]; rfl)
  rwa [Addr.add_lit] at this
theorem SgOK.kept {w w' : World} {base : Nat} {e : El} (h : SgOK w base e) (hg : w'.heap[e.g]? = w.heap[e.g]?) : SgOK w' base e := by
  refine ⟨h.1, ?_⟩
  rcases h.2 with ⟨hv, _⟩ | ⟨g', cap', cur, hv, hb, hg', rest⟩
  · cases hv
  · refine .inr ⟨g', cap', cur, hv, hb, ?_, rest⟩
    injection hv with ha
    injection ha with ha
    injection ha with ha
    rw [← ha] at hg' ⊢
    exact hg.trans hg'
theorem SgOK.ne {w : World} {base base' g off cap : Nat} {e : El} {l : List El} (h : SgOK w base e) (hq : QAt w base' g off cap l) : e.g ≠ g := by
  intro heq
  rcases h.2 with ⟨hv, _⟩ | ⟨g', cap', cur, hv, hb, hg', rest⟩
  · cases hv
  · injection hv with ha
    injection ha with ha
    injection ha with ha
    obtain ⟨_, cur2, h2, _⟩ := hq
    rw [← ha, heq, h2] at hg'
    injection hg' with hg'
    injection hg' with _ hg'
    exact absurd hg' (by decide)
theorem SgOK.lt {w : World} {base : Nat} {e : El} (h : SgOK w base e) : base ≤ e.g ∧ e.g < w.heap.size := World.ownsRow.lt h e.g rfl

theorem sortTree_any {w : World} {base g off cap : Nat} {l : List El} (hq : QAt w base g off cap l) (hs : ∀ e ∈ l, SgOK w base e) (hf : Forest (l.map El.tr)) (hn : l.length ≤ 1000) (h0 : 0 < l.length) :
    Calls Try.prog 66 #[.slice (some ⟨g, off, none⟩) l.length cap, .func (.func 67) #[] #[]] w fun e w' =>
      e = .returned (.tuple #[]) ∧ ∃ l', l'.Perm l ∧ Srt (l'.map El.tr) ∧ QAt w' base g off cap l' ∧ w.grownBy w' (some g) := by
  obtain ⟨n, hnl⟩ : ∃ n, n = l.length := ⟨_, rfl⟩
  have h0' : 0 < n := by omega
  haveI : Inhabited (Fin n) := ⟨⟨0, h0'⟩⟩
  obtain ⟨el, hel⟩ : ∃ el : Fin n → El, el = fun i => l[i.val]'(by have := i.isLt; omega) := ⟨_, rfl⟩
  have hmem : ∀ i, el i ∈ l := fun i => by rw [hel]; exact List.getElem_mem _
  have hmap : (List.finRange n).map el = l := by
    apply List.ext_getElem
    · simp [hnl]
    · intro i h1 h2
      simp [hel]
  have hfl : ∀ d : List (Fin n), (Go.Sort.flatK (fun i => elCells (el i)) 2 d.toArray).toList = (d.map el).flatMap elCells := fun d => by
    rw [flatK_list (fun i => elCells (el i)) 2 (fun _ => rfl) (by omega), List.flatMap_map]
  obtain ⟨d, hd⟩ : ∃ d, d = (List.finRange n).toArray := ⟨_, rfl⟩
  have hdn : d.size = n := by rw [hd]; simp
  have hH : Go.Sort.HoldsK (fun i => elCells (el i)) 2 w g off d := hq.holdsK _ _ (by rw [hd, hfl, hmap])
  have eg : ∀ args w, (callFunc 67 args).run Try.prog w = .ok (.enter 67 args) w := enters_of Try.func67 (by kernel_rfl) rfl
  have hvt : ∀ i, VT (el i).tr := fun i => hf.vt _ (List.mem_map_of_mem (hmem i))
  have hcmp : Go.Proofs.CmpLays Try.prog 67 #[] (fun i => elCells (el i)) 2 (fun i j => cmpE (el i) (el j)) g off d.size w := by
    intro m os dk hdk x y
    have keep : ∀ k, k ≠ g → k < w.heap.size → (Go.Proofs.sortWorldK (fun i => elCells (el i)) 2 w g off m dk os).heap[k]? = w.heap[k]? := by
      intro k hk hlt
      have e : (dk.toList.map el).length = l.length := by simp [hdk, hdn, hnl]
      exact ((hq.sorted (m := m) (os := os) (fun i => elCells (el i)) dk (by rw [← hfl, Array.toArray_toList]) e).2).block k hlt (fun e => hk (by injection e))
    have sx := hs _ (hmem x)
    have sy := hs _ (hmem y)
    obtain ⟨a1, a2⟩ := (sx.kept (keep _ (sx.ne hq) sx.lt.2)).head (hvt x)
    obtain ⟨b1, b2⟩ := (sy.kept (keep _ (sy.ne hq) sy.lt.2)).head (hvt y)
    exact order_raw _ _ _ _ _ _ _ _ _ _ _ a1 b1 a2 b2
  have hlt : ∀ i j : Fin n, Go.Proofs.ltOf (fun i j => cmpE (el i) (el j)) i j = keyLt (el i).tr (el j).tr := fun i j => cmpE_lt (el i) (el j)
  have hO : SWO (Go.Proofs.ltOf fun (i j : Fin n) => cmpE (el i) (el j)) := by
    refine ⟨fun x => ?_, fun x y z h1 h2 => ?_, fun x y z h1 h2 => ?_⟩
    · rw [hlt, Bool.eq_false_iff]; intro h; have := (keyLt_iff _ _).1 h; omega
    · rw [hlt] at *
      rw [keyLt_iff] at *
      omega
    · rw [hlt] at *
      rw [Bool.eq_false_iff] at *
      intro h
      rw [ne_eq, keyLt_iff] at h1 h2
      rw [keyLt_iff] at h
      omega
  have hcon := Go.Proofs.AnyQ.slices_SortFunc Try.sortTree 2 Try.isAgg109 Try.sizeOf109 (fun i => elCells (el i)) (fun _ => rfl) (fun x v hv => by simp [elCells] at hv; rcases hv with rfl | rfl <;> rfl) (fun i j => cmpE (el i) (el j)) hO 67 #[] g off cap d w eg hcmp hH hq.lt (by omega)
  change Calls Try.prog 66 _ _ _ at hcon
  rw [hdn] at hcon
  rw [← hnl]
  refine hcon.mono ?_
  rintro e w' ⟨rfl, d', m, os, hp, hss, rfl⟩
  have hp' : PermIn 0 (List.finRange n).toArray.size (List.finRange n).toArray d' := by
    rw [← hd, hdn]; exact hp
  obtain ⟨hp1, hp2⟩ := perm_of hp'
  have hpl : (d'.toList.map el).Perm l := by
    have := hp1.map el
    rwa [hmap] at this
  have hsrt := sorted_of (n := n) (by simpa using hp2) hss
  obtain ⟨r1, r2⟩ := hq.sorted (m := m) (os := os) (fun i => elCells (el i)) d' (l' := d'.toList.map el) (by rw [← hfl, Array.toArray_toList]) hpl.length_eq
  refine ⟨rfl, d'.toList.map el, hpl, ?_, r1, r2⟩
  have hkd : KD ((d'.toList.map el).map El.tr) := hf.kd.perm (hpl.map El.tr).symm
  unfold Srt
  unfold KD at hkd
  rw [List.map_map, List.pairwise_map] at hkd ⊢
  refine (hsrt.and hkd).imp ?_
  rintro a b ⟨h1, h2⟩
  rw [hlt, Bool.eq_false_iff, ne_eq, keyLt_iff] at h1
  rw [keyLt_iff]
  simp only [Function.comp] at h2 ⊢
  omega

end Go.Proofs.Ytgfkkjcnnecefaa

/- The walk of (*maker).tok. -/
namespace Go.Proofs.Ytgfkkjcnnecefaa
open Go.RowKit Go.Lib Pl
attribute [local go_sem] ext_list app_list

theorem free_row (w : World) (b i : Nat) (c : Array Value) (t : TypeId) (h : w.heap[b]? = some (.cells c t (0, 0))) : w.frozen? ⟨b, i, none⟩ = false := by simp [World.frozen?, h]
theorem after_grown {w w1 : World} {base M n k : Nat} {o : Obj} {cs : Array Value} {fz : Nat × Nat} {v : Value} {xs : List Value} (hblk : w.heap[M]? = some (.cells cs 78 fz)) (hown : OwnM w base 5 1 v n xs)
    (hg : ((w.alloc o).drewN k).drew.grownBy w1 v.ownBlock) : w1.heap[M]? = some (.cells cs 78 fz) := by
  have hlt : M < w.heap.size := (Array.getElem?_eq_some_iff.1 hblk).1
  have h1 : M < ((w.alloc o).drewN k).drew.heap.size := by
    show M < (w.alloc o).heap.size
    simp; omega
  exact (hg.block M h1 (fun e => mk_far hblk hown e.symm)).trans ((Below.heap_alloc w o M hlt).trans hblk)

theorem below_drew_alloc (w : World) (o : Obj) (k : Nat) : Below w.heap.size w ((w.alloc o).drewN k).drew := (below_drewN ((Below.refl _ _).alloc (Nat.le_refl _) o) k).drew

set_option maxHeartbeats 1000000 in
set_option maxRecDepth 100000 in
theorem tok_litok (base M d : Nat) (lit : Bool) (s l : Bytes) (far len : Int) (w : World) (hM : Mk w base M d lit s) (hd : d ≤ s.length) (hs : s.length ≤ d + 512) (hd2 : d ≤ 256)
    (hl : l ≠ []) (h0 : far = 0 ∧ len = 0 ∧ lit = false) (hr : l.length + (s.length - d) ≤ 512) :
    Calls Try.prog 53 #[.pointer (some ⟨M, 0, none⟩), .agg #[S l, I far, I len]] w fun e w' => e = .returned (I 0) ∧ Mk w' base M d true (s ++ l) ∧ Below base w w' ∧ Keeps badMk w w' := by
  obtain ⟨hbM, A, cap, hblk, hown⟩ := hM
  obtain ⟨rfl, rfl, rfl⟩ := h0
  have hlt : M < w.heap.size := (Array.getElem?_eq_some_iff.1 hblk).1
  have c0 : w.cell? ⟨M, 0, none⟩ = some (.slice A s.length cap) := by rw [cell_of_row w M 0 _ _ _ hblk]; rfl
  have c1 : w.cell? ⟨M, 1, none⟩ = some (.int .i64 d) := by rw [cell_of_row w M 1 _ _ _ hblk]; rfl
  have c2 : w.cell? ⟨M, 2, none⟩ = some (.bool false) := by rw [cell_of_row w M 2 _ _ _ hblk]; rfl
  have f0 : w.frozen? ⟨M, 0, none⟩ = false := by simp [World.frozen?, hblk]
  have f2 : w.frozen? ⟨M, 2, none⟩ = false := by simp [World.frozen?, hblk]
  have hl1 : l.isEmpty = false := by simpa using hl
  have hl2 : (l == []) = false := by simpa using hl
  have hk1 : (0 : Int) ≤ (s.length : Int) - (d : Int) := by omega
  have hk2 : (s.length : Int) - (d : Int) ≤ 512 := by omega
  have hbH : base ≤ w.heap.size := by omega
  have hk3 : (l.length : Int) ≤ 512 - ((s.length : Int) - (d : Int)) := by omega
  obtain ⟨i0, hi0, hz0, hz1, hz2⟩ := info_parts info_u8
  have hB := hide hblk
  have hO := hide hown
  clear hblk hown hl
  go_enter Try.func53, Try.ntmps53
  go_wp2_with fail
  go_quiet (fail)
  go_wp2_with fail
  go_region_law (refine step_append_M_string rfl _ _ _ _ rfl base 5 i0 Try.underlying73 Try.underlying9 hi0 hz0 hz1 hz2 _ s.length (s.map B) rfl (by first | exact ((unhide hO).alloc _).drew | exact (((unhide hO).alloc _).drewN _) | exact (((unhide hO).alloc _).drewN _).drew) ⟨l.toArray⟩ rfl (by show s.length + l.length ≤ 9223372036854775807; omega) (by show s.length + l.length ≤ 140737488355328; omega) (by show base ≤ (w.alloc _).heap.size; simp; omega) ?_; intro A1 cap1 w1 hown1 hgrow1 hat1; have hm1 := after_grown (unhide hB) (unhide hO) hgrow1; have c0' := cell_of_row w1 M 0 _ _ _ hm1; have c2' := cell_of_row w1 M 2 _ _ _ hm1; simp at c0' c2'; have f0' := free_row w1 M 0 _ _ hm1; have f2' := free_row w1 M 2 _ _ hm1)
  all_goals
    go_wp2_with fail
    go_ret
    refine ⟨rfl, ?_⟩
    rw [strCells_list, ← List.map_append] at hown1
    refine mk_end hbM (unhide hB) (unhide hO) (below_drew_alloc w _ _) hown1 hgrow1 ?_ (fun k hk => ?_) (by rw [size_setCell, size_setCell]) rfl rfl rfl
    · rw [set_row (set_row hm1 _ _) _ _]; rfl
    · rw [Below.heap_setCell _ _ _ _ hk, Below.heap_setCell _ _ _ _ hk]

set_option maxHeartbeats 1000000 in
set_option maxRecDepth 100000 in
theorem tok_form1 (base M d : Nat) (lit : Bool) (s : Bytes) (l : Bytes) (far len : Int) (w : World) (hM : Mk w base M d lit s) (hd : d ≤ s.length) (hs : s.length ≤ d + 512)
    (hl : l ≠ []) (h0 : far ≠ 0) :
    Calls Try.prog 53 #[.pointer (some ⟨M, 0, none⟩), .agg #[S l, I far, I len]] w fun e w' => e = .returned (I 1) ∧ Below base w w' ∧ Keeps badMk w w' := by
  obtain ⟨hbM, A, cap, hblk, hown⟩ := hM
  have hlt : M < w.heap.size := (Array.getElem?_eq_some_iff.1 hblk).1
  have c0 : w.cell? ⟨M, 0, none⟩ = some (.slice A s.length cap) := by rw [cell_of_row w M 0 _ _ _ hblk]; rfl
  have c1 : w.cell? ⟨M, 1, none⟩ = some (.int .i64 d) := by rw [cell_of_row w M 1 _ _ _ hblk]; rfl
  have c2 : w.cell? ⟨M, 2, none⟩ = some (.bool lit) := by rw [cell_of_row w M 2 _ _ _ hblk]; rfl
  have hk1 : (0 : Int) ≤ (s.length : Int) - (d : Int) := by omega
  have hk2 : (s.length : Int) - (d : Int) ≤ 512 := by omega
  have hbH : base ≤ w.heap.size := by omega
  have hl1 : l.isEmpty = false := by simpa using hl
  have hl2 : (l == []) = false := by simpa using hl
  clear hl
  have h1 : (far == 0) = false := beq_eq_false_iff_ne.2 h0
  have h2 : (far != 0) = true := by rw [bne_iff_ne]; exact h0
  clear h0
  clear hblk hown
  go_enter Try.func53, Try.ntmps53
  go_wp2_with fail
  go_quiet (fail)
  go_wp2_with fail
  go_ret
  first | exact ⟨rfl, below_drewN ((Below.refl _ _).alloc hbH _) _, ((Keeps.refl _ _).alloc _).drewN _⟩ | exact ⟨rfl, below_drewN (below_drewN ((Below.refl _ _).alloc hbH _) _) _, (((Keeps.refl _ _).alloc _).drewN _).drewN _⟩

set_option maxHeartbeats 1000000 in
set_option maxRecDepth 100000 in
theorem tok_form2 (base M d : Nat) (lit : Bool) (s : Bytes) (l : Bytes) (far len : Int) (w : World) (hM : Mk w base M d lit s) (hd : d ≤ s.length) (hs : s.length ≤ d + 512)
    (hl : l ≠ []) (h0 : far = 0) (h9 : len ≠ 0) :
    Calls Try.prog 53 #[.pointer (some ⟨M, 0, none⟩), .agg #[S l, I far, I len]] w fun e w' => e = .returned (I 1) ∧ Below base w w' ∧ Keeps badMk w w' := by
  obtain ⟨hbM, A, cap, hblk, hown⟩ := hM
  have hlt : M < w.heap.size := (Array.getElem?_eq_some_iff.1 hblk).1
  have c0 : w.cell? ⟨M, 0, none⟩ = some (.slice A s.length cap) := by rw [cell_of_row w M 0 _ _ _ hblk]; rfl
  have c1 : w.cell? ⟨M, 1, none⟩ = some (.int .i64 d) := by rw [cell_of_row w M 1 _ _ _ hblk]; rfl
  have c2 : w.cell? ⟨M, 2, none⟩ = some (.bool lit) := by rw [cell_of_row w M 2 _ _ _ hblk]; rfl
  have hk1 : (0 : Int) ≤ (s.length : Int) - (d : Int) := by omega
  have hk2 : (s.length : Int) - (d : Int) ≤ 512 := by omega
  have hbH : base ≤ w.heap.size := by omega
  have hl1 : l.isEmpty = false := by simpa using hl
  have hl2 : (l == []) = false := by simpa using hl
  clear hl
  subst h0
  have h1 : (len == 0) = false := beq_eq_false_iff_ne.2 h9
  have h2 : (len != 0) = true := by rw [bne_iff_ne]; exact h9
  clear h9
  clear hblk hown
  go_enter Try.func53, Try.ntmps53
  go_wp2_with fail
  go_quiet (fail)
  go_wp2_with fail
  go_ret
  first | exact ⟨rfl, below_drewN ((Below.refl _ _).alloc hbH _) _, ((Keeps.refl _ _).alloc _).drewN _⟩ | exact ⟨rfl, below_drewN (below_drewN ((Below.refl _ _).alloc hbH _) _) _, (((Keeps.refl _ _).alloc _).drewN _).drewN _⟩

set_option maxHeartbeats 1000000 in
set_option maxRecDepth 100000 in
theorem tok_form3 (base M d : Nat) (lit : Bool) (s : Bytes) (l : Bytes) (far len : Int) (w : World) (hM : Mk w base M d lit s) (hd : d ≤ s.length) (hs : s.length ≤ d + 512)
    (hl : l ≠ []) (h0 : far = 0) (h9 : len = 0) (h8 : lit = true) :
    Calls Try.prog 53 #[.pointer (some ⟨M, 0, none⟩), .agg #[S l, I far, I len]] w fun e w' => e = .returned (I 1) ∧ Below base w w' ∧ Keeps badMk w w' := by
  obtain ⟨hbM, A, cap, hblk, hown⟩ := hM
  have hlt : M < w.heap.size := (Array.getElem?_eq_some_iff.1 hblk).1
  have c0 : w.cell? ⟨M, 0, none⟩ = some (.slice A s.length cap) := by rw [cell_of_row w M 0 _ _ _ hblk]; rfl
  have c1 : w.cell? ⟨M, 1, none⟩ = some (.int .i64 d) := by rw [cell_of_row w M 1 _ _ _ hblk]; rfl
  have c2 : w.cell? ⟨M, 2, none⟩ = some (.bool lit) := by rw [cell_of_row w M 2 _ _ _ hblk]; rfl
  have hk1 : (0 : Int) ≤ (s.length : Int) - (d : Int) := by omega
  have hk2 : (s.length : Int) - (d : Int) ≤ 512 := by omega
  have hbH : base ≤ w.heap.size := by omega
  have hl1 : l.isEmpty = false := by simpa using hl
  have hl2 : (l == []) = false := by simpa using hl
  clear hl
  subst h0 h9 h8
  clear hblk hown
  go_enter Try.func53, Try.ntmps53
  go_wp2_with fail
  go_quiet (fail)
  go_wp2_with fail
  go_ret
  first | exact ⟨rfl, below_drewN ((Below.refl _ _).alloc hbH _) _, ((Keeps.refl _ _).alloc _).drewN _⟩ | exact ⟨rfl, below_drewN (below_drewN ((Below.refl _ _).alloc hbH _) _) _, (((Keeps.refl _ _).alloc _).drewN _).drewN _⟩

set_option maxHeartbeats 1000000 in
set_option maxRecDepth 100000 in
theorem tok_many (base M d : Nat) (lit : Bool) (s : Bytes) (l : Bytes) (far len : Int) (w : World) (hM : Mk w base M d lit s) (hd : d ≤ s.length) (hs : s.length ≤ d + 512)
    (hl : l ≠ []) (h0 : far = 0) (h9 : len = 0) (h8 : lit = false) (hr : 512 < l.length + (s.length - d)) :
    Calls Try.prog 53 #[.pointer (some ⟨M, 0, none⟩), .agg #[S l, I far, I len]] w fun e w' => e = .returned (I 2) ∧ Below base w w' ∧ Keeps badMk w w' := by
  obtain ⟨hbM, A, cap, hblk, hown⟩ := hM
  have hlt : M < w.heap.size := (Array.getElem?_eq_some_iff.1 hblk).1
  have c0 : w.cell? ⟨M, 0, none⟩ = some (.slice A s.length cap) := by rw [cell_of_row w M 0 _ _ _ hblk]; rfl
  have c1 : w.cell? ⟨M, 1, none⟩ = some (.int .i64 d) := by rw [cell_of_row w M 1 _ _ _ hblk]; rfl
  have c2 : w.cell? ⟨M, 2, none⟩ = some (.bool lit) := by rw [cell_of_row w M 2 _ _ _ hblk]; rfl
  have hk1 : (0 : Int) ≤ (s.length : Int) - (d : Int) := by omega
  have hk2 : (s.length : Int) - (d : Int) ≤ 512 := by omega
  have hbH : base ≤ w.heap.size := by omega
  have hl1 : l.isEmpty = false := by simpa using hl
  have hl2 : (l == []) = false := by simpa using hl
  clear hl
  subst h0 h9 h8
  have hk3 : 512 - ((s.length : Int) - (d : Int)) < (l.length : Int) := by omega
  clear hblk hown
  go_enter Try.func53, Try.ntmps53
  go_wp2_with fail
  go_quiet (fail)
  go_wp2_with fail
  go_ret
  first | exact ⟨rfl, below_drewN ((Below.refl _ _).alloc hbH _) _, ((Keeps.refl _ _).alloc _).drewN _⟩ | exact ⟨rfl, below_drewN (below_drewN ((Below.refl _ _).alloc hbH _) _) _, (((Keeps.refl _ _).alloc _).drewN _).drewN _⟩

set_option maxHeartbeats 1000000 in
set_option maxRecDepth 100000 in
theorem tok_copy1 (base M d : Nat) (lit : Bool) (s : Bytes) (l : Bytes) (far len : Int) (w : World) (hM : Mk w base M d lit s) (hd : d ≤ s.length) (hs : s.length ≤ d + 512)
    (hl : l = []) (h0 : len < 3) :
    Calls Try.prog 53 #[.pointer (some ⟨M, 0, none⟩), .agg #[S l, I far, I len]] w fun e w' => e = .returned (I 1) ∧ Below base w w' ∧ Keeps badMk w w' := by
  obtain ⟨hbM, A, cap, hblk, hown⟩ := hM
  have hlt : M < w.heap.size := (Array.getElem?_eq_some_iff.1 hblk).1
  have c0 : w.cell? ⟨M, 0, none⟩ = some (.slice A s.length cap) := by rw [cell_of_row w M 0 _ _ _ hblk]; rfl
  have c1 : w.cell? ⟨M, 1, none⟩ = some (.int .i64 d) := by rw [cell_of_row w M 1 _ _ _ hblk]; rfl
  have c2 : w.cell? ⟨M, 2, none⟩ = some (.bool lit) := by rw [cell_of_row w M 2 _ _ _ hblk]; rfl
  have hk1 : (0 : Int) ≤ (s.length : Int) - (d : Int) := by omega
  have hk2 : (s.length : Int) - (d : Int) ≤ 512 := by omega
  have hbH : base ≤ w.heap.size := by omega
  subst hl
  have e1 : decide (len < 3) = true := by simpa using h0
  clear hblk hown
  go_enter Try.func53, Try.ntmps53
  go_wp2_with fail
  go_quiet (fail)
  go_wp2_with fail
  go_quiet (fail)
  go_wp2_with fail
  go_ret
  first | exact ⟨rfl, below_drewN ((Below.refl _ _).alloc hbH _) _, ((Keeps.refl _ _).alloc _).drewN _⟩ | exact ⟨rfl, below_drewN (below_drewN ((Below.refl _ _).alloc hbH _) _) _, (((Keeps.refl _ _).alloc _).drewN _).drewN _⟩

set_option maxHeartbeats 1000000 in
set_option maxRecDepth 100000 in
theorem tok_copy2 (base M d : Nat) (lit : Bool) (s : Bytes) (l : Bytes) (far len : Int) (w : World) (hM : Mk w base M d lit s) (hd : d ≤ s.length) (hs : s.length ≤ d + 512)
    (hl : l = []) (h0 : 64 < len) :
    Calls Try.prog 53 #[.pointer (some ⟨M, 0, none⟩), .agg #[S l, I far, I len]] w fun e w' => e = .returned (I 1) ∧ Below base w w' ∧ Keeps badMk w w' := by
  obtain ⟨hbM, A, cap, hblk, hown⟩ := hM
  have hlt : M < w.heap.size := (Array.getElem?_eq_some_iff.1 hblk).1
  have c0 : w.cell? ⟨M, 0, none⟩ = some (.slice A s.length cap) := by rw [cell_of_row w M 0 _ _ _ hblk]; rfl
  have c1 : w.cell? ⟨M, 1, none⟩ = some (.int .i64 d) := by rw [cell_of_row w M 1 _ _ _ hblk]; rfl
  have c2 : w.cell? ⟨M, 2, none⟩ = some (.bool lit) := by rw [cell_of_row w M 2 _ _ _ hblk]; rfl
  have hk1 : (0 : Int) ≤ (s.length : Int) - (d : Int) := by omega
  have hk2 : (s.length : Int) - (d : Int) ≤ 512 := by omega
  have hbH : base ≤ w.heap.size := by omega
  subst hl
  have e1 : decide (len < 3) = false := by simp; omega
  have e2 : decide (64 < len) = true := by simpa using h0
  clear hblk hown
  go_enter Try.func53, Try.ntmps53
  go_wp2_with fail
  go_quiet (fail)
  go_wp2_with fail
  go_quiet (fail)
  go_wp2_with fail
  go_ret
  first | exact ⟨rfl, below_drewN ((Below.refl _ _).alloc hbH _) _, ((Keeps.refl _ _).alloc _).drewN _⟩ | exact ⟨rfl, below_drewN (below_drewN ((Below.refl _ _).alloc hbH _) _) _, (((Keeps.refl _ _).alloc _).drewN _).drewN _⟩

set_option maxHeartbeats 1000000 in
set_option maxRecDepth 100000 in
theorem tok_copy3 (base M d : Nat) (lit : Bool) (s : Bytes) (l : Bytes) (far len : Int) (w : World) (hM : Mk w base M d lit s) (hd : d ≤ s.length) (hs : s.length ≤ d + 512)
    (hl : l = []) (h0 : 3 ≤ len) (h1 : len ≤ 64) (h2 : far < 1) :
    Calls Try.prog 53 #[.pointer (some ⟨M, 0, none⟩), .agg #[S l, I far, I len]] w fun e w' => e = .returned (I 1) ∧ Below base w w' ∧ Keeps badMk w w' := by
  obtain ⟨hbM, A, cap, hblk, hown⟩ := hM
  have hlt : M < w.heap.size := (Array.getElem?_eq_some_iff.1 hblk).1
  have c0 : w.cell? ⟨M, 0, none⟩ = some (.slice A s.length cap) := by rw [cell_of_row w M 0 _ _ _ hblk]; rfl
  have c1 : w.cell? ⟨M, 1, none⟩ = some (.int .i64 d) := by rw [cell_of_row w M 1 _ _ _ hblk]; rfl
  have c2 : w.cell? ⟨M, 2, none⟩ = some (.bool lit) := by rw [cell_of_row w M 2 _ _ _ hblk]; rfl
  have hk1 : (0 : Int) ≤ (s.length : Int) - (d : Int) := by omega
  have hk2 : (s.length : Int) - (d : Int) ≤ 512 := by omega
  have hbH : base ≤ w.heap.size := by omega
  subst hl
  have e1 : decide (len < 3) = false := by simp; omega
  have e2 : decide (64 < len) = false := by simp; omega
  have e3 : decide (far < 1) = true := by simpa using h2
  clear hblk hown
  go_enter Try.func53, Try.ntmps53
  go_wp2_with fail
  go_quiet (fail)
  go_wp2_with fail
  go_quiet (fail)
  go_wp2_with fail
  go_ret
  first | exact ⟨rfl, below_drewN ((Below.refl _ _).alloc hbH _) _, ((Keeps.refl _ _).alloc _).drewN _⟩ | exact ⟨rfl, below_drewN (below_drewN ((Below.refl _ _).alloc hbH _) _) _, (((Keeps.refl _ _).alloc _).drewN _).drewN _⟩

set_option maxHeartbeats 1000000 in
set_option maxRecDepth 100000 in
theorem tok_copy4 (base M d : Nat) (lit : Bool) (s : Bytes) (l : Bytes) (far len : Int) (w : World) (hM : Mk w base M d lit s) (hd : d ≤ s.length) (hs : s.length ≤ d + 512)
    (hl : l = []) (h0 : 3 ≤ len) (h1 : len ≤ 64) (h2 : 1 ≤ far) (h3 : (s.length : Int) < far) :
    Calls Try.prog 53 #[.pointer (some ⟨M, 0, none⟩), .agg #[S l, I far, I len]] w fun e w' => e = .returned (I 1) ∧ Below base w w' ∧ Keeps badMk w w' := by
  obtain ⟨hbM, A, cap, hblk, hown⟩ := hM
  have hlt : M < w.heap.size := (Array.getElem?_eq_some_iff.1 hblk).1
  have c0 : w.cell? ⟨M, 0, none⟩ = some (.slice A s.length cap) := by rw [cell_of_row w M 0 _ _ _ hblk]; rfl
  have c1 : w.cell? ⟨M, 1, none⟩ = some (.int .i64 d) := by rw [cell_of_row w M 1 _ _ _ hblk]; rfl
  have c2 : w.cell? ⟨M, 2, none⟩ = some (.bool lit) := by rw [cell_of_row w M 2 _ _ _ hblk]; rfl
  have hk1 : (0 : Int) ≤ (s.length : Int) - (d : Int) := by omega
  have hk2 : (s.length : Int) - (d : Int) ≤ 512 := by omega
  have hbH : base ≤ w.heap.size := by omega
  subst hl
  have e1 : decide (len < 3) = false := by simp; omega
  have e2 : decide (64 < len) = false := by simp; omega
  have e3 : decide (far < 1) = false := by simp; omega
  have e4 : decide ((s.length : Int) < far) = true := by simpa using h3
  clear hblk hown
  go_enter Try.func53, Try.ntmps53
  go_wp2_with fail
  go_quiet (fail)
  go_wp2_with fail
  go_quiet (fail)
  go_wp2_with fail
  go_ret
  first | exact ⟨rfl, below_drewN ((Below.refl _ _).alloc hbH _) _, ((Keeps.refl _ _).alloc _).drewN _⟩ | exact ⟨rfl, below_drewN (below_drewN ((Below.refl _ _).alloc hbH _) _) _, (((Keeps.refl _ _).alloc _).drewN _).drewN _⟩

set_option maxHeartbeats 1000000 in
set_option maxRecDepth 100000 in
theorem tok_copy5 (base M d : Nat) (lit : Bool) (s : Bytes) (l : Bytes) (far len : Int) (w : World) (hM : Mk w base M d lit s) (hd : d ≤ s.length) (hs : s.length ≤ d + 512)
    (hl : l = []) (h0 : 3 ≤ len) (h1 : len ≤ 64) (h2 : 1 ≤ far) (h3 : far ≤ (s.length : Int)) (hr : 512 < len + ((s.length - d : Nat) : Int)) :
    Calls Try.prog 53 #[.pointer (some ⟨M, 0, none⟩), .agg #[S l, I far, I len]] w fun e w' => e = .returned (I 2) ∧ Below base w w' ∧ Keeps badMk w w' := by
  obtain ⟨hbM, A, cap, hblk, hown⟩ := hM
  have hlt : M < w.heap.size := (Array.getElem?_eq_some_iff.1 hblk).1
  have c0 : w.cell? ⟨M, 0, none⟩ = some (.slice A s.length cap) := by rw [cell_of_row w M 0 _ _ _ hblk]; rfl
  have c1 : w.cell? ⟨M, 1, none⟩ = some (.int .i64 d) := by rw [cell_of_row w M 1 _ _ _ hblk]; rfl
  have c2 : w.cell? ⟨M, 2, none⟩ = some (.bool lit) := by rw [cell_of_row w M 2 _ _ _ hblk]; rfl
  have hk1 : (0 : Int) ≤ (s.length : Int) - (d : Int) := by omega
  have hk2 : (s.length : Int) - (d : Int) ≤ 512 := by omega
  have hbH : base ≤ w.heap.size := by omega
  subst hl
  have e1 : decide (len < 3) = false := by simp; omega
  have e2 : decide (64 < len) = false := by simp; omega
  have e3 : decide (far < 1) = false := by simp; omega
  have e4 : decide ((s.length : Int) < far) = false := by simp; omega
  have hk3 : 512 - ((s.length : Int) - (d : Int)) < len := by omega
  clear hblk hown
  go_enter Try.func53, Try.ntmps53
  go_wp2_with fail
  go_quiet (fail)
  go_wp2_with fail
  go_quiet (fail)
  go_wp2_with fail
  go_ret
  first | exact ⟨rfl, below_drewN ((Below.refl _ _).alloc hbH _) _, ((Keeps.refl _ _).alloc _).drewN _⟩ | exact ⟨rfl, below_drewN (below_drewN ((Below.refl _ _).alloc hbH _) _) _, (((Keeps.refl _ _).alloc _).drewN _).drewN _⟩

end Go.Proofs.Ytgfkkjcnnecefaa

/- The walk of (*maker).tok where it copies. -/
namespace Go.Proofs.Ytgfkkjcnnecefaa
open Go.RowKit Go.Lib Pl
attribute [local go_sem] ext_list app_list

set_option maxHeartbeats 1000000 in
set_option maxRecDepth 100000 in
theorem tok_copyok (base M d : Nat) (lit : Bool) (s : Bytes) (far len : Nat) (w : World) (hM : Mk w base M d lit s) (hd : d ≤ s.length) (hs : s.length ≤ d + 512) (hd2 : d ≤ 256)
    (h0 : 3 ≤ len) (h1 : len ≤ 64) (h2 : 1 ≤ far) (h3 : far ≤ s.length) (hr : len + (s.length - d) ≤ 512) :
    Calls Try.prog 53 #[.pointer (some ⟨M, 0, none⟩), .agg #[S [], I far, I len]] w fun e w' => e = .returned (I 0) ∧ Mk w' base M d false (copyB len far s) ∧ Below base w w' ∧ Keeps badMk w w' := by
  have hM0 := hM
  obtain ⟨hbM, A, cap, hblk, hown⟩ := hM
  have hlt : M < w.heap.size := (Array.getElem?_eq_some_iff.1 hblk).1
  have c0 : w.cell? ⟨M, 0, none⟩ = some (.slice A s.length cap) := by rw [cell_of_row w M 0 _ _ _ hblk]; rfl
  have c1 : w.cell? ⟨M, 1, none⟩ = some (.int .i64 d) := by rw [cell_of_row w M 1 _ _ _ hblk]; rfl
  have hk1 : (0 : Int) ≤ (s.length : Int) - (d : Int) := by omega
  have hk2 : (s.length : Int) - (d : Int) ≤ 512 := by omega
  have hbH : base ≤ w.heap.size := by omega
  have e1 : decide ((len : Int) < 3) = false := by simp; omega
  have e2 : decide (64 < (len : Int)) = false := by simp; omega
  have e3 : decide ((far : Int) < 1) = false := by simp; omega
  have e4 : decide ((s.length : Int) < (far : Int)) = false := by simp; omega
  have e5 : decide (s.length < far) = false := by simp; omega
  have hk3 : (len : Int) ≤ 512 - ((s.length : Int) - (d : Int)) := by omega
  have HM := hide hM0
  obtain ⟨i0, hi0, hz0, hz1, hz2⟩ := info_parts info_u8
  clear hblk hown hM0
  go_enter Try.func53, Try.ntmps53
  go_wp2_with fail
  go_quiet (fail)
  go_wp2_with fail
  go_quiet (fail)
  go_wp2_with fail
  clear e1 e2 e3 e4 e5 c0 c1
  go_loopw [82] (fun i wr => ∃ k : Nat, k ≤ len ∧ i = .int .i64 k ∧ Mk wr base M d lit (copyB k far s) ∧ Below base w wr ∧ Keeps badMk w wr ∧ wr.heap[w.heap.size]? = some (.cells #[S [], I far, I len] 80 (0, 0)))
    (fun i _ => len - (intOf i).toNat)
  case atStart =>
    refine ⟨0, by omega, rfl, ?_, ?_, ?_, ?_⟩
    · obtain ⟨a1, A, cap, a2, a3⟩ := unhide HM
      exact ⟨a1, A, cap, (Below.heap_alloc w _ M hlt).trans a2, (a3.alloc _)⟩
    · exact below_drewN ((Below.refl _ _).alloc hbH _) _
    · exact ((Keeps.refl _ _).alloc _).drewN _
    · exact heap_alloc_new w _
  case round =>
    obtain ⟨k, hk, rfl, hMk, hbel, hkeep, hpar⟩ := hrel
    have hlen := copyB_len k far s
    obtain ⟨s', hs'⟩ : ∃ s', s' = copyB k far s := ⟨_, rfl⟩
    rw [← hs'] at hlen hMk
    have hMk' := hMk
    obtain ⟨_, A1, cap1, hblk1, hown1⟩ := hMk
    have hMlt1 : M < wr.heap.size := (Array.getElem?_eq_some_iff.1 hblk1).1
    have c0 : wr.cell? ⟨M, 0, none⟩ = some (.slice A1 s'.length cap1) := by rw [cell_of_row wr M 0 _ _ _ hblk1]; rfl
    have c2 : wr.cell? ⟨M, 2, none⟩ = some (.bool lit) := by rw [cell_of_row wr M 2 _ _ _ hblk1]; rfl
    have p1 : wr.cell? ⟨w.heap.size, 1, none⟩ = some (I far) := by rw [cell_of_row wr _ 1 _ _ _ hpar]; rfl
    have p2 : wr.cell? ⟨w.heap.size, 2, none⟩ = some (I len) := by rw [cell_of_row wr _ 2 _ _ _ hpar]; rfl
    have f0 : wr.frozen? ⟨M, 0, none⟩ = false := by simp [World.frozen?, hblk1]
    have f2 : wr.frozen? ⟨M, 2, none⟩ = false := by simp [World.frozen?, hblk1]
    have hln : (s'.length : Int) = (s.length : Int) + k := by omega
    have HL := hide hln
    have hb3 : s'.length ≤ 832 := by omega
    by_cases hlk : k < len
    · obtain ⟨j, hj⟩ : ∃ j : Nat, j = s'.length - far := ⟨_, rfl⟩
      have hjlt : j < s'.length := by omega
      have hj2 : ((s'.length : Int) - (far : Int)).toNat = j := by omega
      have hj3 : (0 : Int) ≤ (s'.length : Int) - (far : Int) := by omega
      have hj4 : (s'.length : Int) - (far : Int) < (s'.length : Int) := by omega
      obtain ⟨g, capg, u, hv, hbg, hu, hcell⟩ := hown1.at_ (k := j) (by omega)
      injection hv with hvA _ hvc
      subst hvA hvc
      obtain ⟨c, hc⟩ : ∃ c, s'[j]? = some c := ⟨_, List.getElem?_eq_getElem hjlt⟩
      have huc : u = B c := by
        rw [List.getElem?_map, hc] at hu; simpa using hu.symm
      subst huc
      have HS := hide hs'
      have HJ := hide hj
      have HC := hide hc
      have HB := hide hblk1
      have HO := hide hown1
      have HP := hide hpar
      clear hlen hs' hj hu hblk1 hown1 hpar hln hc
      go_wp2_with fail
      go_quiet (fail)
      go_wp2_with (at_builtin; refine wpList_push_M rfl _ _ _ rfl base 5 i0 _ 1 Try.underlying73 hi0 hz0 hz1 hz2 rfl _ s'.length (s'.map B) rfl _ _ (by exact (unhide HO).drewN _) rfl rfl (by unfold maxLen; omega) (by omega) (by show base ≤ wr.heap.size; omega) ?_; intro g1 cap2 w1 hown1 hg1 hat1; have hm1 := mk_after (unhide HB) (unhide HO) (below_drewN_alloc wr _ _) hg1; have c0' := cell_of_row w1 M 0 _ _ _ hm1; simp at c0'; have f0' := free_row w1 M 0 _ _ hm1)
      have hend := mk_end (w2 := w1.setCell ⟨M, 0, none⟩ (.slice (some ⟨g1, 0, none⟩) (s'.length + 1) cap2)) (s1 := s' ++ [c]) hbM (unhide HB) (unhide HO) (below_drewN_alloc wr _ _) (by simpa using hown1) hg1 (by rw [set_row hm1]; rfl) (fun k hk => Below.heap_setCell _ _ _ _ hk) (size_setCell _ _ _) rfl rfl rfl
      obtain ⟨n1, n2, n3⟩ := hend
      clear hown1 hg1 hat1 hm1 c0' f0'
      go_roundw
      case rel =>
        refine ⟨k + 1, by omega, by go_num, ?_, hbel.trans n2, hkeep.trans n3, n3.block _ _ (unhide HP) rfl⟩
        rw [copyB_snoc, ← unhide HS, ← unhide HJ]
        have : s'.getD j 0 = c := by rw [List.getD_eq_getElem?_getD, unhide HC]; rfl
        rw [this]; exact n1
      case measure => simp [intOf]; omega
    · have hkl : k = len := by omega
      have HS := hide hs'
      have HB := hide hblk1
      have HO := hide hown1
      have HK := hide hkl
      clear hlen hs' hblk1 hown1 hpar hln hkl
      go_wp2_with fail
      go_ret
      rw [← unhide HK, ← unhide HS]
      refine ⟨rfl, ⟨hbM, A1, cap1, (set_row (unhide HB) _ _), (unhide HO).setCell (mk_far (unhide HB) (unhide HO)) _⟩, hbel.trans ?_, hkeep.trans ((Keeps.refl _ _).setCell _ (unhide HB) rfl)⟩
      exact (Below.refl _ _).setCell hbM _

end Go.Proofs.Ytgfkkjcnnecefaa

/- (*maker).tok by one contract. -/
namespace Go.Proofs.Ytgfkkjcnnecefaa
open Go.RowKit Go.Lib Pl

theorem tokE_le (d : Nat) (s : Bytes) (lit : Bool) (t : Tok) : tokE d s lit t ≤ 2 := by
  unfold tokE
  by_cases h1 : t.lit ≠ []
  · rw [if_pos h1]
    by_cases h2 : t.far ≠ 0 ∨ t.len ≠ 0 ∨ lit = true
    · rw [if_pos h2]; omega
    · rw [if_neg h2]; by_cases h3 : 512 < t.lit.length + (s.length - d)
      · rw [if_pos h3]; omega
      · rw [if_neg h3]; omega
  · rw [if_neg h1]
    by_cases h2 : t.len < 3 ∨ 64 < t.len ∨ t.far < 1 ∨ (s.length : Int) < t.far
    · rw [if_pos h2]; omega
    · rw [if_neg h2]; by_cases h3 : 512 < t.len + ((s.length - d : Nat) : Int)
      · rw [if_pos h3]; omega
      · rw [if_neg h3]; omega

theorem tok_any (base M d : Nat) (lit : Bool) (s : Bytes) (t : Tok) (w : World) (hM : Mk w base M d lit s) (hd : d ≤ s.length) (hs : s.length ≤ d + 512) (hd2 : d ≤ 256) :
    Calls Try.prog 53 #[.pointer (some ⟨M, 0, none⟩), TokV t] w fun e w' =>
      e = .returned (I (tokE d s lit t)) ∧ (tokE d s lit t = 0 → Mk w' base M d (isLit t) (tokS s t)) ∧ Below base w w' ∧ Keeps badMk w w' := by
  obtain ⟨l, far, len⟩ := t
  have noz : ∀ (n : Nat) (P : Prop), n ≠ 0 → (n = 0 → P) := fun n P h h2 => absurd h2 h
  by_cases hl : l = []
  · subst hl
    by_cases h1 : len < 3
    · have e : tokE d s lit ⟨[], far, len⟩ = 1 := by simp [tokE, h1]
      rw [e]; exact (tok_copy1 base M d lit s [] far len w hM hd hs rfl h1).mono fun _ _ ⟨a, b⟩ => ⟨a, noz _ _ (by omega), b⟩
    by_cases h2 : 64 < len
    · have e : tokE d s lit ⟨[], far, len⟩ = 1 := by simp [tokE, h2]
      rw [e]; exact (tok_copy2 base M d lit s [] far len w hM hd hs rfl h2).mono fun _ _ ⟨a, b⟩ => ⟨a, noz _ _ (by omega), b⟩
    by_cases h3 : far < 1
    · have e : tokE d s lit ⟨[], far, len⟩ = 1 := by simp [tokE, h3]
      rw [e]; exact (tok_copy3 base M d lit s [] far len w hM hd hs rfl (by omega) (by omega) h3).mono fun _ _ ⟨a, b⟩ => ⟨a, noz _ _ (by omega), b⟩
    by_cases h4 : (s.length : Int) < far
    · have e : tokE d s lit ⟨[], far, len⟩ = 1 := by simp [tokE, h4]
      rw [e]; exact (tok_copy4 base M d lit s [] far len w hM hd hs rfl (by omega) (by omega) (by omega) h4).mono fun _ _ ⟨a, b⟩ => ⟨a, noz _ _ (by omega), b⟩
    have hbad : ¬ (len < 3 ∨ 64 < len ∨ far < 1 ∨ (s.length : Int) < far) := by omega
    by_cases h5 : 512 < len + ((s.length - d : Nat) : Int)
    · have e : tokE d s lit ⟨[], far, len⟩ = 2 := by
        unfold tokE
        rw [if_neg (by simp), if_neg hbad, if_pos h5]
      rw [e]; exact (tok_copy5 base M d lit s [] far len w hM hd hs rfl (by omega) (by omega) (by omega) (by omega) h5).mono fun _ _ ⟨a, b⟩ => ⟨a, noz _ _ (by omega), b⟩
    · have e : tokE d s lit ⟨[], far, len⟩ = 0 := by
        unfold tokE
        rw [if_neg (by simp), if_neg hbad, if_neg h5]
      obtain ⟨f', rfl⟩ := Int.eq_ofNat_of_zero_le (show 0 ≤ far by omega)
      obtain ⟨n', rfl⟩ := Int.eq_ofNat_of_zero_le (show 0 ≤ len by omega)
      rw [e]
      refine (tok_copyok base M d lit s f' n' w hM hd hs hd2 (by omega) (by omega) (by omega) (by omega) (by omega)).mono fun _ _ ⟨a, b, c⟩ => ⟨a, fun _ => ?_, c⟩
      simpa [isLit, tokS] using b
  · by_cases h1 : far = 0
    · by_cases h2 : len = 0
      · by_cases h3 : lit = true
        · have e : tokE d s lit ⟨l, far, len⟩ = 1 := by simp [tokE, hl, h3]
          rw [e]; exact (tok_form3 base M d lit s l far len w hM hd hs hl h1 h2 h3).mono fun _ _ ⟨a, b⟩ => ⟨a, noz _ _ (by omega), b⟩
        · have h3 : lit = false := by simpa using h3
          by_cases h4 : 512 < l.length + (s.length - d)
          · have e : tokE d s lit ⟨l, far, len⟩ = 2 := by simp [tokE, hl, h1, h2, h3, h4]
            rw [e]; exact (tok_many base M d lit s l far len w hM hd hs hl h1 h2 h3 h4).mono fun _ _ ⟨a, b⟩ => ⟨a, noz _ _ (by omega), b⟩
          · have e : tokE d s lit ⟨l, far, len⟩ = 0 := by simp [tokE, hl, h1, h2, h3]; omega
            rw [e]
            refine (tok_litok base M d lit s l far len w hM hd hs hd2 hl ⟨h1, h2, h3⟩ (by omega)).mono fun _ _ ⟨a, b, c⟩ => ⟨a, fun _ => ?_, c⟩
            have e1 : l.isEmpty = false := by simpa using hl
            simpa [isLit, tokS, hl, e1] using b
      · have e : tokE d s lit ⟨l, far, len⟩ = 1 := by simp [tokE, hl, h2]
        rw [e]; exact (tok_form2 base M d lit s l far len w hM hd hs hl h1 h2).mono fun _ _ ⟨a, b⟩ => ⟨a, noz _ _ (by omega), b⟩
    · have e : tokE d s lit ⟨l, far, len⟩ = 1 := by simp [tokE, hl, h1]
      rw [e]; exact (tok_form1 base M d lit s l far len w hM hd hs hl h1).mono fun _ _ ⟨a, b⟩ => ⟨a, noz _ _ (by omega), b⟩

theorem tokS_len {d : Nat} {s : Bytes} {lit : Bool} {t : Tok} (h : tokE d s lit t = 0) (hs : s.length ≤ d + 512) (hd : d ≤ s.length) : d ≤ (tokS s t).length ∧ (tokS s t).length ≤ d + 512 ∧ s.length < (tokS s t).length := by
  obtain ⟨l, far, len⟩ := t
  unfold tokE at h
  unfold tokS
  by_cases hl : l = []
  · subst hl
    simp only [ne_eq, not_true_eq_false, if_false] at h ⊢
    rw [copyB_len]
    by_cases h1 : len < 3 ∨ 64 < len ∨ far < 1 ∨ (s.length : Int) < far
    · rw [if_pos h1] at h; cases h
    · rw [if_neg h1] at h
      by_cases h2 : 512 < len + ((s.length - d : Nat) : Int)
      · rw [if_pos h2] at h; cases h
      · omega
  · have hlp : 0 < l.length := List.length_pos_iff.2 hl
    simp only [ne_eq, hl, not_false_eq_true, if_true] at h ⊢
    rw [List.length_append]
    by_cases h1 : far ≠ 0 ∨ len ≠ 0 ∨ lit = true
    · rw [if_pos h1] at h; cases h
    · rw [if_neg h1] at h
      by_cases h2 : 512 < l.length + (s.length - d)
      · rw [if_pos h2] at h; cases h
      · omega

end Go.Proofs.Ytgfkkjcnnecefaa

/- A slice of toks that reads as a list. -/
namespace Go.Proofs.Ytgfkkjcnnecefaa
open Go.RowKit Go.Lib Pl

/-- The slice of address A and length n reads as the list l, below block Bd. -/
def ToksAt (w : World) (Bd : Nat) (A : Option Addr) (n : Nat) (l : List Tok) : Prop :=
  l.length = n ∧ (0 < n → ∃ b off, A = some ⟨b, off, none⟩ ∧ b < Bd ∧ ∀ i t, l[i]? = some t →
    w.cell? ⟨b, off + i * 3, none⟩ = some (S t.lit) ∧ w.cell? ⟨b, off + i * 3 + 1, none⟩ = some (I t.far) ∧ w.cell? ⟨b, off + i * 3 + 2, none⟩ = some (I t.len))

theorem ToksAt.keep {w w' : World} {Bd n : Nat} {A : Option Addr} {l : List Tok} (h : ToksAt w Bd A n l) (hk : ∀ p : Addr, p.block < Bd → w'.cell? p = w.cell? p) : ToksAt w' Bd A n l :=
  ⟨h.1, fun hn => by
    obtain ⟨b, off, e, hb, hc⟩ := h.2 hn
    refine ⟨b, off, e, hb, fun i t hi => ?_⟩
    obtain ⟨h1, h2, h3⟩ := hc i t hi
    exact ⟨(hk _ hb).trans h1, (hk _ hb).trans h2, (hk _ hb).trans h3⟩⟩
theorem ToksAt.below {w w' : World} {Bd n : Nat} {A : Option Addr} {l : List Tok} (h : ToksAt w Bd A n l) (hb : Below Bd w w') : ToksAt w' Bd A n l := h.keep fun _ hp => hb.cell hp
theorem ToksAt.at_ {w : World} {Bd n k : Nat} {A : Option Addr} {l : List Tok} (h : ToksAt w Bd A n l) (hk : k < n) : ∃ b off t, A = some ⟨b, off, none⟩ ∧ b < Bd ∧ l[k]? = some t ∧
    w.cell? ⟨b, off + k * 3, none⟩ = some (S t.lit) ∧ w.cell? ⟨b, off + k * 3 + 1, none⟩ = some (I t.far) ∧ w.cell? ⟨b, off + k * 3 + 2, none⟩ = some (I t.len) := by
  obtain ⟨b, off, e, hb, hc⟩ := h.2 (by omega)
  have hl : k < l.length := by have := h.1; omega
  exact ⟨b, off, l[k], e, hb, List.getElem?_eq_getElem hl, hc k _ (List.getElem?_eq_getElem hl)⟩

end Go.Proofs.Ytgfkkjcnnecefaa

/- The walks of the references of chapter 1. -/
namespace Go.Proofs.Ytgfkkjcnnecefaa
open Go.RowKit Pl
attribute [local go_sem] ext_list app_list

set_option maxHeartbeats 400000 in
set_option maxRecDepth 100000 in
theorem numBytes_small (n : Int) (w : World) (h0 : 0 ≤ n) (hn : n < 128) :
    Calls Try.prog 14 #[I n] w fun e w' => e = .returned (S (nb n.toNat)) ∧ Below w.heap.size w w' := by
  obtain ⟨m, rfl⟩ := Int.eq_ofNat_of_zero_le h0
  obtain ⟨b, hb, hx⟩ := byte_of m (by omega)
  have HB := hide hb
  clear hb
  have hcv := fun (W : World) => run_conv1_new (P := Try.prog) W b hx 5 73 9 5 Try.underlying73 Try.underlying5 Try.underlying9
  have HX := hide hx
  clear hx
  go_enter Try.func14, Try.ntmps14
  go_wp2_with fail
  go_ret
  refine ⟨?_, (Below.refl _ _).alloc (Nat.le_refl _) _⟩
  rw [Int.toNat_natCast, nb_small (by omega), ← unhide HB]
  rfl

set_option maxHeartbeats 400000 in
set_option maxRecDepth 100000 in
theorem numBytes_k (k : Nat) : ∀ (n : Int) (w : World), n.toNat ≤ k → 0 ≤ n → n ≤ 9223372036854775807 →
    Calls Try.prog 14 #[I n] w fun e w' => e = .returned (S (nb n.toNat)) ∧ Below w.heap.size w w' := by
  induction k with
  | zero => intro n w hk h0 h1; exact numBytes_small n w h0 (by omega)
  | succ k ih =>
    intro n w hk h0 h1
    obtain ⟨m, rfl⟩ := Int.eq_ofNat_of_zero_le h0
    by_cases hn : (m : Int) < 128
    · exact numBytes_small m w h0 hn
    · obtain ⟨r, hr⟩ : ∃ r, r = m % 128 := ⟨_, rfl⟩
      obtain ⟨q, hq⟩ : ∃ q, q = m / 128 := ⟨_, rfl⟩
      have ht : (m : Int).tmod 128 = (r : Int) := by rw [Int.tmod_eq_emod_of_nonneg h0]; omega
      have hw1 : IntKind.i64.wrap (128 + (r : Int)) = 128 + (r : Int) := IntWalk.i64_in _ ⟨by omega, by omega⟩
      have hw2 : IntKind.u8.wrap (128 + (r : Int)) = 128 + (r : Int) := by rw [IntKind.wrap_u8]; omega
      have hw3 : IntKind.i64.wrap ((m : Int) / 128) = (q : Int) := by
        have e : (m : Int) / 128 = (q : Int) := by omega
        rw [e]; exact IntWalk.i64_in _ ⟨by omega, by omega⟩
      obtain ⟨b, hbb, hx⟩ := byte_of (128 + r) (by omega)
      rw [Int.natCast_add] at hx
      have hx : (b.toNat : Int) = 128 + (r : Int) := hx
      have HX := hide hx
      have hcv := fun (W : World) => run_conv1_new (P := Try.prog) W b hx 5 73 9 5 Try.underlying73 Try.underlying5 Try.underlying9
      have hcw := fun (W : World) => run_conv1_drew (P := Try.prog) W b hx 5 73 9 5 Try.underlying73 Try.underlying5 Try.underlying9
      clear hx
      have c1 := fun (W : World) => ih (q : Int) W (by omega) (by omega) (by omega)
      have hr1 : r < 128 := by omega
      have hlen := nb_len 9 q (by omega)
      have HR := hide hr
      have HQ := hide hq
      have C1 := hide c1
      clear c1 ih hr hq
      have hnb : nb m = b :: nb q := by rw [hbb, unhide HR, unhide HQ]; exact nb_big (by omega)
      have HN := hide hnb
      clear hnb hbb
      go_enter Try.func14, Try.ntmps14
      go_wp2_with fail
      go_region_with (refine (unhide C1 _).mono ?_; rintro e w' ⟨rfl, hb⟩; try (have hcl := run_conv1_later_drew (P := Try.prog) b (unhide HX) hb 73 9 5 Try.underlying73 Try.underlying5 Try.underlying9))
      all_goals
        go_wp2
        go_ret
        refine ⟨?_, ?_⟩
        · rw [Int.toNat_natCast, unhide HN]
          rfl
        · first
            | exact (((Below.refl _ _).alloc (Nat.le_refl _) _).drew).trans (hb.mono (by simp))
            | exact ((Below.refl _ _).drew.trans hb).alloc hb.size _

end Go.Proofs.Ytgfkkjcnnecefaa

/- Plain mathematics of chapter 2: reading toks; the laws of going back. No program in sight. -/
namespace Go.Proofs.Ytgfkkjcnnecefaa
namespace Pl

theorem takeF_len : ∀ (f i n : Nat) (s : Bytes) (k : Nat) (r : Bytes), takeF f i n s = some (k, r) → r.length < s.length
  | 0, _, _, _, _, _, h => by simp [takeF] at h
  | f + 1, _, _, [], _, _, h => by simp [takeF] at h
  | f + 1, i, n, c :: t, k, r, h => by
    rw [takeF] at h
    split at h
    · have := takeF_len f _ _ t k r h; simp; omega
    · split at h
      · simp at h
      · simp only [Option.some.injEq, Prod.mk.injEq] at h
        obtain ⟨_, rfl⟩ := h; simp
theorem take_len {s : Bytes} {k : Nat} {r : Bytes} (h : take s = some (k, r)) : r.length < s.length := takeF_len 5 0 0 s k r h
theorem tokFrom_len {s r : Bytes} {t : Tok} (h : tokFrom s = some (t, r)) : r.length < s.length := by
  unfold tokFrom at h
  cases hk : take s with
  | none => rw [hk] at h; simp at h
  | some p =>
    obtain ⟨n, q⟩ := p
    have h1 := take_len hk
    rw [hk] at h
    simp only at h
    by_cases h2 : n % 2 = 0
    · rw [if_pos h2] at h
      by_cases h3 : q.length < n / 2
      · rw [if_pos h3] at h; simp at h
      · rw [if_neg h3] at h
        simp only [Option.some.injEq, Prod.mk.injEq] at h
        obtain ⟨_, rfl⟩ := h
        simp; omega
    · rw [if_neg h2] at h
      cases hf : take q with
      | none => rw [hf] at h; simp at h
      | some p2 =>
        obtain ⟨f, q2⟩ := p2
        have h3 := take_len hf
        rw [hf] at h
        simp only [Option.some.injEq, Prod.mk.injEq] at h
        obtain ⟨_, rfl⟩ := h
        omega

/-- all toks of some bytes, their form alone -/
def toksF : Nat → Bytes → Option (List Tok)
  | _, [] => some []
  | 0, _ :: _ => none
  | f + 1, c :: s' =>
    match tokFrom (c :: s') with
    | none => none
    | some (t, rest) => (toksF f rest).map (t :: ·)
def toksOf (s : Bytes) : Option (List Tok) := toksF s.length s

theorem toksF_fuel : ∀ (f g : Nat) (s : Bytes), s.length ≤ f → s.length ≤ g → toksF f s = toksF g s
  | f, g, [], _, _ => by cases f <;> cases g <;> rfl
  | 0, _, _ :: _, h, _ => by simp at h
  | _, 0, _ :: _, _, h => by simp at h
  | f + 1, g + 1, c :: s', hf, hg => by
    rw [toksF, toksF]
    cases h : tokFrom (c :: s') with
    | none => rfl
    | some p =>
      obtain ⟨t, r⟩ := p
      have := tokFrom_len h
      simp at this hf hg
      simp only
      rw [toksF_fuel f g r (by omega) (by omega)]
theorem readF_fuel (d : Nat) : ∀ (f g : Nat) (m : Bytes) (b : Bool) (s : Bytes), s.length ≤ f → s.length ≤ g → readF d f m b s = readF d g m b s
  | f, g, _, _, [], _, _ => by cases f <;> cases g <;> rfl
  | 0, _, _, _, _ :: _, h, _ => by simp at h
  | _, 0, _, _, _ :: _, _, h => by simp at h
  | f + 1, g + 1, m, b, c :: s', hf, hg => by
    rw [readF, readF]
    cases h : tokFrom (c :: s') with
    | none => rfl
    | some p =>
      obtain ⟨t, r⟩ := p
      have := tokFrom_len h
      simp at this hf hg
      simp only
      rw [readF_fuel d f g _ _ r (by omega) (by omega)]

theorem toksOf_nil : toksOf [] = some [] := rfl
theorem toksOf_none {s : Bytes} (hs : s ≠ []) (h : tokFrom s = none) : toksOf s = none := by
  cases s with
  | nil => exact absurd rfl hs
  | cons c s => unfold toksOf; rw [List.length_cons, toksF, h]
theorem toksOf_some {s r : Bytes} {t : Tok} (hs : s ≠ []) (h : tokFrom s = some (t, r)) : toksOf s = (toksOf r).map (t :: ·) := by
  cases s with
  | nil => exact absurd rfl hs
  | cons c s =>
    have := tokFrom_len h
    simp at this
    unfold toksOf; rw [List.length_cons, toksF, h]
    simp only
    rw [toksF_fuel s.length r.length r (by omega) (Nat.le_refl _)]
/-- what is read from a place on -/
def readR (d : Nat) (m : Bytes) (b : Bool) (s : Bytes) : Option (List Tok) := readF d s.length m b s
theorem readR_nil (d : Nat) (m : Bytes) (b : Bool) : readR d m b [] = some [] := rfl
theorem readR_none {d : Nat} {m : Bytes} {b : Bool} {s : Bytes} (hs : s ≠ []) (h : tokFrom s = none) : readR d m b s = none := by
  cases s with
  | nil => exact absurd rfl hs
  | cons c s => unfold readR; rw [List.length_cons, readF, h]
theorem readR_bad {d : Nat} {m : Bytes} {b : Bool} {s r : Bytes} {t : Tok} (hs : s ≠ []) (h : tokFrom s = some (t, r)) (he : tokE d m b t ≠ 0) : readR d m b s = none := by
  cases s with
  | nil => exact absurd rfl hs
  | cons c s => unfold readR; rw [List.length_cons, readF, h]; simp only; rw [if_pos he]
theorem readR_some {d : Nat} {m : Bytes} {b : Bool} {s r : Bytes} {t : Tok} (hs : s ≠ []) (h : tokFrom s = some (t, r)) (he : tokE d m b t = 0) :
    readR d m b s = (readR d (tokS m t) (isLit t) r).map (t :: ·) := by
  cases s with
  | nil => exact absurd rfl hs
  | cons c s =>
    have := tokFrom_len h
    simp at this
    unfold readR; rw [List.length_cons, readF, h]; simp only; rw [if_neg (by omega)]
    rw [readF_fuel d s.length r.length _ _ r (by omega) (Nat.le_refl _)]

/-- no error: some bytes more, and no more than there may be -/
theorem tokS_grow {d : Nat} {s : Bytes} {b : Bool} {t : Tok} (h : tokE d s b t = 0) (hd : d ≤ s.length) : s.length < (tokS s t).length ∧ (tokS s t).length - d ≤ 512 := by
  unfold tokE at h
  unfold tokS
  by_cases h1 : t.lit ≠ []
  · rw [if_pos h1] at h ⊢
    have hl : 0 < t.lit.length := List.length_pos_iff.2 h1
    split at h
    · omega
    · split at h
      · omega
      · simp; omega
  · rw [if_neg h1] at h ⊢
    rw [copyB_len]
    split at h
    · omega
    · split at h
      · omega
      · omega
theorem playF_room (d : Nat) : ∀ (l : List Tok) (s : Bytes) (b : Bool), (playF d s b l).2 = 0 → d ≤ s.length → s.length - d ≤ 512 → l.length + (s.length - d) ≤ 512
  | [], _, _, _, _, h => by simpa using h
  | t :: l, s, b, h, hd, hr => by
    rw [playF] at h
    by_cases he : tokE d s b t ≠ 0
    · rw [if_pos he] at h; exact absurd h he
    · rw [if_neg he] at h
      obtain ⟨h1, h2⟩ := tokS_grow (Decidable.not_not.1 he) hd
      have := playF_room d l _ _ h (by omega) h2
      simp; omega
theorem play_room {dict : Bytes} {l : List Tok} (h : (play dict l).2 = 0) : l.length ≤ 512 := by
  unfold play at h
  by_cases hd : maxDict < dict.length
  · rw [if_pos hd] at h; simp at h
  · rw [if_neg hd] at h
    have := playF_room dict.length l dict false h (Nat.le_refl _) (by omega)
    omega

/-- the toks of what is right -/
theorem playF_each (d : Nat) : ∀ (l : List Tok) (s : Bytes) (b : Bool), (playF d s b l).2 = 0 → d ≤ s.length → s.length - d ≤ 512 → ∀ t ∈ l, t.lit.length ≤ 512 ∧ 0 ≤ t.len ∧ t.len ≤ 64 ∧ 0 ≤ t.far ∧ t.far ≤ (d + 512 : Nat)
  | [], _, _, _, _, _ => by simp
  | t :: l, s, b, h, hd, hr => by
    rw [playF] at h
    by_cases he : tokE d s b t ≠ 0
    · rw [if_pos he] at h; exact absurd h he
    · rw [if_neg he] at h
      have he : tokE d s b t = 0 := Decidable.not_not.1 he
      obtain ⟨h1, h2⟩ := tokS_grow he hd
      intro u hu
      rcases List.mem_cons.1 hu with rfl | hu
      · unfold tokE at he
        by_cases h3 : u.lit ≠ []
        · rw [if_pos h3] at he
          split at he
          · omega
          · split at he
            · omega
            · rename_i h4 h5
              simp only [not_or, Decidable.not_not] at h4
              exact ⟨by omega, by omega, by omega, by omega, by omega⟩
        · rw [if_neg h3] at he
          simp only [ne_eq, Decidable.not_not] at h3
          rw [h3]
          split at he
          · omega
          · split at he
            · omega
            · exact ⟨by simp, by omega, by omega, by omega, by omega⟩
      · exact playF_each d l _ _ h (by omega) h2 u hu
theorem play_each {dict : Bytes} {l : List Tok} (h : (play dict l).2 = 0) : ∀ t ∈ l, t.lit.length ≤ 512 ∧ 0 ≤ t.len ∧ t.len ≤ 64 ∧ 0 ≤ t.far ∧ t.far ≤ 1000 := by
  unfold play at h
  by_cases hd : maxDict < dict.length
  · rw [if_pos hd] at h; simp at h
  · rw [if_neg hd] at h
    intro t ht
    have := playF_each dict.length l dict false h (Nat.le_refl _) (by omega) t ht
    unfold maxDict at hd
    omega

theorem readF_eq (d : Nat) : ∀ (f : Nat) (m : Bytes) (b : Bool) (s : Bytes), s.length ≤ f →
    readF d f m b s = match toksF f s with | none => none | some l => if (playF d m b l).2 = 0 then some l else none
  | f, m, b, [], _ => by cases f <;> simp [readF, toksF, playF]
  | 0, _, _, _ :: _, h => by simp at h
  | f + 1, m, b, c :: s', hf => by
    rw [readF, toksF]
    cases h : tokFrom (c :: s') with
    | none => rfl
    | some p =>
      obtain ⟨t, r⟩ := p
      have := tokFrom_len h
      simp at this hf
      simp only
      rw [readF_eq d f _ _ r (by omega)]
      cases toksF f r with
      | none => simp
      | some l =>
        simp only [Option.map_some]
        rw [playF]
        by_cases he : tokE d m b t ≠ 0
        · rw [if_pos he, if_pos he, if_neg he]
        · rw [if_neg he, if_neg he]
          by_cases h0 : (playF d (tokS m t) (isLit t) l).2 = 0
          · rw [if_pos h0, if_pos h0]; rfl
          · rw [if_neg h0, if_neg h0]; rfl
/-- B3: what is read -/
theorem read_eq {dict : Bytes} (hd : dict.length ≤ 256) (s : Bytes) : read dict s = match toksOf s with | none => none | some l => if (play dict l).2 = 0 then some l else none := by
  unfold read toksOf
  rw [readF_eq dict.length s.length dict false s (Nat.le_refl _)]
  cases toksF s.length s with
  | none => rfl
  | some l =>
    have e : play dict l = playF dict.length dict false l := by unfold play; exact if_neg (by unfold maxDict; omega)
    simp only; rw [e]
theorem read_none {dict s : Bytes} (hd : dict.length ≤ 256) (h : toksOf s = none) : read dict s = none := by rw [read_eq hd, h]
theorem read_bad {dict s : Bytes} {l : List Tok} (hd : dict.length ≤ 256) (h : toksOf s = some l) (hp : (play dict l).2 ≠ 0) : read dict s = none := by rw [read_eq hd, h]; exact if_neg hp
theorem read_good {dict s : Bytes} {l : List Tok} (hd : dict.length ≤ 256) (h : toksOf s = some l) (hp : (play dict l).2 = 0) : read dict s = some l := by rw [read_eq hd, h]; exact if_pos hp
theorem read_many {dict s r : Bytes} {l : List Tok} (hd : dict.length ≤ 256) (h : toksOf s = (toksOf r).map (l ++ ·)) (hl : 512 < l.length) : read dict s = none := by
  cases hr : toksOf r with
  | none => rw [hr] at h; exact read_none hd h
  | some k =>
    rw [hr] at h
    refine read_bad hd h fun hp => ?_
    have := play_room hp
    simp at this; omega

/-- a right tok's bytes, read -/
theorem tokFrom_tokB {d : Nat} {s : Bytes} {b : Bool} {t : Tok} (h : tokE d s b t = 0) (hs : s.length ≤ 1000) (rest : Bytes) : tokFrom (tokB t ++ rest) = some (t, rest) := by
  unfold tokE at h
  unfold tokB tokFrom
  by_cases h1 : t.lit ≠ []
  · rw [if_pos h1] at h ⊢
    split at h
    · omega
    · split at h
      · omega
      · rename_i h2 h3
        rw [List.append_assoc, take_nb (by unfold maxNum; omega)]
        have e1 : 2 * t.lit.length % 2 = 0 := by omega
        have e2 : 2 * t.lit.length / 2 = t.lit.length := by omega
        simp only [e1, e2, if_true]
        rw [if_neg (by simp)]
        obtain ⟨lit, far, len⟩ := t
        simp at h2 ⊢
        exact ⟨h2.1.symm, h2.2.1.symm⟩
  · rw [if_neg h1] at h ⊢
    split at h
    · omega
    · split at h
      · omega
      · rename_i h2 h3
        obtain ⟨lit, far, len⟩ := t
        simp only [ne_eq, Decidable.not_not] at h1
        subst h1
        simp only [not_or, Int.not_lt] at h2
        rw [List.append_assoc, take_nb (by unfold maxNum; omega)]
        have e1 : (2 * len.toNat + 1) % 2 = 1 := by omega
        have e2 : (2 * len.toNat + 1) / 2 = len.toNat := by omega
        simp only [e1, e2]
        rw [if_neg (by omega), take_nb (by unfold maxNum; omega)]
        simp only [Option.some.injEq, Prod.mk.injEq, and_true]
        congr 1 <;> omega
theorem tokB_ne (t : Tok) (h : tokB t = []) : False := by
  unfold tokB at h
  split at h <;> (have := congrArg List.length h; simp at this; have h2 := nb_pos (2 * t.lit.length); have h3 := nb_pos (2 * t.len.toNat + 1); first | (simp at h2; simp_all; done) | simp_all)
theorem toksOf_toksB (d : Nat) : ∀ (l : List Tok) (s : Bytes) (b : Bool), (playF d s b l).2 = 0 → d ≤ s.length → s.length - d ≤ 512 → d ≤ 256 → toksOf (toksB l) = some l
  | [], _, _, _, _, _, _ => rfl
  | t :: l, s, b, h, hd, hr, hd2 => by
    rw [playF] at h
    by_cases he : tokE d s b t ≠ 0
    · rw [if_pos he] at h; exact absurd h he
    · rw [if_neg he] at h
      have he : tokE d s b t = 0 := by omega
      obtain ⟨h1, h2⟩ := tokS_grow he hd
      rw [toksB, toksOf_some (fun e => tokB_ne t (List.append_eq_nil_iff.1 e).1) (tokFrom_tokB he (by omega) (toksB l)), toksOf_toksB d l _ _ h (by omega) h2 hd2]
      rfl
/-- READ OF WRITE IS THE TOKS -/
theorem read_write {dict : Bytes} {l : List Tok} (h : (write dict l).2 = 0) : read dict (write dict l).1 = some l := by
  unfold write at h ⊢
  by_cases hp : (play dict l).2 ≠ 0
  · rw [if_pos hp] at h; exact absurd h hp
  · rw [if_neg hp]
    have hp : (play dict l).2 = 0 := by omega
    have hd : dict.length ≤ 256 := by
      by_cases hd : dict.length ≤ 256
      · exact hd
      · unfold play at hp; rw [if_pos (by unfold maxDict; omega)] at hp; simp at hp
    refine read_good hd (toksOf_toksB dict.length l dict false ?_ (Nat.le_refl _) (by omega) hd) hp
    unfold play at hp; rwa [if_neg (by unfold maxDict; omega)] at hp

/-- what is read was written so -/
theorem tokB_tokFrom {d : Nat} {m : Bytes} {b : Bool} {s r : Bytes} {t : Tok} (h : tokFrom s = some (t, r)) (he : tokE d m b t = 0) : s = tokB t ++ r := by
  unfold tokFrom at h
  cases hk : take s with
  | none => rw [hk] at h; simp at h
  | some p =>
    obtain ⟨n, q⟩ := p
    obtain ⟨hs, _⟩ := take_some hk
    rw [hk] at h
    simp only at h
    by_cases h2 : n % 2 = 0
    · rw [if_pos h2] at h
      by_cases h3 : q.length < n / 2
      · rw [if_pos h3] at h; simp at h
      · rw [if_neg h3] at h
        simp only [Option.some.injEq, Prod.mk.injEq] at h
        obtain ⟨rfl, rfl⟩ := h
        have hne : q.take (n / 2) ≠ [] := by
          intro e
          unfold tokE at he
          simp only [e] at he
          simp at he
        have hl : (q.take (n / 2)).length = n / 2 := by simp; omega
        unfold tokB
        rw [if_pos hne]
        simp only [hl]
        rw [show 2 * (n / 2) = n from by omega, List.append_assoc, List.take_append_drop]; exact hs
    · rw [if_neg h2] at h
      cases hf : take q with
      | none => rw [hf] at h; simp at h
      | some p2 =>
        obtain ⟨f, q2⟩ := p2
        obtain ⟨hq, _⟩ := take_some hf
        rw [hf] at h
        simp only [Option.some.injEq, Prod.mk.injEq] at h
        obtain ⟨rfl, rfl⟩ := h
        unfold tokB
        rw [if_neg (by simp)]
        simp only [Int.toNat_natCast]
        rw [show 2 * (n / 2) + 1 = n from by omega, List.append_assoc, ← hq]; exact hs
theorem readF_back (d : Nat) : ∀ (f : Nat) (m : Bytes) (b : Bool) (s : Bytes) (l : List Tok), readF d f m b s = some l → s = toksB l
  | f, m, b, [], l, h => by cases f <;> (simp [readF] at h; subst h; rfl)
  | 0, _, _, _ :: _, _, h => by simp [readF] at h
  | f + 1, m, b, c :: s', l, h => by
    rw [readF] at h
    cases hk : tokFrom (c :: s') with
    | none => rw [hk] at h; simp at h
    | some p =>
      obtain ⟨t, r⟩ := p
      rw [hk] at h
      simp only at h
      by_cases he : tokE d m b t ≠ 0
      · rw [if_pos he] at h; simp at h
      · rw [if_neg he] at h
        cases hr : readF d f (tokS m t) (isLit t) r with
        | none => rw [hr] at h; simp at h
        | some k =>
          rw [hr] at h
          simp at h
          subst h
          rw [tokB_tokFrom hk (Decidable.not_not.1 he), toksB, readF_back d f _ _ _ _ hr]
/-- WRITE OF READ IS THE BYTES -/
theorem write_read {dict s : Bytes} {l : List Tok} (hd : dict.length ≤ 256) (h : read dict s = some l) : write dict l = (s, 0) := by
  have hb : s = toksB l := by unfold read at h; exact readF_back _ _ _ _ _ _ h
  have hp : (play dict l).2 = 0 := by
    rw [read_eq hd] at h
    cases hk : toksOf s with
    | none => rw [hk] at h; simp at h
    | some k =>
      rw [hk] at h
      simp only at h
      by_cases h0 : (play dict k).2 = 0
      · rw [if_pos h0] at h; simp at h; subst h; exact h0
      · rw [if_neg h0] at h; simp at h
  unfold write
  rw [if_neg (by omega), hb]

end Pl
end Go.Proofs.Ytgfkkjcnnecefaa

/- The walk of the reference's TokBytes. -/
namespace Go.Proofs.Ytgfkkjcnnecefaa
open Go.RowKit Go.Lib Pl
attribute [local go_sem] ext_list app_list

theorem concat_list (x y : List UInt8) (h : x.length + y.length ≤ 9223372036854775807) : Op.stringOp .add ⟨x.toArray⟩ ⟨y.toArray⟩ = (pure (S (x ++ y)) : Sem Value) := by
  unfold Op.stringOp
  have hx : (⟨x.toArray⟩ : ByteArray).size = x.length := rfl
  have hy : (⟨y.toArray⟩ : ByteArray).size = y.length := rfl
  have hm : IntKind.i64.max = 9223372036854775807 := rfl
  simp only [hx, hy, hm]
  rw [if_neg (by omega), app_list]

theorem numBytes_i (n : Int) (w : World) (h0 : 0 ≤ n) (h1 : n ≤ 9223372036854775807) :
    Calls Try.prog 14 #[I n] w fun e w' => e = .returned (S (nb n.toNat)) ∧ Below w.heap.size w w' :=
  numBytes_k n.toNat n w (Nat.le_refl _) h0 h1

theorem toksB_snoc (l : List Tok) (t : Tok) : toksB (l ++ [t]) = toksB l ++ tokB t := by
  induction l with
  | nil => simp [toksB]
  | cons u l ih => simp [toksB, ih]
theorem toksB_take {l : List Tok} {k : Nat} {t : Tok} (h : l[k]? = some t) : toksB (l.take (k + 1)) = toksB (l.take k) ++ tokB t := by
  rw [List.take_add_one, h]; exact toksB_snoc _ _

/-- a tok of some sizes -/
def Small (t : Tok) : Prop := t.lit.length ≤ 512 ∧ 0 ≤ t.len ∧ t.len ≤ 64 ∧ 0 ≤ t.far ∧ t.far ≤ 1000

theorem nb_len5 {n : Nat} (h : n ≤ 2000) : (nb n).length ≤ 5 := by
  have := nb_len 4 n (by omega)
  omega
theorem tokB_small {t : Tok} (h : Small t) : (tokB t).length ≤ 1000 := by
  obtain ⟨h1, h2, h3, h4, h5⟩ := h
  have a := nb_len5 (n := 2 * t.lit.length) (by omega)
  have b := nb_len5 (n := 2 * t.len.toNat + 1) (by omega)
  have c := nb_len5 (n := t.far.toNat) (by omega)
  unfold tokB
  split <;> simp <;> omega
theorem toksB_small : ∀ (l : List Tok), (∀ t ∈ l, Small t) → (toksB l).length ≤ 1000 * l.length
  | [], _ => by simp [toksB]
  | t :: l, h => by
    have a := tokB_small (h t (by simp))
    have b := toksB_small l (fun u hu => h u (by simp [hu]))
    simp [toksB]; omega

attribute [local go_sem ↓] concat_list in
set_option maxHeartbeats 1000000 in
set_option maxRecDepth 100000 in
theorem tokBytes_any (A : Option Addr) (n cap : Nat) (l : List Tok) (w : World) (hl : ToksAt w w.heap.size A n l) (hn : n ≤ 1000000) (hsm : ∀ t ∈ l, Small t) :
    Calls Try.prog 32 #[.slice A n cap] w fun e w' => e = .returned (S (toksB l)) ∧ Below w.heap.size w w' := by
  have HSM := hide hsm
  clear hsm
  go_enter Try.func32, Try.ntmps32
  go_wp2_with fail
  go_loopw [3, 4] (fun sv i wr => ∃ k : Nat, k ≤ n ∧ i = .int .i64 k ∧ sv = S (toksB (l.take k)) ∧ Below w.heap.size w wr) (fun _ i _ => n - (intOf i).toNat)
  case atStart => exact ⟨0, by omega, rfl, rfl, Below.refl _ _⟩
  case round =>
    obtain ⟨k, hk, rfl, rfl, hbel⟩ := hrel
    obtain ⟨acc0, hacc⟩ : ∃ a, a = toksB (l.take k) := ⟨_, rfl⟩
    have haln : acc0.length ≤ 1000000000 := by
      have h1 := toksB_small (l.take k) (fun u hu => unhide HSM u (List.mem_of_mem_take hu))
      rw [← hacc, List.length_take] at h1
      omega
    rw [← hacc]
    have HACC := hide hacc
    clear hacc
    by_cases hkn : k < n
    · obtain ⟨b, off, t, rfl, hb, ht, q0, q1, q2⟩ := (hl.below hbel).at_ hkn
      obtain ⟨s1, s2, s3, s4, s5⟩ := unhide HSM t (List.mem_of_getElem? ht)
      obtain ⟨tl, tf, tn⟩ := t
      simp only at s1 s2 s3 s4 s5 q0 q1 q2
      have hbw : b < wr.heap.size := Nat.lt_of_lt_of_le hb hbel.size
      have HT := hide ht
      clear ht
      have hb0 := Below.refl wr.heap.size wr
      by_cases hlit : tl = []
      · subst hlit
        have w1 : IntKind.i64.wrap (2 * tn) = 2 * tn := IntWalk.i64_in _ ⟨by omega, by omega⟩
        have w2 : IntKind.i64.wrap (2 * tn + 1) = 2 * tn + 1 := IntWalk.i64_in _ ⟨by omega, by omega⟩
        have w3 := nb_len5 (n := (2 * tn + 1).toNat) (by omega)
        have w4 := nb_len5 (n := tf.toNat) (by omega)
        have w5 : acc0.length + (nb (2 * tn + 1).toNat).length ≤ 9223372036854775807 := by omega
        have w6 : acc0.length + (nb (2 * tn + 1).toNat).length + (nb tf.toNat).length ≤ 9223372036854775807 := by omega
        have w7 : acc0.length + ((nb (2 * tn + 1).toNat).length + (nb tf.toNat).length) ≤ 9223372036854775807 := by omega
        have w8 : (acc0 ++ nb (2 * tn + 1).toNat).length + (nb tf.toNat).length ≤ 9223372036854775807 := by simp; omega
        go_wp2_with fail
        go_region_held3 (fun w' => w'.cell? ⟨b, off + k * 3 + 1, none⟩ = some (I tf) ∧ w'.cell? ⟨b, off + k * 3 + 2, none⟩ = some (I tn)) (first | go_keep)
          ((first | (go_at_call 14; refine (acc (numBytes_i _ _ (by omega) (by omega)) (w0 := wr) (by first | assumption | exact Below.drew (by assumption) | exact below_drewN (by assumption) _)).mono ?_; rintro e w1 ⟨rfl, hb1⟩; have K1 := (hb1.cell (p := ⟨b, off + k * 3 + 1, none⟩) hbw).trans q1; have K2 := (hb1.cell (p := ⟨b, off + k * 3 + 2, none⟩) hbw).trans q2)))
        all_goals
          go_wp2_with fail
          go_roundw
          case rel =>
            refine ⟨k + 1, by omega, by go_num, ?_, hbel.trans ((by assumption : Below wr.heap.size wr _).mono hbel.size)⟩
            rw [toksB_take (unhide HT), ← unhide HACC]
            have e1 : (2 * tn + 1).toNat = 2 * tn.toNat + 1 := by omega
            simp [tokB, e1]
          case measure => simp [intOf]; omega
      · have hl1 : tl.isEmpty = false := by simpa using hlit
        have hl2 : (tl == []) = false := by simpa using hlit
        have HL := hide hlit
        clear hlit
        have w1 : IntKind.i64.wrap (2 * (tl.length : Int)) = 2 * (tl.length : Int) := IntWalk.i64_in _ ⟨by omega, by omega⟩
        have w3 := nb_len5 (n := (2 * (tl.length : Int)).toNat) (by omega)
        have w5 : acc0.length + (nb (2 * (tl.length : Int)).toNat).length ≤ 9223372036854775807 := by omega
        have w6 : acc0.length + (nb (2 * (tl.length : Int)).toNat).length + tl.length ≤ 9223372036854775807 := by omega
        have w7 : acc0.length + ((nb (2 * (tl.length : Int)).toNat).length + tl.length) ≤ 9223372036854775807 := by omega
        have w8 : (acc0 ++ nb (2 * (tl.length : Int)).toNat).length + tl.length ≤ 9223372036854775807 := by simp; omega
        go_wp2_with fail
        go_region_held3 (fun w' => w'.cell? ⟨b, off + k * 3, none⟩ = some (S tl)) (first | go_keep)
          ((first | (go_at_call 14; refine (acc (numBytes_i _ _ (by omega) (by omega)) (w0 := wr) (by first | assumption | exact Below.drew (by assumption) | exact below_drewN (by assumption) _)).mono ?_; rintro e w1 ⟨rfl, hb1⟩; have K1 := (hb1.cell (p := ⟨b, off + k * 3, none⟩) hbw).trans q0)))
        all_goals
          go_wp2_with fail
          go_roundw
          case rel =>
            refine ⟨k + 1, by omega, by go_num, ?_, hbel.trans ((by assumption : Below wr.heap.size wr _).mono hbel.size)⟩
            rw [toksB_take (unhide HT), ← unhide HACC]
            have e1 : (2 * (tl.length : Int)).toNat = 2 * tl.length := by omega
            simp [tokB, e1, unhide HL]
          case measure => simp [intOf]; omega
    · have hfin : acc0 = toksB l := by rw [unhide HACC, List.take_of_length_le (by have := hl.1; omega)]
      have HF := hide hfin
      have hk2 : decide ((k : Int) < (n : Int)) = false := by simp; omega
      clear hfin
      go_wp2_with fail
      go_ret
      exact ⟨by rw [unhide HF]; rfl, hbel⟩

end Go.Proofs.Ytgfkkjcnnecefaa

/- The walk of the reference's bits. -/
namespace Go.Proofs.Ytgfkkjcnnecefaa
open Go.RowKit Go.Lib Pl
attribute [local go_sem] ext_list app_list

def bch (b : Bool) : UInt8 := if b then 49 else 48
def bstr (l : List Bool) : Bytes := l.map bch
theorem bstr_len (l : List Bool) : (bstr l).length = l.length := List.length_map ..
theorem bstr_app (a b : List Bool) : bstr (a ++ b) = bstr a ++ bstr b := List.map_append ..
theorem bstr_inj {a b : List Bool} (h : bstr a = bstr b) : a = b := by
  induction a generalizing b with
  | nil => cases b with
    | nil => rfl
    | cons y b => simp [bstr] at h
  | cons x a ih => cases b with
    | nil => simp [bstr] at h
    | cons y b =>
      simp only [bstr, List.map_cons, List.cons.injEq] at h
      rw [ih h.2]
      congr 1
      have h1 := h.1
      cases x <;> cases y <;> first | rfl | (exact absurd h1 (by decide))

attribute [local go_sem ↓] concat_list in
set_option maxHeartbeats 1000000 in
set_option maxRecDepth 100000 in
theorem bits_any : ∀ (s n : Nat) (w : World), s ≤ 1000 → n ≤ 9223372036854775807 →
    Calls Try.prog 76 #[I n, I s] w fun e w' => e = .returned (S (bstr (bt n s))) ∧ Below w.heap.size w w' := by
  intro s
  induction s with
  | zero =>
    intro n w hs hn
    go_enter Try.func76, Try.ntmps76
    go_wp2_with fail
    go_ret
    exact ⟨rfl, Below.refl _ _⟩
  | succ s ih =>
    intro n w hs hn
    obtain ⟨r, hr⟩ : ∃ r, r = n % 2 := ⟨_, rfl⟩
    obtain ⟨q, hq⟩ : ∃ q, q = n / 2 := ⟨_, rfl⟩
    have hr1 : r < 2 := by omega
    have ht : (n : Int).tmod 2 = (r : Int) := by rw [Int.tmod_eq_emod_of_nonneg (by omega)]; omega
    have hw1 : IntKind.i64.wrap (48 + (r : Int)) = 48 + (r : Int) := IntWalk.i64_in _ ⟨by omega, by omega⟩
    have hw2 : IntKind.u8.wrap (48 + (r : Int)) = 48 + (r : Int) := by rw [IntKind.wrap_u8]; omega
    have hw3 : IntKind.i64.wrap ((n : Int) / 2) = (q : Int) := by
      have e : (n : Int) / 2 = (q : Int) := by omega
      rw [e]; exact IntWalk.i64_in _ ⟨by omega, by omega⟩
    have hx : (((bch (decide (n % 2 = 1))).toNat : Nat) : Int) = 48 + (r : Int) := by
      rcases Nat.mod_two_eq_zero_or_one n with h | h
      · rw [hr, h]; rfl
      · rw [hr, h]; rfl
    have hbt : bt n (s + 1) = bt q s ++ [decide (n % 2 = 1)] := by rw [hq]; rfl
    obtain ⟨b, hbb⟩ : ∃ b, b = bch (decide (n % 2 = 1)) := ⟨_, rfl⟩
    have hres : bstr (bt n (s + 1)) = bstr (bt q s) ++ [b] := by rw [hbt, bstr_app, hbb]; rfl
    rw [← hbb] at hx
    have HRES := hide hres
    have HX := hide hx
    have hcv := fun (W : World) => run_conv1_new (P := Try.prog) W b hx 5 73 9 5 Try.underlying73 Try.underlying5 Try.underlying9
    have hcw := fun (W : World) => run_conv1_drew (P := Try.prog) W b hx 5 73 9 5 Try.underlying73 Try.underlying5 Try.underlying9
    have C1 := hide (fun (W : World) => ih q W (by omega) (by omega))
    have hlen : (bstr (bt q s)).length + 1 ≤ 9223372036854775807 := by rw [bstr_len, bt_len]; omega
    obtain ⟨m, hm⟩ : ∃ m, m = s + 1 := ⟨_, rfl⟩
    have hws : IntKind.i64.wrap ((m : Int) - 1) = (s : Int) := by
      have e : (m : Int) - 1 = (s : Int) := by omega
      rw [e]; exact IntWalk.i64_in _ ⟨by omega, by omega⟩
    have z0 : ((m : Int) == 0) = false := by rw [beq_eq_false_iff_ne]; omega
    have z1 : m ≠ 0 := by omega
    rw [← hm]
    rw [← hm] at HRES
    clear hx hr hq hres hbb hbt ih hm hs
    go_enter Try.func76, Try.ntmps76
    go_wp2_with fail
    go_region_with (refine (unhide C1 _).mono ?_; rintro e w' ⟨rfl, hb⟩; try (have hcl := run_conv1_later_drew (P := Try.prog) b (unhide HX) hb 73 9 5 Try.underlying73 Try.underlying5 Try.underlying9))
    all_goals
      go_wp2
      go_ret
      refine ⟨?_, ?_⟩
      · rw [unhide HRES]; rfl
      · first
          | exact (((Below.refl _ _).alloc (Nat.le_refl _) _).drew).trans (hb.mono (by simp))
          | exact ((Below.refl _ _).drew.trans hb).alloc hb.size _

end Go.Proofs.Ytgfkkjcnnecefaa
