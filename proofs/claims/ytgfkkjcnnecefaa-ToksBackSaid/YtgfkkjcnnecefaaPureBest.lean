/- Plain mathematics of the finder's best copy. -/
import Derived.Test.YtgfkkjcnnecefaaFinder
namespace Go.Proofs.Ytgfkkjcnnecefaa
open Pl

theorem slice3 {s : Bytes} {a : Nat} (h : a + 3 ≤ s.length) : slice s a (a + 3) = [s.getD a 0, s.getD (a + 1) 0, s.getD (a + 2) 0] := by
  unfold slice
  have e : ∀ i, i < s.length → s[i]? = some (s.getD i 0) := fun i hi => by
    rw [List.getD_eq_getElem?_getD, List.getElem?_eq_getElem hi]; rfl
  apply List.ext_getElem?
  intro i
  rw [List.getElem?_drop, List.getElem?_take]
  match i with
  | 0 => rw [if_pos (by omega), Nat.add_zero, e a (by omega)]; rfl
  | 1 => rw [if_pos (by omega), e (a + 1) (by omega)]; rfl
  | 2 => rw [if_pos (by omega), e (a + 2) (by omega)]; rfl
  | i + 3 => rw [if_neg (by omega)]; rfl

/-- three bytes are the same, just where three at least come to be as they must -/
theorem come3 {s : Bytes} {p y : Nat} (hy : y < p) (hp : p + 3 ≤ s.length) :
    (slice s y (y + 3) = slice s p (p + 3) → come s p (p - y) = comeF s p (p - y) 61 3) ∧ (slice s y (y + 3) = slice s p (p + 3) ↔ 3 ≤ come s p (p - y)) := by
  rw [slice3 (by omega), slice3 hp]
  have e0 : p + 0 - (p - y) = y := by omega
  have e1 : p + 1 - (p - y) = y + 1 := by omega
  have e2 : p + 2 - (p - y) = y + 2 := by omega
  have hle := comeF_le s p (p - y) (by omega) 61 3 (by omega)
  have key : come s p (p - y) = if s.getD p 0 = s.getD y 0 then (if s.getD (p + 1) 0 = s.getD (y + 1) 0 then (if s.getD (p + 2) 0 = s.getD (y + 2) 0 then comeF s p (p - y) 61 3 else 2) else 1) else 0 := by
    unfold come
    rw [comeF, e0, Nat.add_zero]
    by_cases h0 : s.getD p 0 = s.getD y 0
    · rw [if_pos ⟨by omega, h0⟩, if_pos h0, comeF, e1]
      by_cases h1 : s.getD (p + 1) 0 = s.getD (y + 1) 0
      · rw [if_pos ⟨by omega, h1⟩, if_pos h1, comeF, e2]
        by_cases h2 : s.getD (p + 2) 0 = s.getD (y + 2) 0
        · rw [if_pos ⟨by omega, h2⟩, if_pos h2]
        · rw [if_neg (fun h => h2 h.2), if_neg h2]
      · rw [if_neg (fun h => h1 h.2), if_neg h1]
    · rw [if_neg (fun h => h0 h.2), if_neg h0]
  constructor
  · intro h
    injection h with a h; injection h with b h; injection h with c _
    rw [key, if_pos a.symm, if_pos b.symm, if_pos c.symm]
  · constructor
    · intro h
      injection h with a h; injection h with b h; injection h with c _
      rw [key, if_pos a.symm, if_pos b.symm, if_pos c.symm]
      exact hle.1
    · intro h
      rw [key] at h
      by_cases h0 : s.getD p 0 = s.getD y 0
      · rw [if_pos h0] at h
        by_cases h1 : s.getD (p + 1) 0 = s.getD (y + 1) 0
        · rw [if_pos h1] at h
          by_cases h2 : s.getD (p + 2) 0 = s.getD (y + 2) 0
          · rw [h0, h1, h2]
          · rw [if_neg h2] at h; omega
        · rw [if_neg h1] at h; omega
      · rw [if_neg h0] at h; omega

/-- the best of the places from x on -/
def bestP (s : Bytes) (p x : Nat) : Nat × Nat := bestF s p (p - x)
theorem bestP_top (s : Bytes) (p : Nat) : bestP s p p = (0, 0) := by unfold bestP; rw [Nat.sub_self]; rfl
theorem bestP_zero (s : Bytes) (p : Nat) : bestP s p 0 = best s p := by unfold bestP best; rfl
theorem bestP_hit {s : Bytes} {p y : Nat} (hy : y < p) (h : 3 ≤ come s p (p - y)) :
    bestP s p y = if (bestP s p (y + 1)).2 < come s p (p - y) then (p - y, come s p (p - y)) else bestP s p (y + 1) := by
  unfold bestP
  obtain ⟨f, hf⟩ : ∃ f, p - y = f + 1 := ⟨p - y - 1, by omega⟩
  rw [hf] at h ⊢
  have e : p - (y + 1) = f := by omega
  rw [e, bestF]
  by_cases h1 : (bestF s p f).2 < come s p (f + 1)
  · rw [if_pos ⟨h, h1⟩, if_pos h1]
  · rw [if_neg (fun h2 => h1 h2.2), if_neg h1]
theorem bestP_miss {s : Bytes} {p y : Nat} (hy : y < p) (h : ¬ 3 ≤ come s p (p - y)) : bestP s p y = bestP s p (y + 1) := by
  unfold bestP
  obtain ⟨f, hf⟩ : ∃ f, p - y = f + 1 := ⟨p - y - 1, by omega⟩
  rw [hf] at h ⊢
  have e : p - (y + 1) = f := by omega
  rw [e, bestF, if_neg (fun h2 => h h2.1)]

theorem places_last {s : Bytes} {p : Nat} (hp : p + 3 ≤ s.length) : ∀ x, x ≤ p →
    (places s x (slice s p (p + 3)) = [] ∧ bestP s p x = best s p) ∨
    ∃ y, y < x ∧ slice s y (y + 3) = slice s p (p + 3) ∧ places s x (slice s p (p + 3)) = places s y (slice s p (p + 3)) ++ [(y : Int)] ∧ bestP s p x = bestP s p (y + 1)
  | 0, _ => .inl ⟨by simp [places], bestP_zero s p⟩
  | x + 1, hx => by
    rw [places_succ]
    by_cases h : slice s x (x + 3) = slice s p (p + 3)
    · rw [if_pos h]
      exact .inr ⟨x, by omega, h, rfl, rfl⟩
    · rw [if_neg h, List.append_nil]
      have hm : bestP s p x = bestP s p (x + 1) := bestP_miss (by omega) (fun h2 => h ((come3 (by omega) hp).2.2 h2))
      rw [← hm]
      rcases places_last hp x (by omega) with h1 | ⟨y, h1, h2, h3, h4⟩
      · exact .inl h1
      · exact .inr ⟨y, by omega, h2, h3, h4⟩

theorem best_short {s : Bytes} {p : Nat} (hp : p ≤ s.length) (h : s.length < p + 3) : best s p = (0, 0) := by
  have : ∀ f, bestF s p f = (0, 0) := fun f => by
    induction f with
    | zero => rfl
    | succ f ih =>
      have := (come_le s p (f + 1) hp).2
      rw [bestF, if_neg (by omega), ih]
  exact this p
theorem places_len (s : Bytes) (m : Nat) (kb : Bytes) : (places s m kb).length ≤ m := by
  unfold places
  rw [List.length_map]
  exact Nat.le_trans (List.length_filter_le _ _) (by simp)

end Go.Proofs.Ytgfkkjcnnecefaa
