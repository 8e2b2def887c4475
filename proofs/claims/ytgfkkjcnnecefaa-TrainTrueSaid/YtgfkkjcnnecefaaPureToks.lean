/- Plain mathematics of chapter 2: copies. No program in sight. -/
import Derived.Test.YtgfkkjcnnecefaaPureNums
namespace Go.Proofs.Ytgfkkjcnnecefaa
namespace Pl

/-- A tok: bytes as they are, or a copy. -/
structure Tok where
  lit : Bytes
  far : Int
  len : Int
deriving DecidableEq

def maxDict : Nat := 256

def copyB : Nat → Nat → Bytes → Bytes
  | 0, _, s => s
  | n + 1, far, s => copyB n far (s ++ [s.getD (s.length - far) 0])

theorem copyB_len : ∀ (n far : Nat) (s : Bytes), (copyB n far s).length = s.length + n
  | 0, _, _ => rfl
  | n + 1, far, s => by rw [copyB, copyB_len]; simp; omega

theorem copyB_prefix : ∀ (n far : Nat) (s : Bytes), s <+: copyB n far s
  | 0, _, _ => List.prefix_refl _
  | n + 1, far, _ => (List.prefix_append _ _).trans (copyB_prefix n far _)

theorem copyB_snoc : ∀ (k far : Nat) (s : Bytes), copyB (k + 1) far s = copyB k far s ++ [(copyB k far s).getD ((copyB k far s).length - far) 0]
  | 0, _, _ => rfl
  | k + 1, far, s => by rw [copyB, copyB_snoc k far, copyB]

/-- the error that a tok brings: d: how many bytes the dictionary has; s: dictionary and what was made; lit: was the last one as it is -/
def tokE (d : Nat) (s : Bytes) (lit : Bool) (t : Tok) : Nat :=
  if t.lit ≠ [] then
    if t.far ≠ 0 ∨ t.len ≠ 0 ∨ lit = true then 1 else if 512 < t.lit.length + (s.length - d) then 2 else 0
  else if t.len < 3 ∨ 64 < t.len ∨ t.far < 1 ∨ (s.length : Int) < t.far then 1
  else if 512 < t.len + ((s.length - d : Nat) : Int) then 2 else 0
def tokS (s : Bytes) (t : Tok) : Bytes := if t.lit ≠ [] then s ++ t.lit else copyB t.len.toNat t.far.toNat s
def isLit (t : Tok) : Bool := !t.lit.isEmpty

def playF (d : Nat) : Bytes → Bool → List Tok → Bytes × Nat
  | s, _, [] => (s.drop d, 0)
  | s, b, t :: l => if tokE d s b t ≠ 0 then ([], tokE d s b t) else playF d (tokS s t) (isLit t) l
/-- B1: the text, and the error -/
def play (dict : Bytes) (l : List Tok) : Bytes × Nat :=
  if maxDict < dict.length then ([], 2) else playF dict.length dict false l

/-- how many bytes come to be as they must -/
def comeF (w : Bytes) (at' far : Nat) : Nat → Nat → Nat
  | 0, n => n
  | f + 1, n => if at' + n < w.length ∧ w.getD (at' + n) 0 = w.getD (at' + n - far) 0 then comeF w at' far f (n + 1) else n
def come (w : Bytes) (at' far : Nat) : Nat := comeF w at' far 64 0

/-- the best of the fars 1 to k: (far, size); none: (0, 0) -/
def bestF (w : Bytes) (at' : Nat) : Nat → Nat × Nat
  | 0 => (0, 0)
  | f + 1 => if 3 ≤ come w at' (f + 1) ∧ (bestF w at' f).2 < come w at' (f + 1) then (f + 1, come w at' (f + 1)) else bestF w at' f
def best (w : Bytes) (at' : Nat) : Nat × Nat := bestF w at' at'

/-- the reference's own: without the three -/
def bestR (w : Bytes) (at' : Nat) : Nat → Nat × Nat
  | 0 => (0, 0)
  | f + 1 => if (bestR w at' f).2 < come w at' (f + 1) then (f + 1, come w at' (f + 1)) else bestR w at' f

theorem bestR_bestF (w : Bytes) (at' : Nat) : ∀ f, bestF w at' f = if (bestR w at' f).2 < 3 then (0, 0) else bestR w at' f
  | 0 => by simp [bestF, bestR]
  | f + 1 => by
    rw [bestF, bestR, bestR_bestF w at' f]
    generalize come w at' (f + 1) = c
    obtain ⟨x, y⟩ := bestR w at' f
    by_cases h1 : y < 3 <;> by_cases h2 : 3 ≤ c
    · have h3 : y < c := by omega
      have h4 : 0 < c := by omega
      have h5 : ¬ c < 3 := by omega
      simp [h1, h2, h3, h4, h5]
    · by_cases h3 : y < c <;> simp [h1, h2, h3] <;> omega
    · by_cases h3 : y < c
      · have h5 : ¬ c < 3 := by omega
        simp [h1, h2, h3, h5]
      · simp [h1, h3]
    · have h3 : ¬ y < c := by omega
      simp [h1, h3]

theorem comeF_le (w : Bytes) (p far : Nat) (hp : p ≤ w.length) : ∀ f n, p + n ≤ w.length → n ≤ comeF w p far f n ∧ comeF w p far f n ≤ n + f ∧ p + comeF w p far f n ≤ w.length
  | 0, n, h => ⟨Nat.le_refl _, Nat.le_refl _, h⟩
  | f + 1, n, h => by
    rw [comeF]
    by_cases h1 : p + n < w.length ∧ w.getD (p + n) 0 = w.getD (p + n - far) 0
    · rw [if_pos h1]
      obtain ⟨a, b, c⟩ := comeF_le w p far hp f (n + 1) (by omega)
      exact ⟨by omega, by omega, c⟩
    · rw [if_neg h1]; exact ⟨Nat.le_refl _, by omega, h⟩
theorem come_le (w : Bytes) (p far : Nat) (hp : p ≤ w.length) : come w p far ≤ 64 ∧ p + come w p far ≤ w.length := by
  obtain ⟨_, b, c⟩ := comeF_le w p far hp 64 0 (by omega)
  exact ⟨by unfold come; omega, c⟩
theorem bestR_le (w : Bytes) (p : Nat) (hp : p ≤ w.length) : ∀ f, (bestR w p f).2 ≤ 64 ∧ p + (bestR w p f).2 ≤ w.length ∧ (bestR w p f).1 ≤ f
  | 0 => by simp [bestR]; omega
  | f + 1 => by
    obtain ⟨a, b, c⟩ := bestR_le w p hp f
    rw [bestR]
    by_cases h : (bestR w p f).2 < come w p (f + 1)
    · rw [if_pos h]
      obtain ⟨d, e⟩ := come_le w p (f + 1) hp
      exact ⟨d, e, Nat.le_refl _⟩
    · rw [if_neg h]; exact ⟨a, b, by omega⟩
theorem best_eq (w : Bytes) (p : Nat) : best w p = if (bestR w p p).2 < 3 then (0, 0) else bestR w p p := bestR_bestF w p p

def litTok (b : Bytes) : Tok := ⟨b, 0, 0⟩
def copyTok (far size : Nat) : Tok := ⟨[], far, size⟩

/-- what is as it is, from a place up to another: a tok, or none -/
def flush (w : Bytes) (a b : Nat) : List Tok := if a < b then [litTok (slice w a b)] else []
def parseF (w : Bytes) : Nat → Nat → Nat → List Tok
  | 0, at', a => flush w a at'
  | f + 1, at', a =>
    if at' < w.length then
      if (best w at').2 = 0 then parseF w f (at' + 1) a
      else flush w a at' ++ copyTok (best w at').1 (best w at').2 :: parseF w f (at' + (best w at').2) (at' + (best w at').2)
    else flush w a at'
theorem parseF_fuel (w : Bytes) : ∀ (f g p a : Nat), w.length ≤ p + f → w.length ≤ p + g → p ≤ w.length → parseF w f p a = parseF w g p a
  | 0, 0, _, _, _, _, _ => rfl
  | 0, g + 1, p, a, h, _, hp => by rw [parseF, parseF, if_neg (by omega)]
  | f + 1, 0, p, a, _, h, hp => by rw [parseF, parseF, if_neg (by omega)]
  | f + 1, g + 1, p, a, hf, hg, hp => by
    rw [parseF, parseF]
    by_cases h : p < w.length
    · rw [if_pos h, if_pos h]
      by_cases h2 : (best w p).2 = 0
      · rw [if_pos h2, if_pos h2, parseF_fuel w f g (p + 1) a (by omega) (by omega) (by omega)]
      · rw [if_neg h2, if_neg h2]
        have hb := bestR_le w p hp p
        have he := best_eq w p
        have : p + (best w p).2 ≤ w.length := by
          rw [he]
          by_cases h3 : (bestR w p p).2 < 3
          · rw [if_pos h3]; simp; omega
          · rw [if_neg h3]; exact hb.2.1
        rw [parseF_fuel w f g (p + (best w p).2) (p + (best w p).2) (by omega) (by omega) this]
    · rw [if_neg h, if_neg h]
/-- B2 -/
def parse (dict text : Bytes) : List Tok := parseF (dict ++ text) text.length dict.length dict.length

def tokB (t : Tok) : Bytes := if t.lit ≠ [] then nb (2 * t.lit.length) ++ t.lit else nb (2 * t.len.toNat + 1) ++ nb t.far.toNat
def toksB : List Tok → Bytes
  | [] => []
  | t :: l => tokB t ++ toksB l
/-- B3 -/
def write (dict : Bytes) (l : List Tok) : Bytes × Nat := if (play dict l).2 ≠ 0 then ([], (play dict l).2) else (toksB l, 0)

/-- the tok that bytes begin with, its form alone -/
def tokFrom (s : Bytes) : Option (Tok × Bytes) :=
  match take s with
  | none => none
  | some (n, rest) =>
    if n % 2 = 0 then
      if rest.length < n / 2 then none else some (⟨rest.take (n / 2), 0, 0⟩, rest.drop (n / 2))
    else match take rest with
      | none => none
      | some (f, rest) => some (⟨[], f, (n / 2 : Nat)⟩, rest)

def readF (d : Nat) : Nat → Bytes → Bool → Bytes → Option (List Tok)
  | _, _, _, [] => some []
  | 0, _, _, _ :: _ => none
  | f + 1, m, b, c :: s' =>
    match tokFrom (c :: s') with
    | none => none
    | some (t, rest) => if tokE d m b t ≠ 0 then none else (readF d f (tokS m t) (isLit t) rest).map (t :: ·)
/-- B3: the right toks of which these are the bytes -/
def read (dict s : Bytes) : Option (List Tok) := readF dict.length s.length dict false s

end Pl
end Go.Proofs.Ytgfkkjcnnecefaa
