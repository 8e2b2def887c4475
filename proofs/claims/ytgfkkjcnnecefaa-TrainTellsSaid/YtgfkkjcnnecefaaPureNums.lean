/- Plain mathematics of chapter 1: numbers as bytes. No program in sight. -/
namespace Go.Proofs.Ytgfkkjcnnecefaa
namespace Pl

abbrev Bytes := List UInt8

/-- w[a:b] -/
def slice (w : Bytes) (a b : Nat) : Bytes := (w.take b).drop a
theorem slice_len (w : Bytes) (a b : Nat) : (slice w a b).length = min b w.length - a := by simp [slice]
theorem slice_end (w : Bytes) (a : Nat) : slice w a w.length = w.drop a := by simp [slice]
theorem slice_head (w : Bytes) (b : Nat) : slice w 0 b = w.take b := by simp [slice]

def nbF : Nat → Nat → Bytes
  | 0, n => [UInt8.ofNat n]
  | f + 1, n => if n < 128 then [UInt8.ofNat n] else UInt8.ofNat (128 + n % 128) :: nbF f (n / 128)
/-- the bytes of a number -/
def nb (n : Nat) : Bytes := nbF n n

theorem nbF_more : ∀ (f g n : Nat), n ≤ f → n ≤ g → nbF f n = nbF g n
  | 0, 0, _, _, _ => rfl
  | 0, g + 1, n, h, _ => by
    have : n = 0 := by omega
    subst this; simp [nbF]
  | f + 1, 0, n, _, h => by
    have : n = 0 := by omega
    subst this; simp [nbF]
  | f + 1, g + 1, n, hf, hg => by
    unfold nbF
    by_cases h : n < 128
    · simp [h]
    · simp only [h, if_false]
      rw [nbF_more f g (n / 128) (by omega) (by omega)]

theorem nb_small {n : Nat} (h : n < 128) : nb n = [UInt8.ofNat n] := by
  unfold nb
  cases n with
  | zero => rfl
  | succ k => unfold nbF; simp [h]
theorem nb_big {n : Nat} (h : 128 ≤ n) : nb n = UInt8.ofNat (128 + n % 128) :: nb (n / 128) := by
  unfold nb
  obtain ⟨k, rfl⟩ : ∃ k, n = k + 1 := ⟨n - 1, by omega⟩
  rw [nbF, if_neg (by omega)]
  rw [nbF_more k ((k + 1) / 128) _ (by omega) (Nat.le_refl _)]

theorem nb_ne (n : Nat) : nb n ≠ [] := by
  by_cases h : n < 128
  · rw [nb_small h]; simp
  · rw [nb_big (by omega)]; simp

theorem nb_len (k : Nat) : ∀ n, n < 128 ^ (k + 1) → (nb n).length ≤ k + 1 := by
  induction k with
  | zero => intro n h; rw [nb_small (by simpa using h)]; simp
  | succ k ih =>
    intro n h
    by_cases h1 : n < 128
    · rw [nb_small h1]; simp
    · rw [nb_big (by omega)]
      have := ih (n / 128) (by rw [Nat.div_lt_iff_lt_mul (by omega)]; rw [← Nat.pow_succ]; exact h)
      simp; omega

theorem nb_pos (n : Nat) : 1 ≤ (nb n).length := by
  have := nb_ne n
  have h : (nb n).length ≠ 0 := by simpa using this
  omega

def maxNum : Nat := 2147483647

/-- the number that bytes begin with; what is behind it -/
def takeF : Nat → Nat → Nat → Bytes → Option (Nat × Bytes)
  | 0, _, _, _ => none
  | _ + 1, _, _, [] => none
  | f + 1, i, n, c :: rest =>
    if 128 ≤ c.toNat then takeF f (i + 1) (n + (c.toNat % 128) * 128 ^ i) rest
    else if (0 < i ∧ c.toNat = 0) ∨ maxNum < n + (c.toNat % 128) * 128 ^ i then none
    else some (n + (c.toNat % 128) * 128 ^ i, rest)
def take (s : Bytes) : Option (Nat × Bytes) := takeF 5 0 0 s

theorem takeF_nb (f : Nat) : ∀ (i acc n : Nat) (rest : Bytes), n < 128 ^ (f + 1) → acc + n * 128 ^ i ≤ maxNum → (0 < i → 0 < n) →
    takeF (f + 1) i acc (nb n ++ rest) = some (acc + n * 128 ^ i, rest) := by
  have small : ∀ (f i acc n : Nat) (rest : Bytes), n < 128 → acc + n * 128 ^ i ≤ maxNum → (0 < i → 0 < n) →
      takeF (f + 1) i acc (nb n ++ rest) = some (acc + n * 128 ^ i, rest) := by
    intro f i acc n rest h1 hm hi
    rw [nb_small h1]
    have e : (UInt8.ofNat n).toNat = n := by simp [UInt8.toNat_ofNat']; omega
    have e2 : n % 128 = n := Nat.mod_eq_of_lt h1
    simp only [List.cons_append, List.nil_append, takeF, e, e2]
    rw [if_neg (by omega), if_neg]
    rintro (⟨h2, h3⟩ | h2)
    · have := hi h2; omega
    · omega
  induction f with
  | zero => intro i acc n rest h hm hi; exact small 0 i acc n rest (by simpa using h) hm hi
  | succ f ih =>
    intro i acc n rest h hm hi
    by_cases h1 : n < 128
    · exact small _ i acc n rest h1 hm hi
    · rw [nb_big (by omega)]
      have e : (UInt8.ofNat (128 + n % 128)).toNat = 128 + n % 128 := by simp [UInt8.toNat_ofNat']; omega
      have e2 : (128 + n % 128) % 128 = n % 128 := by omega
      have hp : 0 < 128 ^ i := Nat.pow_pos (by omega)
      rw [List.cons_append, takeF]
      simp only [e, e2]
      rw [if_pos (by omega)]
      have key : acc + n % 128 * 128 ^ i + n / 128 * 128 ^ (i + 1) = acc + n * 128 ^ i := by
        have := Nat.mod_add_div n 128
        rw [Nat.pow_succ]
        calc acc + n % 128 * 128 ^ i + n / 128 * (128 ^ i * 128) = acc + (n % 128 + 128 * (n / 128)) * 128 ^ i := by
              rw [Nat.add_mul, Nat.mul_comm 128 (n / 128), Nat.mul_assoc, Nat.mul_comm 128 (128 ^ i)]; omega
          _ = _ := by rw [this]
      rw [ih (i + 1) _ (n / 128) rest (by rw [Nat.div_lt_iff_lt_mul (by omega), ← Nat.pow_succ]; exact h) (by omega) (by omega), key]

/-- Take of Put, with whatever behind, is the number, and that. -/
theorem take_nb {n : Nat} (h : n ≤ maxNum) (rest : Bytes) : take (nb n ++ rest) = some (n, rest) := by
  unfold maxNum at h
  have := takeF_nb 4 0 0 n rest (by omega) (by unfold maxNum; omega) (by omega)
  simpa [take] using this

/-- What is taken is what was put. -/
theorem takeF_some : ∀ (f i acc : Nat) (s : Bytes) (k : Nat) (rest : Bytes), takeF f i acc s = some (k, rest) →
    ∃ n, k = acc + n * 128 ^ i ∧ s = nb n ++ rest ∧ k ≤ maxNum ∧ (0 < i → 0 < n)
  | 0, _, _, _, _, _, h => by simp [takeF] at h
  | f + 1, _, _, [], _, _, h => by simp [takeF] at h
  | f + 1, i, acc, c :: t, k, rest, h => by
    have hc := c.toNat_lt
    by_cases h1 : 128 ≤ c.toNat
    · rw [takeF, if_pos h1] at h
      obtain ⟨n, hk, hs, hm, hn⟩ := takeF_some f (i + 1) _ t k rest h
      have hn := hn (by omega)
      refine ⟨c.toNat % 128 + 128 * n, ?_, ?_, hm, by omega⟩
      · rw [hk, Nat.add_mul, Nat.pow_succ, Nat.mul_comm 128 n, Nat.mul_assoc, Nat.mul_comm 128 (128 ^ i)]; omega
      · rw [nb_big (by omega)]
        have e1 : (c.toNat % 128 + 128 * n) % 128 = c.toNat % 128 := by omega
        have e2 : (c.toNat % 128 + 128 * n) / 128 = n := by omega
        rw [e1, e2, hs]
        have : UInt8.ofNat (128 + c.toNat % 128) = c := by
          apply UInt8.toNat_inj.1; simp [UInt8.toNat_ofNat']; omega
        rw [this]; rfl
    · rw [takeF, if_neg h1] at h
      by_cases h2 : (0 < i ∧ c.toNat = 0) ∨ maxNum < acc + c.toNat % 128 * 128 ^ i
      · rw [if_pos h2] at h; simp at h
      · rw [if_neg h2] at h
        simp only [Option.some.injEq, Prod.mk.injEq] at h
        obtain ⟨rfl, rfl⟩ := h
        have e : c.toNat % 128 = c.toNat := by omega
        refine ⟨c.toNat, by rw [e], ?_, by omega, by omega⟩
        rw [nb_small (by omega)]
        have : UInt8.ofNat c.toNat = c := by apply UInt8.toNat_inj.1; simp
        rw [this]; rfl

theorem take_some {s : Bytes} {k : Nat} {rest : Bytes} (h : take s = some (k, rest)) : s = nb k ++ rest ∧ k ≤ maxNum := by
  obtain ⟨n, hk, hs, hm, _⟩ := takeF_some 5 0 0 s k rest h
  simp at hk; subst hk; exact ⟨hs, hm⟩

theorem nb_inj {a b : Nat} (ha : a ≤ maxNum) (hb : b ≤ maxNum) {x y : Bytes} (h : nb a ++ x = nb b ++ y) : a = b ∧ x = y := by
  have h1 := take_nb ha x
  rw [h, take_nb hb y] at h1
  simp at h1; exact ⟨h1.1.symm, h1.2.symm⟩

/-- what k bytes of a number's, all of them 128 at least, say of the rest -/
def Canon (l : Bytes) (k acc : Nat) : Prop := ∀ n, 0 < n ∨ k = 0 → nb (acc + n * 128 ^ k) = l.take k ++ nb n
theorem canon_zero (l : Bytes) : Canon l 0 0 := by intro n _; simp
theorem canon_step {l : Bytes} {k acc : Nat} {c : UInt8} {t : Bytes} (h : Canon l k acc) (hd : l.drop k = c :: t) (hc : 128 ≤ c.toNat) : Canon l (k + 1) (acc + c.toNat % 128 * 128 ^ k) := by
  intro n hn
  have hn : 0 < n := by omega
  have hcl := c.toNat_lt
  have e : acc + c.toNat % 128 * 128 ^ k + n * 128 ^ (k + 1) = acc + (c.toNat % 128 + 128 * n) * 128 ^ k := by
    rw [Nat.pow_succ, Nat.add_mul, Nat.mul_comm 128 n, Nat.mul_assoc, Nat.mul_comm 128 (128 ^ k)]; omega
  rw [e, h _ (.inl (by omega)), nb_big (by omega)]
  have e1 : (c.toNat % 128 + 128 * n) % 128 = c.toNat % 128 := by omega
  have e2 : (c.toNat % 128 + 128 * n) / 128 = n := by omega
  have e3 : UInt8.ofNat (128 + c.toNat % 128) = c := by
    apply UInt8.toNat_inj.1; simp [UInt8.toNat_ofNat']; omega
  have hlk : l[k]? = some c := by
    have := congrArg (fun z : Bytes => z[0]?) hd
    simpa using this
  rw [e1, e2, e3, List.take_add_one, hlk]; simp
theorem canon_end {l : Bytes} {k acc : Nat} {c : UInt8} {t : Bytes} (h : Canon l k acc) (hd : l.drop k = c :: t) (hc : c.toNat < 128) (ha : acc < 128 ^ k) :
    (nb (acc + c.toNat % 128 * 128 ^ k) = l.take (k + 1)) ↔ ¬ (0 < k ∧ c.toNat = 0) := by
  have hlk : l[k]? = some c := by
    have := congrArg (fun z : Bytes => z[0]?) hd
    simpa using this
  have hkl : k < l.length := by
    rcases Nat.lt_or_ge k l.length with h1 | h1
    · exact h1
    · rw [List.drop_of_length_le h1] at hd; cases hd
  have e : c.toNat % 128 = c.toNat := by omega
  rw [e]
  constructor
  · rintro h1 ⟨h2, h3⟩
    rw [h3, Nat.zero_mul, Nat.add_zero] at h1
    have h4 := congrArg List.length h1
    obtain ⟨j, rfl⟩ : ∃ j, k = j + 1 := ⟨k - 1, by omega⟩
    have h5 := nb_len j acc ha
    simp at h4; omega
  · intro h1
    rw [h _ (by omega), nb_small hc, List.take_add_one, hlk]
    have : UInt8.ofNat c.toNat = c := by apply UInt8.toNat_inj.1; simp
    simp [this]

/-- the sum of a text -/
def sumF : Nat → Bytes → Nat
  | _, [] => 0
  | i, c :: t => (i + 1) * c.toNat + sumF (i + 1) t
def sumOf (t : Bytes) : Nat := sumF 0 t % 65536

def maxText : Nat := 512
/-- a text with its size -/
def textB (t : Bytes) : Bytes := nb t.length ++ t
def takeText (s : Bytes) : Option (Bytes × Bytes) :=
  match take s with
  | none => none
  | some (n, rest) => if maxText < n ∨ rest.length < n then none else some (rest.take n, rest.drop n)

theorem takeText_bad {s : Bytes} {n : Nat} {r : Bytes} (h : take s = some (n, r)) (hb : 512 < n ∨ r.length < n) : takeText s = none := by
  unfold takeText; rw [h]; exact if_pos hb
theorem takeText_good {s : Bytes} {n : Nat} {r : Bytes} (h : take s = some (n, r)) (hb : ¬ (512 < n ∨ r.length < n)) : takeText s = some (slice r 0 n, slice r n r.length) := by
  unfold takeText; rw [h, slice_head, slice_end]; exact if_neg hb
theorem takeText_none {s : Bytes} (h : take s = none) : takeText s = none := by
  unfold takeText; rw [h]
theorem takeText_textB {t : Bytes} (h : t.length ≤ maxText) (rest : Bytes) : takeText (textB t ++ rest) = some (t, rest) := by
  unfold takeText textB
  rw [List.append_assoc, take_nb (by unfold maxText at h; unfold maxNum; omega)]
  simp; omega
theorem takeText_some {s t rest : Bytes} (h : takeText s = some (t, rest)) : s = textB t ++ rest ∧ t.length ≤ maxText := by
  unfold takeText at h
  cases hk : take s with
  | none => rw [hk] at h; simp at h
  | some p =>
    obtain ⟨n, r⟩ := p
    rw [hk] at h
    simp only at h
    by_cases h2 : maxText < n ∨ r.length < n
    · rw [if_pos h2] at h; simp at h
    · rw [if_neg h2] at h
      simp only [Option.some.injEq, Prod.mk.injEq] at h
      obtain ⟨rfl, rfl⟩ := h
      obtain ⟨hs, _⟩ := take_some hk
      have hl : (r.take n).length = n := by simp; omega
      refine ⟨?_, by omega⟩
      unfold textB
      rw [hl, List.append_assoc, List.take_append_drop]; exact hs

end Pl
end Go.Proofs.Ytgfkkjcnnecefaa
