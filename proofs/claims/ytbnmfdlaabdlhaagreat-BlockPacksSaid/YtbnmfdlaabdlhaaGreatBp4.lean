/- Plain mathematics of chapter 2: reading toks; the laws of going back. No program in sight. -/
import Derived.Test.YtbnmfdlaabdlhaaGreatBp3
import Derived.Test.YtbnmfdlaabdlhaaGreatShelf
import Derived.Lib.IndexMore
import Derived.Maps.OwnOps
import Derived.Maps.Views
import Derived.Maps.RangeWalk

namespace Go.Proofs.YtbnmfdlaabdlhaaGreat
namespace Pl

theorem takeF_len : ∀ (f i n : Nat) (s : Bytes) (k : Nat) (r : Bytes), takeF f i n s = some (k, r) → r.length < s.length
  | 0, _, _, _, _, _, h => by simp [takeF] at h
  | f + 1, _, _, [], _, _, h => by simp [takeF] at h
  | f + 1, i, n, c :: t, k, r, h => by
    rw [takeF] at h
    split at h
    · have := takeF_len f _ _ t k r h; simp; omega
    · split at h
      · simp at h
      · simp only [Option.some.injEq, Prod.mk.injEq] at h
        obtain ⟨_, rfl⟩ := h; simp
theorem take_len {s : Bytes} {k : Nat} {r : Bytes} (h : take s = some (k, r)) : r.length < s.length := takeF_len 5 0 0 s k r h
theorem tokFrom_len {s r : Bytes} {t : Tok} (h : tokFrom s = some (t, r)) : r.length < s.length := by
  unfold tokFrom at h
  cases hk : take s with
  | none => rw [hk] at h; simp at h
  | some p =>
    obtain ⟨n, q⟩ := p
    have h1 := take_len hk
    rw [hk] at h
    simp only at h
    by_cases h2 : n % 2 = 0
    · rw [if_pos h2] at h
      by_cases h3 : q.length < n / 2
      · rw [if_pos h3] at h; simp at h
      · rw [if_neg h3] at h
        simp only [Option.some.injEq, Prod.mk.injEq] at h
        obtain ⟨_, rfl⟩ := h
        simp; omega
    · rw [if_neg h2] at h
      cases hf : take q with
      | none => rw [hf] at h; simp at h
      | some p2 =>
        obtain ⟨f, q2⟩ := p2
        have h3 := take_len hf
        rw [hf] at h
        simp only [Option.some.injEq, Prod.mk.injEq] at h
        obtain ⟨_, rfl⟩ := h
        omega

/-- all toks of some bytes, their form alone -/
def toksF : Nat → Bytes → Option (List Tok)
  | _, [] => some []
  | 0, _ :: _ => none
  | f + 1, c :: s' =>
    match tokFrom (c :: s') with
    | none => none
    | some (t, rest) => (toksF f rest).map (t :: ·)
def toksOf (s : Bytes) : Option (List Tok) := toksF s.length s

theorem toksF_fuel : ∀ (f g : Nat) (s : Bytes), s.length ≤ f → s.length ≤ g → toksF f s = toksF g s
  | f, g, [], _, _ => by cases f <;> cases g <;> rfl
  | 0, _, _ :: _, h, _ => by simp at h
  | _, 0, _ :: _, _, h => by simp at h
  | f + 1, g + 1, c :: s', hf, hg => by
    rw [toksF, toksF]
    cases h : tokFrom (c :: s') with
    | none => rfl
    | some p =>
      obtain ⟨t, r⟩ := p
      have := tokFrom_len h
      simp at this hf hg
      simp only
      rw [toksF_fuel f g r (by omega) (by omega)]
theorem readF_fuel (d : Nat) : ∀ (f g : Nat) (m : Bytes) (b : Bool) (s : Bytes), s.length ≤ f → s.length ≤ g → readF d f m b s = readF d g m b s
  | f, g, _, _, [], _, _ => by cases f <;> cases g <;> rfl
  | 0, _, _, _, _ :: _, h, _ => by simp at h
  | _, 0, _, _, _ :: _, _, h => by simp at h
  | f + 1, g + 1, m, b, c :: s', hf, hg => by
    rw [readF, readF]
    cases h : tokFrom (c :: s') with
    | none => rfl
    | some p =>
      obtain ⟨t, r⟩ := p
      have := tokFrom_len h
      simp at this hf hg
      simp only
      rw [readF_fuel d f g _ _ r (by omega) (by omega)]

theorem toksOf_nil : toksOf [] = some [] := rfl
theorem toksOf_none {s : Bytes} (hs : s ≠ []) (h : tokFrom s = none) : toksOf s = none := by
  cases s with
  | nil => exact absurd rfl hs
  | cons c s => unfold toksOf; rw [List.length_cons, toksF, h]
theorem toksOf_some {s r : Bytes} {t : Tok} (hs : s ≠ []) (h : tokFrom s = some (t, r)) : toksOf s = (toksOf r).map (t :: ·) := by
  cases s with
  | nil => exact absurd rfl hs
  | cons c s =>
    have := tokFrom_len h
    simp at this
    unfold toksOf; rw [List.length_cons, toksF, h]
    simp only
    rw [toksF_fuel s.length r.length r (by omega) (Nat.le_refl _)]
/-- what is read from a place on -/
def readR (d : Nat) (m : Bytes) (b : Bool) (s : Bytes) : Option (List Tok) := readF d s.length m b s
theorem readR_nil (d : Nat) (m : Bytes) (b : Bool) : readR d m b [] = some [] := rfl
theorem readR_none {d : Nat} {m : Bytes} {b : Bool} {s : Bytes} (hs : s ≠ []) (h : tokFrom s = none) : readR d m b s = none := by
  cases s with
  | nil => exact absurd rfl hs
  | cons c s => unfold readR; rw [List.length_cons, readF, h]
theorem readR_bad {d : Nat} {m : Bytes} {b : Bool} {s r : Bytes} {t : Tok} (hs : s ≠ []) (h : tokFrom s = some (t, r)) (he : tokE d m b t ≠ 0) : readR d m b s = none := by
  cases s with
  | nil => exact absurd rfl hs
  | cons c s => unfold readR; rw [List.length_cons, readF, h]; simp only; rw [if_pos he]
theorem readR_some {d : Nat} {m : Bytes} {b : Bool} {s r : Bytes} {t : Tok} (hs : s ≠ []) (h : tokFrom s = some (t, r)) (he : tokE d m b t = 0) :
    readR d m b s = (readR d (tokS m t) (isLit t) r).map (t :: ·) := by
  cases s with
  | nil => exact absurd rfl hs
  | cons c s =>
    have := tokFrom_len h
    simp at this
    unfold readR; rw [List.length_cons, readF, h]; simp only; rw [if_neg (by omega)]
    rw [readF_fuel d s.length r.length _ _ r (by omega) (Nat.le_refl _)]

/-- no error: some bytes more, and no more than there may be -/
theorem tokS_grow {d : Nat} {s : Bytes} {b : Bool} {t : Tok} (h : tokE d s b t = 0) (hd : d ≤ s.length) : s.length < (tokS s t).length ∧ (tokS s t).length - d ≤ 512 := by
  unfold tokE at h
  unfold tokS
  by_cases h1 : t.lit ≠ []
  · rw [if_pos h1] at h ⊢
    have hl : 0 < t.lit.length := List.length_pos_iff.2 h1
    split at h
    · omega
    · split at h
      · omega
      · simp; omega
  · rw [if_neg h1] at h ⊢
    rw [copyB_len]
    split at h
    · omega
    · split at h
      · omega
      · omega
theorem playF_room (d : Nat) : ∀ (l : List Tok) (s : Bytes) (b : Bool), (playF d s b l).2 = 0 → d ≤ s.length → s.length - d ≤ 512 → l.length + (s.length - d) ≤ 512
  | [], _, _, _, _, h => by simpa using h
  | t :: l, s, b, h, hd, hr => by
    rw [playF] at h
    by_cases he : tokE d s b t ≠ 0
    · rw [if_pos he] at h; exact absurd h he
    · rw [if_neg he] at h
      obtain ⟨h1, h2⟩ := tokS_grow (Decidable.not_not.1 he) hd
      have := playF_room d l _ _ h (by omega) h2
      simp; omega
theorem play_room {dict : Bytes} {l : List Tok} (h : (play dict l).2 = 0) : l.length ≤ 512 := by
  unfold play at h
  by_cases hd : maxDict < dict.length
  · rw [if_pos hd] at h; simp at h
  · rw [if_neg hd] at h
    have := playF_room dict.length l dict false h (Nat.le_refl _) (by omega)
    omega

/-- the toks of what is right -/
theorem playF_each (d : Nat) : ∀ (l : List Tok) (s : Bytes) (b : Bool), (playF d s b l).2 = 0 → d ≤ s.length → s.length - d ≤ 512 → ∀ t ∈ l, t.lit.length ≤ 512 ∧ 0 ≤ t.len ∧ t.len ≤ 64 ∧ 0 ≤ t.far ∧ t.far ≤ (d + 512 : Nat)
  | [], _, _, _, _, _ => by simp
  | t :: l, s, b, h, hd, hr => by
    rw [playF] at h
    by_cases he : tokE d s b t ≠ 0
    · rw [if_pos he] at h; exact absurd h he
    · rw [if_neg he] at h
      have he : tokE d s b t = 0 := Decidable.not_not.1 he
      obtain ⟨h1, h2⟩ := tokS_grow he hd
      intro u hu
      rcases List.mem_cons.1 hu with rfl | hu
      · unfold tokE at he
        by_cases h3 : u.lit ≠ []
        · rw [if_pos h3] at he
          split at he
          · omega
          · split at he
            · omega
            · rename_i h4 h5
              simp only [not_or, Decidable.not_not] at h4
              exact ⟨by omega, by omega, by omega, by omega, by omega⟩
        · rw [if_neg h3] at he
          simp only [ne_eq, Decidable.not_not] at h3
          rw [h3]
          split at he
          · omega
          · split at he
            · omega
            · exact ⟨by simp, by omega, by omega, by omega, by omega⟩
      · exact playF_each d l _ _ h (by omega) h2 u hu
theorem play_each {dict : Bytes} {l : List Tok} (h : (play dict l).2 = 0) : ∀ t ∈ l, t.lit.length ≤ 512 ∧ 0 ≤ t.len ∧ t.len ≤ 64 ∧ 0 ≤ t.far ∧ t.far ≤ 1000 := by
  unfold play at h
  by_cases hd : maxDict < dict.length
  · rw [if_pos hd] at h; simp at h
  · rw [if_neg hd] at h
    intro t ht
    have := playF_each dict.length l dict false h (Nat.le_refl _) (by omega) t ht
    unfold maxDict at hd
    omega

theorem readF_eq (d : Nat) : ∀ (f : Nat) (m : Bytes) (b : Bool) (s : Bytes), s.length ≤ f →
    readF d f m b s = match toksF f s with | none => none | some l => if (playF d m b l).2 = 0 then some l else none
  | f, m, b, [], _ => by cases f <;> simp [readF, toksF, playF]
  | 0, _, _, _ :: _, h => by simp at h
  | f + 1, m, b, c :: s', hf => by
    rw [readF, toksF]
    cases h : tokFrom (c :: s') with
    | none => rfl
    | some p =>
      obtain ⟨t, r⟩ := p
      have := tokFrom_len h
      simp at this hf
      simp only
      rw [readF_eq d f _ _ r (by omega)]
      cases toksF f r with
      | none => simp
      | some l =>
        simp only [Option.map_some]
        rw [playF]
        by_cases he : tokE d m b t ≠ 0
        · rw [if_pos he, if_pos he, if_neg he]
        · rw [if_neg he, if_neg he]
          by_cases h0 : (playF d (tokS m t) (isLit t) l).2 = 0
          · rw [if_pos h0, if_pos h0]; rfl
          · rw [if_neg h0, if_neg h0]; rfl
/-- B3: what is read -/
theorem read_eq {dict : Bytes} (hd : dict.length ≤ 256) (s : Bytes) : read dict s = match toksOf s with | none => none | some l => if (play dict l).2 = 0 then some l else none := by
  unfold read toksOf
  rw [readF_eq dict.length s.length dict false s (Nat.le_refl _)]
  cases toksF s.length s with
  | none => rfl
  | some l =>
    have e : play dict l = playF dict.length dict false l := by unfold play; exact if_neg (by unfold maxDict; omega)
    simp only; rw [e]
theorem read_none {dict s : Bytes} (hd : dict.length ≤ 256) (h : toksOf s = none) : read dict s = none := by rw [read_eq hd, h]
theorem read_bad {dict s : Bytes} {l : List Tok} (hd : dict.length ≤ 256) (h : toksOf s = some l) (hp : (play dict l).2 ≠ 0) : read dict s = none := by rw [read_eq hd, h]; exact if_neg hp
theorem read_good {dict s : Bytes} {l : List Tok} (hd : dict.length ≤ 256) (h : toksOf s = some l) (hp : (play dict l).2 = 0) : read dict s = some l := by rw [read_eq hd, h]; exact if_pos hp
theorem read_many {dict s r : Bytes} {l : List Tok} (hd : dict.length ≤ 256) (h : toksOf s = (toksOf r).map (l ++ ·)) (hl : 512 < l.length) : read dict s = none := by
  cases hr : toksOf r with
  | none => rw [hr] at h; exact read_none hd h
  | some k =>
    rw [hr] at h
    refine read_bad hd h fun hp => ?_
    have := play_room hp
    simp at this; omega

/-- a right tok's bytes, read -/
theorem tokFrom_tokB {d : Nat} {s : Bytes} {b : Bool} {t : Tok} (h : tokE d s b t = 0) (hs : s.length ≤ 1000) (rest : Bytes) : tokFrom (tokB t ++ rest) = some (t, rest) := by
  unfold tokE at h
  unfold tokB tokFrom
  by_cases h1 : t.lit ≠ []
  · rw [if_pos h1] at h ⊢
    split at h
    · omega
    · split at h
      · omega
      · rename_i h2 h3
        rw [List.append_assoc, take_nb (by unfold maxNum; omega)]
        have e1 : 2 * t.lit.length % 2 = 0 := by omega
        have e2 : 2 * t.lit.length / 2 = t.lit.length := by omega
        simp only [e1, e2, if_true]
        rw [if_neg (by simp)]
        obtain ⟨lit, far, len⟩ := t
        simp at h2 ⊢
        exact ⟨h2.1.symm, h2.2.1.symm⟩
  · rw [if_neg h1] at h ⊢
    split at h
    · omega
    · split at h
      · omega
      · rename_i h2 h3
        obtain ⟨lit, far, len⟩ := t
        simp only [ne_eq, Decidable.not_not] at h1
        subst h1
        simp only [not_or, Int.not_lt] at h2
        rw [List.append_assoc, take_nb (by unfold maxNum; omega)]
        have e1 : (2 * len.toNat + 1) % 2 = 1 := by omega
        have e2 : (2 * len.toNat + 1) / 2 = len.toNat := by omega
        simp only [e1, e2]
        rw [if_neg (by omega), take_nb (by unfold maxNum; omega)]
        simp only [Option.some.injEq, Prod.mk.injEq, and_true]
        congr 1 <;> omega
theorem tokB_ne (t : Tok) (h : tokB t = []) : False := by
  unfold tokB at h
  split at h <;> (have := congrArg List.length h; simp at this; have h2 := nb_pos (2 * t.lit.length); have h3 := nb_pos (2 * t.len.toNat + 1); first | (simp at h2; simp_all; done) | simp_all)
theorem toksOf_toksB (d : Nat) : ∀ (l : List Tok) (s : Bytes) (b : Bool), (playF d s b l).2 = 0 → d ≤ s.length → s.length - d ≤ 512 → d ≤ 256 → toksOf (toksB l) = some l
  | [], _, _, _, _, _, _ => rfl
  | t :: l, s, b, h, hd, hr, hd2 => by
    rw [playF] at h
    by_cases he : tokE d s b t ≠ 0
    · rw [if_pos he] at h; exact absurd h he
    · rw [if_neg he] at h
      have he : tokE d s b t = 0 := by omega
      obtain ⟨h1, h2⟩ := tokS_grow he hd
      rw [toksB, toksOf_some (fun e => tokB_ne t (List.append_eq_nil_iff.1 e).1) (tokFrom_tokB he (by omega) (toksB l)), toksOf_toksB d l _ _ h (by omega) h2 hd2]
      rfl
/-- READ OF WRITE IS THE TOKS -/
theorem read_write {dict : Bytes} {l : List Tok} (h : (write dict l).2 = 0) : read dict (write dict l).1 = some l := by
  unfold write at h ⊢
  by_cases hp : (play dict l).2 ≠ 0
  · rw [if_pos hp] at h; exact absurd h hp
  · rw [if_neg hp]
    have hp : (play dict l).2 = 0 := by omega
    have hd : dict.length ≤ 256 := by
      by_cases hd : dict.length ≤ 256
      · exact hd
      · unfold play at hp; rw [if_pos (by unfold maxDict; omega)] at hp; simp at hp
    refine read_good hd (toksOf_toksB dict.length l dict false ?_ (Nat.le_refl _) (by omega) hd) hp
    unfold play at hp; rwa [if_neg (by unfold maxDict; omega)] at hp

/-- what is read was written so -/
theorem tokB_tokFrom {d : Nat} {m : Bytes} {b : Bool} {s r : Bytes} {t : Tok} (h : tokFrom s = some (t, r)) (he : tokE d m b t = 0) : s = tokB t ++ r := by
  unfold tokFrom at h
  cases hk : take s with
  | none => rw [hk] at h; simp at h
  | some p =>
    obtain ⟨n, q⟩ := p
    obtain ⟨hs, _⟩ := take_some hk
    rw [hk] at h
    simp only at h
    by_cases h2 : n % 2 = 0
    · rw [if_pos h2] at h
      by_cases h3 : q.length < n / 2
      · rw [if_pos h3] at h; simp at h
      · rw [if_neg h3] at h
        simp only [Option.some.injEq, Prod.mk.injEq] at h
        obtain ⟨rfl, rfl⟩ := h
        have hne : q.take (n / 2) ≠ [] := by
          intro e
          unfold tokE at he
          simp only [e] at he
          simp at he
        have hl : (q.take (n / 2)).length = n / 2 := by simp; omega
        unfold tokB
        rw [if_pos hne]
        simp only [hl]
        rw [show 2 * (n / 2) = n from by omega, List.append_assoc, List.take_append_drop]; exact hs
    · rw [if_neg h2] at h
      cases hf : take q with
      | none => rw [hf] at h; simp at h
      | some p2 =>
        obtain ⟨f, q2⟩ := p2
        obtain ⟨hq, _⟩ := take_some hf
        rw [hf] at h
        simp only [Option.some.injEq, Prod.mk.injEq] at h
        obtain ⟨rfl, rfl⟩ := h
        unfold tokB
        rw [if_neg (by simp)]
        simp only [Int.toNat_natCast]
        rw [show 2 * (n / 2) + 1 = n from by omega, List.append_assoc, ← hq]; exact hs
theorem readF_back (d : Nat) : ∀ (f : Nat) (m : Bytes) (b : Bool) (s : Bytes) (l : List Tok), readF d f m b s = some l → s = toksB l
  | f, m, b, [], l, h => by cases f <;> (simp [readF] at h; subst h; rfl)
  | 0, _, _, _ :: _, _, h => by simp [readF] at h
  | f + 1, m, b, c :: s', l, h => by
    rw [readF] at h
    cases hk : tokFrom (c :: s') with
    | none => rw [hk] at h; simp at h
    | some p =>
      obtain ⟨t, r⟩ := p
      rw [hk] at h
      simp only at h
      by_cases he : tokE d m b t ≠ 0
      · rw [if_pos he] at h; simp at h
      · rw [if_neg he] at h
        cases hr : readF d f (tokS m t) (isLit t) r with
        | none => rw [hr] at h; simp at h
        | some k =>
          rw [hr] at h
          simp at h
          subst h
          rw [tokB_tokFrom hk (Decidable.not_not.1 he), toksB, readF_back d f _ _ _ _ hr]
/-- WRITE OF READ IS THE BYTES -/
theorem write_read {dict s : Bytes} {l : List Tok} (hd : dict.length ≤ 256) (h : read dict s = some l) : write dict l = (s, 0) := by
  have hb : s = toksB l := by unfold read at h; exact readF_back _ _ _ _ _ _ h
  have hp : (play dict l).2 = 0 := by
    rw [read_eq hd] at h
    cases hk : toksOf s with
    | none => rw [hk] at h; simp at h
    | some k =>
      rw [hk] at h
      simp only at h
      by_cases h0 : (play dict k).2 = 0
      · rw [if_pos h0] at h; simp at h; subst h; exact h0
      · rw [if_neg h0] at h; simp at h
  unfold write
  rw [if_neg (by omega), hb]

end Pl
end Go.Proofs.YtbnmfdlaabdlhaaGreat

/- Plain mathematics of chapter 2: play of parse is the text. No program in sight. -/
namespace Go.Proofs.YtbnmfdlaabdlhaaGreat
namespace Pl

theorem comeF_same (w : Bytes) (p far : Nat) : ∀ f n i, n ≤ i → i < comeF w p far f n → w.getD (p + i) 0 = w.getD (p + i - far) 0
  | 0, n, i, h1, h2 => by rw [comeF] at h2; omega
  | f + 1, n, i, h1, h2 => by
    rw [comeF] at h2
    by_cases h : p + n < w.length ∧ w.getD (p + n) 0 = w.getD (p + n - far) 0
    · rw [if_pos h] at h2
      by_cases e : i = n
      · rw [e]; exact h.2
      · exact comeF_same w p far f (n + 1) i (by omega) h2
    · rw [if_neg h] at h2; omega
theorem bestF_is (w : Bytes) (p : Nat) : ∀ f, (bestF w p f).2 ≠ 0 → 3 ≤ (bestF w p f).2 ∧ 1 ≤ (bestF w p f).1 ∧ (bestF w p f).1 ≤ f ∧ (bestF w p f).2 = come w p (bestF w p f).1
  | 0, h => by simp [bestF] at h
  | f + 1, h => by
    rw [bestF] at h ⊢
    by_cases h1 : 3 ≤ come w p (f + 1) ∧ (bestF w p f).2 < come w p (f + 1)
    · rw [if_pos h1]; exact ⟨h1.1, by simp, Nat.le_refl _, rfl⟩
    · rw [if_neg h1] at h ⊢
      obtain ⟨a, b, c, d⟩ := bestF_is w p f h
      exact ⟨a, b, by omega, d⟩

theorem take_next {w : Bytes} {k : Nat} (h : k < w.length) : w.take (k + 1) = w.take k ++ [w.getD k 0] := by
  rw [List.take_succ_eq_append_getElem h, List.getD_eq_getElem?_getD, List.getElem?_eq_getElem h]; rfl
theorem copyB_come (w : Bytes) (p far : Nat) (h1 : 1 ≤ far) (h2 : far ≤ p) (hp : p ≤ w.length) : ∀ n, n ≤ come w p far → copyB n far (w.take p) = w.take (p + n)
  | 0, _ => rfl
  | n + 1, h => by
    have hl := (come_le w p far hp).2
    have ih := copyB_come w p far h1 h2 hp n (by omega)
    have hs : w.getD (p + n) 0 = w.getD (p + n - far) 0 := comeF_same w p far 64 0 n (by omega) (by unfold come at h; omega)
    rw [copyB_snoc, ih, ← Nat.add_assoc, take_next (by omega), hs]
    congr 2
    rw [List.length_take, Nat.min_eq_left (by omega), List.getD_eq_getElem?_getD, List.getD_eq_getElem?_getD, List.getElem?_take, if_pos (by omega)]

theorem take_slice {w : Bytes} {a b : Nat} (h : a ≤ b) : w.take a ++ slice w a b = w.take b := by
  unfold slice
  have : w.take a = (w.take b).take a := by rw [List.take_take, Nat.min_eq_left h]
  rw [this, List.take_append_drop]

theorem flush_play {d : Nat} {w : Bytes} {a p : Nat} (ha : d ≤ a) (hap : a ≤ p) (hp : p ≤ w.length) (hw : w.length - d ≤ 512) (l : List Tok) :
    ∃ b, playF d (w.take a) false (flush w a p ++ l) = playF d (w.take p) b l := by
  unfold flush
  by_cases h : a < p
  · rw [if_pos h]
    refine ⟨true, ?_⟩
    have hl : (slice w a p).length = p - a := by rw [slice_len, Nat.min_eq_left hp]
    have hne : slice w a p ≠ [] := by intro e; rw [e] at hl; simp at hl; omega
    have he : tokE d (w.take a) false (litTok (slice w a p)) = 0 := by
      unfold tokE litTok
      simp only
      rw [if_pos hne, if_neg (by simp), if_neg (by rw [hl, List.length_take]; omega)]
    have hi : isLit (litTok (slice w a p)) = true := by
      unfold isLit litTok; simp [hne]
    have ht : tokS (w.take a) (litTok (slice w a p)) = w.take p := by
      unfold tokS litTok; simp only; rw [if_pos hne, take_slice hap]
    rw [List.cons_append, List.nil_append, playF, if_neg (by omega), hi, ht]
  · rw [if_neg h]
    obtain rfl : a = p := by omega
    exact ⟨false, rfl⟩

theorem parseF_play (d : Nat) (w : Bytes) (hw : w.length - d ≤ 512) : ∀ (f p a : Nat), d ≤ a → a ≤ p → p ≤ w.length → w.length ≤ p + f →
    playF d (w.take a) false (parseF w f p a) = (w.drop d, 0) := by
  have fin : ∀ p a : Nat, d ≤ a → a ≤ p → p = w.length → playF d (w.take a) false (flush w a p) = (w.drop d, 0) := by
    intro p a ha hap hp
    obtain ⟨b, hb⟩ := flush_play ha hap (by omega) hw []
    rw [List.append_nil] at hb
    rw [hb, playF, hp, List.take_length]
  intro f
  induction f with
  | zero => intro p a ha hap hp hf; rw [parseF]; exact fin p a ha hap (by omega)
  | succ f ih =>
    intro p a ha hap hp hf
    rw [parseF]
    by_cases h : p < w.length
    · rw [if_pos h]
      by_cases h2 : (best w p).2 = 0
      · rw [if_pos h2]; exact ih (p + 1) a ha (by omega) (by omega) (by omega)
      · rw [if_neg h2]
        obtain ⟨b3, b1, bp, bc⟩ := bestF_is w p p h2
        have hc := come_le w p (best w p).1 hp
        have bc : (best w p).2 = come w p (best w p).1 := bc
        have b3 : 3 ≤ (best w p).2 := b3
        have b1 : 1 ≤ (best w p).1 := b1
        have bp : (best w p).1 ≤ p := bp
        obtain ⟨b, hb⟩ := flush_play ha hap hp hw (copyTok (best w p).1 (best w p).2 :: parseF w f (p + (best w p).2) (p + (best w p).2))
        rw [hb, playF]
        have hlen : (w.take p).length = p := by rw [List.length_take]; omega
        have he : tokE d (w.take p) b (copyTok (best w p).1 (best w p).2) = 0 := by
          unfold tokE copyTok
          simp only
          rw [if_neg (by simp), if_neg (by rw [hlen]; omega), if_neg (by rw [hlen]; omega)]
        have ht : tokS (w.take p) (copyTok (best w p).1 (best w p).2) = w.take (p + (best w p).2) := by
          unfold tokS copyTok
          simp only [Int.toNat_natCast]
          rw [if_neg (by simp)]
          exact copyB_come w p _ b1 bp hp _ (by omega)
        have hi : isLit (copyTok (best w p).1 (best w p).2) = false := rfl
        rw [if_neg (by omega), ht, hi]
        exact ih _ _ (by omega) (Nat.le_refl _) (by omega) (by omega)
    · rw [if_neg h]; exact fin p a ha hap (by omega)

/-- PLAY OF PARSE IS THE TEXT -/
theorem play_parse {dict text : Bytes} (hd : dict.length ≤ 256) (ht : text.length ≤ 512) : play dict (parse dict text) = (text, 0) := by
  unfold play parse
  rw [if_neg (by unfold maxDict; omega)]
  have h := parseF_play dict.length (dict ++ text) (by simp; omega) text.length dict.length dict.length (Nat.le_refl _) (Nat.le_refl _) (by simp) (by simp)
  rw [List.take_left' rfl] at h
  rw [h, List.drop_left' rfl]

end Pl
end Go.Proofs.YtbnmfdlaabdlhaaGreat

/- Plain mathematics of chapter 3: writing and reading with a code. No program in sight. -/
namespace Go.Proofs.YtbnmfdlaabdlhaaGreat
namespace Pl

def zeros (n : Nat) : List Bool := List.replicate n false
theorem zeros_len (n : Nat) : (zeros n).length = n := List.length_replicate
theorem zeros_add (a b : Nat) : zeros a ++ zeros b = zeros (a + b) := List.replicate_append_replicate
theorem val_zeros (n : Nat) : val (zeros n) = 0 := by
  induction n with
  | zero => rfl
  | succ n ih =>
    have : zeros (n + 1) = zeros n ++ [false] := by rw [← zeros_add]; rfl
    rw [this, val_snoc, ih]; rfl
/-- bytes as bits -/
def unpackB (b : Bytes) : List Bool := b.flatMap fun c => bt c.toNat 8
theorem unpackB_cons (c : UInt8) (b : Bytes) : unpackB (c :: b) = bt c.toNat 8 ++ unpackB b := by simp [unpackB]
theorem unpackB_len (b : Bytes) : (unpackB b).length = 8 * b.length := by
  induction b with
  | nil => rfl
  | cons c b ih => rw [unpackB_cons, List.length_append, bt_len, ih, List.length_cons]; omega
theorem unpackB_app (a b : Bytes) : unpackB (a ++ b) = unpackB a ++ unpackB b := by simp [unpackB]
/-- at most eight bits, as a byte -/
def byteOfB (x : List Bool) : UInt8 := UInt8.ofNat (val x * 2 ^ (8 - x.length))
theorem byteOfB_nat {x : List Bool} (h : x.length ≤ 8) : (byteOfB x).toNat = val x * 2 ^ (8 - x.length) := by
  have h1 := val_lt x
  have h2 : val x * 2 ^ (8 - x.length) < 2 ^ x.length * 2 ^ (8 - x.length) := Nat.mul_lt_mul_of_pos_right h1 (Nat.pow_pos (by omega))
  rw [← Nat.pow_add, show x.length + (8 - x.length) = 8 from by omega] at h2
  show (UInt8.ofNat _).toNat = _
  rw [UInt8.toNat_ofNat']
  exact Nat.mod_eq_of_lt (by simpa using h2)
theorem bt_byteOfB {x : List Bool} (h : x.length ≤ 8) : bt (byteOfB x).toNat 8 = x ++ zeros (8 - x.length) := by
  rw [byteOfB_nat h]
  have h1 : val (x ++ zeros (8 - x.length)) = val x * 2 ^ (8 - x.length) := by rw [val_app, val_zeros, zeros_len]; omega
  have h2 := bt_val (x ++ zeros (8 - x.length))
  rw [h1, List.length_append, zeros_len, show x.length + (8 - x.length) = 8 from by omega] at h2
  exact h2
theorem byteOfB_bt (c : UInt8) : byteOfB (bt c.toNat 8) = c := by
  have := c.toNat_lt
  apply UInt8.toNat_inj.1
  rw [byteOfB_nat (by rw [bt_len]; omega), val_bt, bt_len]
  simp
def packN : Nat → List Bool → Bytes
  | 0, _ => []
  | n + 1, x => byteOfB (x.take 8) :: packN n (x.drop 8)
def packB (x : List Bool) : Bytes := packN ((x.length + 7) / 8) x
theorem packN_len (n : Nat) (x : List Bool) : (packN n x).length = n := by
  induction n generalizing x with
  | zero => rfl
  | succ n ih => rw [packN, List.length_cons, ih]
theorem unpack_packN : ∀ (n : Nat) (x : List Bool), x.length ≤ 8 * n → unpackB (packN n x) = x ++ zeros (8 * n - x.length)
  | 0, x, h => by
    have : x = [] := List.length_eq_zero_iff.1 (by omega)
    subst this; rfl
  | n + 1, x, h => by
    rw [packN, unpackB_cons, bt_byteOfB (by rw [List.length_take]; omega), unpack_packN n _ (by rw [List.length_drop]; omega), List.length_take, List.length_drop]
    by_cases h8 : 8 ≤ x.length
    · rw [show 8 - min 8 x.length = 0 from by omega, show 8 * n - (x.length - 8) = 8 * (n + 1) - x.length from by omega]
      rw [show zeros 0 = [] from rfl, List.append_nil, ← List.append_assoc, List.take_append_drop]
    · rw [List.take_of_length_le (by omega), List.drop_eq_nil_of_le (by omega), List.nil_append, List.append_assoc, zeros_add]
      congr 2; omega
theorem packN_unpack (b : Bytes) : packN b.length (unpackB b) = b := by
  induction b with
  | nil => rfl
  | cons c b ih =>
    rw [List.length_cons, packN, unpackB_cons]
    have h8 := bt_len 8 c.toNat
    rw [List.take_append_of_le_length (by omega), List.take_of_length_le (by omega), byteOfB_bt, List.drop_append_of_le_length (by omega), List.drop_eq_nil_of_le (by omega), List.nil_append, ih]
theorem unpackB_inj {a b : Bytes} (h : unpackB a = unpackB b) : a = b := by
  have hl := congrArg List.length h
  rw [unpackB_len, unpackB_len] at hl
  rw [← packN_unpack a, ← packN_unpack b, h, show a.length = b.length from by omega]
theorem packB_len (x : List Bool) : (packB x).length = (x.length + 7) / 8 := packN_len _ _
theorem unpack_packB (x : List Bool) : unpackB (packB x) = x ++ zeros (8 * ((x.length + 7) / 8) - x.length) := unpack_packN _ _ (by omega)
theorem pack_iff (x rest : List Bool) (b : Bytes) (h : unpackB b = x ++ rest) : packB x = b ↔ rest.length < 8 ∧ rest = zeros rest.length := by
  constructor
  · intro e
    have h2 := unpack_packB x
    rw [e, h] at h2
    have h3 := List.append_cancel_left h2
    rw [h3, zeros_len]
    exact ⟨by omega, rfl⟩
  · rintro ⟨h1, h2⟩
    apply unpackB_inj
    rw [unpack_packB, h]
    have hl := congrArg List.length h
    rw [unpackB_len, List.length_append] at hl
    rw [h2]
    congr 2; omega
/-- one byte more -/
theorem packN_app (n m : Nat) (x y : List Bool) (h : x.length = 8 * n) : packN (n + m) (x ++ y) = packN n x ++ packN m y := by
  induction n generalizing x with
  | zero =>
    have : x = [] := List.length_eq_zero_iff.1 (by omega)
    subst this; simp [packN]
  | succ n ih =>
    rw [show n + 1 + m = (n + m) + 1 from by omega, packN, packN, List.take_append_of_le_length (by omega), List.drop_append_of_le_length (by omega), ih _ (by rw [List.length_drop]; omega), List.cons_append]

theorem packN_snoc : ∀ (n : Nat) (x : List Bool), packN (n + 1) x = packN n x ++ [byteOfB ((x.drop (8 * n)).take 8)]
  | 0, x => by simp [packN]
  | n + 1, x => by
    rw [packN, packN_snoc n (x.drop 8), packN, List.cons_append, List.drop_drop, show 8 + 8 * n = 8 * (n + 1) from by omega]
theorem packN_pad (x : List Bool) (n : Nat) (h : x.length ≤ 8 * n) : packN n (x ++ zeros (8 * n - x.length)) = packN n x := by
  apply unpackB_inj
  rw [unpack_packN _ _ (by rw [List.length_append, zeros_len]; omega), unpack_packN _ _ h, List.length_append, zeros_len, show 8 * n - (x.length + (8 * n - x.length)) = 0 from by omega]
  simp [zeros]
/-- half bytes -/
def nibs (s : Bytes) : List Nat := s.flatMap fun c => [c.toNat / 16, c.toNat % 16]
theorem nibs_cons (c : UInt8) (s : Bytes) : nibs (c :: s) = c.toNat / 16 :: c.toNat % 16 :: nibs s := by simp [nibs]
theorem nibs_len (s : Bytes) : (nibs s).length = 2 * s.length := by
  induction s with
  | nil => rfl
  | cons c s ih => rw [nibs_cons, List.length_cons, List.length_cons, ih, List.length_cons]; omega
theorem nibs_lt (s : Bytes) : ∀ k ∈ nibs s, k < 16 := by
  induction s with
  | nil => intro k hk; simp [nibs] at hk
  | cons c s ih =>
    intro k hk
    have := c.toNat_lt
    rw [nibs_cons, List.mem_cons, List.mem_cons] at hk
    rcases hk with rfl | rfl | hk
    · omega
    · omega
    · exact ih k hk
theorem nibs_app (a b : Bytes) : nibs (a ++ b) = nibs a ++ nibs b := by simp [nibs]
def half : List Nat → Bytes
  | [] => []
  | [a] => [UInt8.ofNat (16 * a)]
  | a :: b :: r => UInt8.ofNat (16 * a + b) :: half r
theorem half_nibs (s : Bytes) : half (nibs s) = s := by
  induction s with
  | nil => rfl
  | cons c s ih =>
    rw [nibs_cons, half, ih, Nat.div_add_mod]
    congr 1
    exact UInt8.ofNat_toNat
theorem nibs_half : ∀ (ks : List Nat), ks.length % 2 = 0 → (∀ k ∈ ks, k < 16) → nibs (half ks) = ks
  | [], _, _ => rfl
  | [_], h, _ => by simp at h
  | a :: b :: r, h, hk => by
    have ha := hk a (by simp)
    have hb := hk b (by simp)
    have e : (UInt8.ofNat (16 * a + b)).toNat = 16 * a + b := by rw [UInt8.toNat_ofNat']; exact Nat.mod_eq_of_lt (by simp; omega)
    rw [half, nibs_cons, e, nibs_half r (by simp at h; omega) (fun k hk' => hk k (by simp [hk']))]
    congr 1
    · omega
    · congr 1; omega
theorem half_app : ∀ (a b : List Nat), a.length % 2 = 0 → half (a ++ b) = half a ++ half b
  | [], _, _ => rfl
  | [_], _, h => by simp at h
  | x :: y :: r, b, h => by
    rw [List.cons_append, List.cons_append, half, half, List.cons_append, half_app r b (by simp at h; omega)]
theorem half_len : ∀ (ks : List Nat), (half ks).length = (ks.length + 1) / 2
  | [] => rfl
  | [_] => by simp [half]
  | a :: b :: r => by rw [half, List.length_cons, half_len r, List.length_cons, List.length_cons]; omega

/-- the bits of a text -/
def encK (l : List Int) (ks : List Nat) : List Bool := ks.flatMap (wordB l)
theorem encK_app (l : List Int) (a b : List Nat) : encK l (a ++ b) = encK l a ++ encK l b := by simp [encK]
theorem encK_cons (l : List Int) (a : Nat) (b : List Nat) : encK l (a :: b) = wordB l a ++ encK l b := by simp [encK]
theorem encK_len {l : List Int} (h : Right l) (ks : List Nat) : (encK l ks).length ≤ 15 * ks.length := by
  induction ks with
  | nil => simp [encK]
  | cons a ks ih =>
    have := h.one a
    rw [encK_cons, List.length_append, wordB_len, List.length_cons]; omega
def lacks (l : List Int) (ks : List Nat) : Bool := ks.any fun k => decide (ln l k = 0)
def writeE (l : List Int) (s : Bytes) : Nat := if checkE l ≠ 0 then checkE l else if 1024 < s.length then 2 else if lacks l (nibs s) = true then 5 else 0
def writeS (l : List Int) (s : Bytes) : Bytes := if writeE l s = 0 then packB (encK l (nibs s)) else []

/-- the sign with whose word bits begin -/
def hitB (l : List Int) (b : List Bool) (i : Nat) : Bool := decide (0 < ln l i) && (wordB l i).isPrefixOf b
def frontP (l : List Int) (b : List Bool) : Option Nat := (List.range 16).find? (hitB l b)
theorem hit_iff (l : List Int) (b : List Bool) (i : Nat) : hitB l b i = true ↔ 0 < ln l i ∧ wordB l i <+: b := by
  unfold hitB
  rw [Bool.and_eq_true, decide_eq_true_eq, List.isPrefixOf_iff_prefix]
theorem front_some {l : List Int} {b : List Bool} {i : Nat} (h : frontP l b = some i) : i < 16 ∧ 0 < ln l i ∧ wordB l i <+: b := by
  unfold frontP at h
  rw [List.find?_range_eq_some] at h
  have := (hit_iff l b i).1 h.1
  exact ⟨by simpa using h.2.1, this.1, this.2⟩
theorem front_hit {l : List Int} (hr : Right l) {b : List Bool} {i : Nat} (hi : i < 16) (h0 : 0 < ln l i) (hp : wordB l i <+: b) : frontP l b = some i := by
  unfold frontP
  rw [List.find?_range_eq_some]
  refine ⟨(hit_iff _ _ _).2 ⟨h0, hp⟩, by simpa using hi, fun j hj => ?_⟩
  rw [Bool.not_eq_true']
  cases hq : hitB l b j with
  | false => rfl
  | true =>
    exfalso
    obtain ⟨h1, h2⟩ := (hit_iff _ _ _).1 hq
    rcases Nat.le_total (ln l i) (ln l j) with hle | hle
    · have := word_free hr hi (by omega) h0 h1 (List.prefix_of_prefix_length_le hp h2 (by rw [wordB_len, wordB_len]; exact hle))
      omega
    · have := word_free hr (by omega) hi h1 h0 (List.prefix_of_prefix_length_le h2 hp (by rw [wordB_len, wordB_len]; exact hle))
      omega
theorem front_none {l : List Int} {b : List Bool} (h : frontP l b = none) {i : Nat} (hi : i < 16) : ¬ (0 < ln l i ∧ wordB l i <+: b) := by
  unfold frontP at h
  rw [List.find?_range_eq_none] at h
  have := h i hi
  rw [Bool.not_eq_true'] at this
  rw [← hit_iff, this]; simp

/-- so many signs, and the bits behind them -/
def decN (l : List Int) : Nat → List Bool → Option (List Nat × List Bool)
  | 0, b => some ([], b)
  | k + 1, b => match frontP l b with
    | none => none
    | some i => match decN l k (b.drop (ln l i)) with
      | none => none
      | some (ks, r) => some (i :: ks, r)
theorem dec_some {l : List Int} : ∀ (k : Nat) (b : List Bool) (ks : List Nat) (r : List Bool), decN l k b = some (ks, r) → ks.length = k ∧ b = encK l ks ++ r ∧ ∀ i ∈ ks, i < 16 ∧ 0 < ln l i
  | 0, b, ks, r, h => by
    rw [decN] at h
    injection h with h; injection h with h1 h2
    subst h1; subst h2
    exact ⟨rfl, rfl, by simp⟩
  | k + 1, b, ks, r, h => by
    rw [decN] at h
    cases hf : frontP l b with
    | none => rw [hf] at h; cases h
    | some i =>
      rw [hf] at h
      simp only at h
      cases hd : decN l k (b.drop (ln l i)) with
      | none => rw [hd] at h; cases h
      | some q =>
        obtain ⟨ks', r'⟩ := q
        rw [hd] at h
        simp only at h
        injection h with h; injection h with h1 h2
        subst h1; subst h2
        obtain ⟨e1, e2, e3⟩ := dec_some k _ _ _ hd
        obtain ⟨h1, h2, h3⟩ := front_some hf
        refine ⟨by rw [List.length_cons, e1], ?_, ?_⟩
        · obtain ⟨t, ht⟩ := h3
          have h4 : b.drop (ln l i) = t := by rw [← ht, List.drop_append_of_le_length (by rw [wordB_len]; omega), List.drop_eq_nil_of_le (by rw [wordB_len]; omega), List.nil_append]
          rw [encK_cons, List.append_assoc, ← e2, h4, ht]
        · intro j hj
          rcases List.mem_cons.1 hj with rfl | hj
          · exact ⟨h1, h2⟩
          · exact e3 j hj
theorem dec_enc {l : List Int} (hr : Right l) (r : List Bool) : ∀ (ks : List Nat), (∀ i ∈ ks, i < 16 ∧ 0 < ln l i) → decN l ks.length (encK l ks ++ r) = some (ks, r)
  | [], _ => rfl
  | i :: ks, h => by
    obtain ⟨h1, h2⟩ := h i (by simp)
    rw [List.length_cons, decN, encK_cons, List.append_assoc, front_hit hr h1 h2 ⟨_, rfl⟩]
    simp only
    rw [List.drop_append_of_le_length (by rw [wordB_len]; omega), List.drop_eq_nil_of_le (by rw [wordB_len]; omega), List.nil_append, dec_enc hr r ks fun j hj => h j (by simp [hj])]
def goodRest (r : List Bool) : Bool := decide (r.length < 8) && r.all (fun b => !b)
theorem goodRest_iff (r : List Bool) : goodRest r = true ↔ r.length < 8 ∧ r = zeros r.length := by
  unfold goodRest
  rw [Bool.and_eq_true, decide_eq_true_eq, List.all_eq_true]
  refine and_congr_right fun _ => ⟨fun h => List.eq_replicate_iff.2 ⟨rfl, fun b hb => by simpa using h b hb⟩, fun h b hb => ?_⟩
  rw [h] at hb
  simp [zeros] at hb
  rw [hb.2]; rfl
def readE (l : List Int) (b : Bytes) (n : Int) : Nat :=
  if checkE l ≠ 0 then checkE l else if n < 0 ∨ 1024 < n then 3 else
  match decN l (2 * n.toNat) (unpackB b) with
  | none => 1
  | some (_, r) => if goodRest r = true then 0 else 1
def readS (l : List Int) (b : Bytes) (n : Int) : Bytes :=
  if readE l b n ≠ 0 then [] else
  match decN l (2 * n.toNat) (unpackB b) with
  | none => []
  | some (ks, _) => half ks
/-- so many signs are found -/
structure DecAt (l : List Int) (U : List Bool) (N i : Nat) (ks : List Nat) (R : List Bool) : Prop where
  len : ks.length = i
  le : i ≤ N
  rest : decN l N U = (match decN l (N - i) R with
    | none => none
    | some (a, r) => some (ks ++ a, r))
  fine : ∀ k ∈ ks, k < 16 ∧ 0 < ln l k
  short : R.length ≤ U.length
theorem DecAt.start (l : List Int) (U : List Bool) (N : Nat) : DecAt l U N 0 [] U := by
  refine ⟨rfl, by omega, ?_, by simp, Nat.le_refl _⟩
  rw [Nat.sub_zero]
  cases decN l N U <;> rfl
theorem DecAt.step {l : List Int} {U R : List Bool} {N i k : Nat} {ks : List Nat} (h : DecAt l U N i ks R) (hi : i < N) (hf : frontP l R = some k) : DecAt l U N (i + 1) (ks ++ [k]) (R.drop (ln l k)) := by
  obtain ⟨h1, h2, h3⟩ := front_some hf
  refine ⟨by rw [List.length_append, h.len]; rfl, by omega, ?_, ?_, ?_⟩
  · rw [h.rest, show N - i = (N - (i + 1)) + 1 from by omega, decN, hf]
    simp only
    cases decN l (N - (i + 1)) (R.drop (ln l k)) with
    | none => rfl
    | some q => obtain ⟨a, r⟩ := q; simp
  · intro j hj
    rcases List.mem_append.1 hj with hj | hj
    · exact h.fine j hj
    · have : j = k := by simpa using hj
      subst this; exact ⟨h1, h2⟩
  · have := h.short
    rw [List.length_drop]; omega
theorem DecAt.none {l : List Int} {U R : List Bool} {N i : Nat} {ks : List Nat} (h : DecAt l U N i ks R) (hi : i < N) (hf : frontP l R = none) : decN l N U = none := by
  rw [h.rest, show N - i = (N - (i + 1)) + 1 from by omega, decN, hf]
theorem DecAt.done {l : List Int} {U R : List Bool} {N : Nat} {ks : List Nat} (h : DecAt l U N N ks R) : decN l N U = some (ks, R) := by
  rw [h.rest, Nat.sub_self, decN]; simp
theorem half_odd {ks : List Nat} (h : ks.length % 2 = 1) (hk : ∀ k ∈ ks, k < 16) (b : Nat) :
    ∃ (h0 : Bytes) (a : Nat), a < 16 ∧ half ks = h0 ++ [UInt8.ofNat (16 * a)] ∧ half (ks ++ [b]) = h0 ++ [UInt8.ofNat (16 * a + b)] ∧ h0.length = ks.length / 2 := by
  have hne : ks ≠ [] := by intro e; rw [e] at h; simp at h
  obtain ⟨k0, a, rfl⟩ : ∃ k0 a, ks = k0 ++ [a] := ⟨ks.dropLast, ks.getLast hne, (List.dropLast_concat_getLast hne).symm⟩
  have h2 : k0.length % 2 = 0 := by rw [List.length_append, List.length_singleton] at h; omega
  refine ⟨half k0, a, hk a (by simp), half_app k0 [a] h2, ?_, ?_⟩
  · rw [List.append_assoc, half_app k0 _ h2]; rfl
  · rw [half_len, List.length_append, List.length_singleton]
theorem half_even {ks : List Nat} (h : ks.length % 2 = 0) (b : Nat) : half (ks ++ [b]) = half ks ++ [UInt8.ofNat (16 * b)] := half_app ks [b] h
theorem readE_code {l : List Int} {b : Bytes} {n : Int} (h : checkE l ≠ 0) : readE l b n = checkE l ∧ readS l b n = [] := by
  have : readE l b n = checkE l := by unfold readE; rw [if_pos h]
  exact ⟨this, by unfold readS; rw [if_pos (by omega)]⟩
theorem readE_range {l : List Int} {b : Bytes} {n : Int} (h : checkE l = 0) (h2 : n < 0 ∨ 1024 < n) : readE l b n = 3 ∧ readS l b n = [] := by
  have : readE l b n = 3 := by unfold readE; rw [if_neg (by omega), if_pos h2]
  exact ⟨this, by unfold readS; rw [if_pos (by omega)]⟩
theorem readE_none {l : List Int} {b : Bytes} {n : Int} (h : checkE l = 0) (h2 : ¬ (n < 0 ∨ 1024 < n)) (h3 : decN l (2 * n.toNat) (unpackB b) = none) : readE l b n = 1 ∧ readS l b n = [] := by
  have : readE l b n = 1 := by unfold readE; rw [if_neg (by omega), if_neg h2, h3]
  exact ⟨this, by unfold readS; rw [if_pos (by omega)]⟩
theorem readE_left {l : List Int} {b : Bytes} {n : Int} {ks : List Nat} {r : List Bool} (h : checkE l = 0) (h2 : ¬ (n < 0 ∨ 1024 < n)) (h3 : decN l (2 * n.toNat) (unpackB b) = some (ks, r)) (h4 : goodRest r = false) : readE l b n = 1 ∧ readS l b n = [] := by
  have : readE l b n = 1 := by unfold readE; rw [if_neg (by omega), if_neg h2, h3]; simp only [h4]; rfl
  exact ⟨this, by unfold readS; rw [if_pos (by omega)]⟩
theorem readE_ok {l : List Int} {b : Bytes} {n : Int} {ks : List Nat} {r : List Bool} (h : checkE l = 0) (h2 : ¬ (n < 0 ∨ 1024 < n)) (h3 : decN l (2 * n.toNat) (unpackB b) = some (ks, r)) (h4 : goodRest r = true) : readE l b n = 0 ∧ readS l b n = half ks := by
  have : readE l b n = 0 := by unfold readE; rw [if_neg (by omega), if_neg h2, h3]; simp only [h4]; rfl
  exact ⟨this, by unfold readS; rw [if_neg (by omega), h3]⟩
/-- too many bytes -/
theorem dec_long {l : List Int} (hr : Right l) {b : Bytes} {n : Nat} (h : 4 * n < b.length) {ks : List Nat} {r : List Bool} (hd : decN l (2 * n) (unpackB b) = some (ks, r)) : goodRest r = false := by
  obtain ⟨h1, h2, h3⟩ := dec_some _ _ _ _ hd
  have hl := congrArg List.length h2
  rw [unpackB_len, List.length_append] at hl
  have := encK_len hr ks
  cases hg : goodRest r with
  | false => rfl
  | true =>
    have := ((goodRest_iff r).1 hg).1
    omega
theorem lacks_false {l : List Int} {ks : List Nat} (h : ∀ i ∈ ks, i < 16 ∧ 0 < ln l i) : lacks l ks = false := by
  unfold lacks
  rw [List.any_eq_false]
  intro k hk
  have := (h k hk).2
  simp; omega
/-- what was read is written so again just if nothing is left over -/
theorem write_dec {l : List Int} (hc : checkE l = 0) {b : Bytes} {n : Nat} (hn : n ≤ 1024) {ks : List Nat} {r : List Bool} (hd : decN l (2 * n) (unpackB b) = some (ks, r)) :
    writeE l (half ks) = 0 ∧ (writeS l (half ks) = b ↔ goodRest r = true) ∧ (half ks).length = n := by
  obtain ⟨h1, h2, h3⟩ := dec_some _ _ _ _ hd
  have hl : (half ks).length = n := by rw [half_len]; omega
  have hnb : nibs (half ks) = ks := nibs_half ks (by omega) fun k hk => (h3 k hk).1
  have hw : writeE l (half ks) = 0 := by
    unfold writeE
    rw [if_neg (by omega), if_neg (by omega), hnb, lacks_false h3]; rfl
  refine ⟨hw, ?_, hl⟩
  unfold writeS
  rw [if_pos hw, hnb, goodRest_iff]
  exact pack_iff _ _ _ h2

end Pl
end Go.Proofs.YtbnmfdlaabdlhaaGreat

/- Plain mathematics of chapter 3: read of write, write of read. No program in sight. -/
namespace Go.Proofs.YtbnmfdlaabdlhaaGreat
namespace Pl

theorem writeE_parts {l : List Int} {s : Bytes} (h : writeE l s = 0) : checkE l = 0 ∧ s.length ≤ 1024 ∧ lacks l (nibs s) = false := by
  unfold writeE at h
  by_cases h1 : checkE l = 0
  · rw [if_neg (by omega)] at h
    by_cases h2 : 1024 < s.length
    · rw [if_pos h2] at h; cases h
    · rw [if_neg h2] at h
      cases h3 : lacks l (nibs s) with
      | true => rw [h3] at h; simp at h
      | false => exact ⟨h1, by omega, rfl⟩
  · rw [if_pos h1] at h; exact absurd h h1
theorem code_read_write {l : List Int} (hr : Right l) {s : Bytes} (h : writeE l s = 0) : readE l (writeS l s) (s.length : Int) = 0 ∧ readS l (writeS l s) (s.length : Int) = s := by
  obtain ⟨h1, h2, h3⟩ := writeE_parts h
  have hk : ∀ i ∈ nibs s, i < 16 ∧ 0 < ln l i := fun i hi => by
    refine ⟨nibs_lt s i hi, ?_⟩
    unfold lacks at h3
    have := List.any_eq_false.1 h3 i hi
    simp at this; omega
  have hu : unpackB (writeS l s) = encK l (nibs s) ++ zeros (8 * (((encK l (nibs s)).length + 7) / 8) - (encK l (nibs s)).length) := by
    unfold writeS; rw [if_pos h]; exact unpack_packB _
  have hd := dec_enc hr (zeros (8 * (((encK l (nibs s)).length + 7) / 8) - (encK l (nibs s)).length)) (nibs s) hk
  rw [← hu, nibs_len] at hd
  have hg : goodRest (zeros (8 * (((encK l (nibs s)).length + 7) / 8) - (encK l (nibs s)).length)) = true := by
    rw [goodRest_iff, zeros_len]
    exact ⟨by omega, rfl⟩
  obtain ⟨e1, e2⟩ := readE_ok (l := l) (b := writeS l s) (n := (s.length : Int)) h1 (by omega) (by rw [Int.toNat_natCast]; exact hd) hg
  exact ⟨e1, by rw [e2, half_nibs]⟩
theorem code_write_read {l : List Int} {b : Bytes} {n : Int} (h : readE l b n = 0) : writeE l (readS l b n) = 0 ∧ writeS l (readS l b n) = b ∧ ((readS l b n).length : Int) = n := by
  have h1 : checkE l = 0 := by
    by_cases e : checkE l = 0
    · exact e
    · have := (readE_code (b := b) (n := n) e).1; omega
  have h2 : ¬ (n < 0 ∨ 1024 < n) := fun e => by have := (readE_range (b := b) h1 e).1; omega
  cases hd : decN l (2 * n.toNat) (unpackB b) with
  | none => have := (readE_none h1 h2 hd).1; omega
  | some q =>
    obtain ⟨ks, r⟩ := q
    cases hg : goodRest r with
    | false => have := (readE_left h1 h2 hd hg).1; omega
    | true =>
      obtain ⟨e1, e2⟩ := readE_ok h1 h2 hd hg
      obtain ⟨w1, w2, w3⟩ := write_dec h1 (n := n.toNat) (by omega) hd
      rw [e2]
      exact ⟨w1, w2.2 hg, by omega⟩

end Pl
end Go.Proofs.YtbnmfdlaabdlhaaGreat

/- Plain mathematics of the program's own way to write with a code: bits that wait in a number. No program in sight. -/
namespace Go.Proofs.YtbnmfdlaabdlhaaGreat
namespace Pl

theorem val_hi (X : List Bool) {p : Nat} (h : p ≤ X.length) : val X / 2 ^ p = val (X.take (X.length - p)) := by
  have e : X = X.take (X.length - p) ++ X.drop (X.length - p) := (List.take_append_drop _ _).symm
  have hl : (X.drop (X.length - p)).length = p := by rw [List.length_drop]; omega
  have hv := val_app (X.take (X.length - p)) (X.drop (X.length - p))
  rw [← e, hl] at hv
  have hlt := val_lt (X.drop (X.length - p))
  rw [hl] at hlt
  rw [hv, Nat.mul_comm, Nat.mul_add_div (Nat.pow_pos (by omega)), Nat.div_eq_of_lt hlt]; omega
theorem val_lo (X : List Bool) {p : Nat} (h : p ≤ X.length) : val X % 2 ^ p = val (X.drop (X.length - p)) := by
  have e : X = X.take (X.length - p) ++ X.drop (X.length - p) := (List.take_append_drop _ _).symm
  have hl : (X.drop (X.length - p)).length = p := by rw [List.length_drop]; omega
  have hv := val_app (X.take (X.length - p)) (X.drop (X.length - p))
  rw [← e, hl] at hv
  have hlt := val_lt (X.drop (X.length - p))
  rw [hl] at hlt
  rw [hv, Nat.mul_comm, Nat.mul_add_mod, Nat.mod_eq_of_lt hlt]
/-- eight bits out of the midst -/
theorem val_mid (X : List Bool) {a p : Nat} (h : a + 8 + p = X.length) : val X / 2 ^ p % 256 = val ((X.drop a).take 8) := by
  rw [val_hi X (by omega)]
  have h2 := val_lo (X.take (X.length - p)) (p := 8) (by rw [List.length_take]; omega)
  rw [show (256 : Nat) = 2 ^ 8 from rfl, h2, List.length_take, show min (X.length - p) X.length - 8 = a from by omega]
  congr 1
  rw [List.drop_take]
  congr 1; omega

/-- the bits that are written, and the bytes of which they are whole; the others wait -/
structure Wait (X : List Bool) (n0 : Nat) (out : Bytes) (h left : Nat) : Prop where
  le : n0 ≤ out.length
  len : 8 * out.length + left = X.length
  pk : out = packN out.length X
  va : h = Pl.val (X.drop (8 * n0))
theorem Wait.step {X : List Bool} {n0 : Nat} {out : Bytes} {h left : Nat} (w : Wait X n0 out h left) (h8 : 8 ≤ left) (b : UInt8) (hb : b.toNat = h / 2 ^ (left - 8) % 256) : Wait X n0 (out ++ [b]) h (left - 8) := by
  obtain ⟨w1, w2, w3, w4⟩ := w
  refine ⟨by simp; omega, by simp; omega, ?_, w4⟩
  have e : val (X.drop (8 * n0)) / 2 ^ (left - 8) % 256 = val (((X.drop (8 * n0)).drop (8 * (out.length - n0))).take 8) := val_mid _ (by rw [List.length_drop]; omega)
  rw [List.drop_drop, show 8 * n0 + 8 * (out.length - n0) = 8 * out.length from by omega, ← w4, ← hb] at e
  rw [List.length_append, List.length_singleton, packN_snoc, ← w3]
  congr 2
  have hl : ((X.drop (8 * out.length)).take 8).length = 8 := by rw [List.length_take, List.length_drop]; omega
  apply UInt8.toNat_inj.1
  rw [byteOfB_nat (by omega), hl, e]; simp
theorem Wait.cut {X : List Bool} {n0 : Nat} {out : Bytes} {h left : Nat} (w : Wait X n0 out h left) : Wait X out.length out (h % 2 ^ left) left := by
  obtain ⟨w1, w2, w3, w4⟩ := w
  refine ⟨Nat.le_refl _, w2, w3, ?_⟩
  rw [w4, val_lo _ (by rw [List.length_drop]; omega), List.length_drop, List.drop_drop]
  congr 2; omega
theorem Wait.more {X : List Bool} {out : Bytes} {h left : Nat} (w : Wait X out.length out h left) (y : List Bool) : Wait (X ++ y) out.length out (h * 2 ^ y.length + val y) (left + y.length) := by
  obtain ⟨w1, w2, w3, w4⟩ := w
  refine ⟨Nat.le_refl _, by rw [List.length_append]; omega, ?_, ?_⟩
  · have h1 : (X ++ y).take (8 * out.length) = X.take (8 * out.length) := List.take_append_of_le_length (by omega)
    have key : ∀ n (A B : List Bool), A.take (8 * n) = B.take (8 * n) → packN n A = packN n B := by
      intro n
      induction n with
      | zero => intro A B _; rfl
      | succ n ih =>
        intro A B hAB
        rw [packN, packN]
        have h8 : A.take 8 = B.take 8 := by
          have := congrArg (List.take 8) hAB
          rwa [List.take_take, List.take_take, Nat.min_eq_left (by omega)] at this
        have hd : (A.drop 8).take (8 * n) = (B.drop 8).take (8 * n) := by
          have := congrArg (List.drop 8) hAB
          rwa [List.drop_take, List.drop_take, show 8 * (n + 1) - 8 = 8 * n from by omega] at this
        rw [h8, ih _ _ hd]
    rw [key _ _ _ h1]; exact w3
  · rw [w4, List.drop_append_of_le_length (by omega), val_app]
theorem Wait.lt {X : List Bool} {n0 : Nat} {out : Bytes} {h left : Nat} (w : Wait X n0 out h left) : h < 2 ^ (8 * (out.length - n0) + left) := by
  have := val_lt (X.drop (8 * n0))
  rw [← w.va, List.length_drop] at this
  have e : X.length - 8 * n0 = 8 * (out.length - n0) + left := by have := w.le; have := w.len; omega
  rwa [e] at this
theorem Wait.done {X : List Bool} {out : Bytes} {h : Nat} (w : Wait X out.length out h 0) : out = packB X := by
  have h1 := w.len
  have h2 := w.pk
  unfold packB
  rw [show (X.length + 7) / 8 = out.length from by omega]; exact h2
theorem Wait.last {X : List Bool} {out : Bytes} {h left : Nat} (w : Wait X out.length out h left) (h0 : 0 < left) (h8 : left < 8) (b : UInt8) (hb : b.toNat = h * 2 ^ (8 - left)) : out ++ [b] = packB X := by
  have h1 := w.len
  have h2 := w.pk
  have h3 := w.va
  unfold packB
  rw [show (X.length + 7) / 8 = out.length + 1 from by omega, packN_snoc, ← h2]
  congr 2
  have hl : (X.drop (8 * out.length)).length = left := by rw [List.length_drop]; omega
  rw [List.take_of_length_le (by omega)]
  apply UInt8.toNat_inj.1
  rw [byteOfB_nat (by omega), hl, hb, h3]

theorem nibs_get : ∀ {s : Bytes} {q : Nat} {c : UInt8}, s[q]? = some c → (nibs s)[2 * q]? = some (c.toNat / 16) ∧ (nibs s)[2 * q + 1]? = some (c.toNat % 16)
  | [], q, c, h => by simp at h
  | d :: s, 0, c, h => by simp at h; subst h; simp [nibs_cons]
  | d :: s, q + 1, c, h => by
    have := nibs_get (s := s) (q := q) (c := c) (by simpa using h)
    rw [nibs_cons, show 2 * (q + 1) = 2 * q + 1 + 1 from by omega]
    simpa using this
/-- so many half bytes are written -/
structure WSt (l : List Int) (s : Bytes) (i : Nat) (out : Bytes) (h left : Nat) : Prop where
  wait : Wait (encK l ((nibs s).take i)) out.length out h left
  lt : left < 8
  has : lacks l ((nibs s).take i) = false
theorem WSt.start (l : List Int) (s : Bytes) : WSt l s 0 [] 0 0 := ⟨⟨Nat.le_refl _, rfl, rfl, rfl⟩, by omega, rfl⟩
theorem encK_snoc {l : List Int} {ks : List Nat} {i k : Nat} (h : ks[i]? = some k) : encK l (ks.take (i + 1)) = encK l (ks.take i) ++ wordB l k := by
  rw [List.take_add_one, h, encK_app]; simp [encK]
theorem lacks_snoc {l : List Int} {ks : List Nat} {i k : Nat} (h : ks[i]? = some k) : lacks l (ks.take (i + 1)) = (lacks l (ks.take i) || decide (ln l k = 0)) := by
  rw [List.take_add_one, h]; simp [lacks]
theorem lacks_of_take {l : List Int} {ks : List Nat} {i : Nat} (h : lacks l (ks.take i) = true) : lacks l ks = true := by
  unfold lacks at h ⊢
  rw [List.any_eq_true] at h ⊢
  obtain ⟨x, hx, hb⟩ := h
  exact ⟨x, List.mem_of_mem_take hx, hb⟩
theorem WSt.next {l : List Int} {s : Bytes} {i k : Nat} {out : Bytes} {h left : Nat} (hr : Right l) (w : WSt l s i out h left) (hk : (nibs s)[i]? = some k) (hk16 : k < 16) (h0 : 0 < ln l k) :
    Wait (encK l ((nibs s).take (i + 1))) out.length out (h * 2 ^ ln l k + wv l k) (left + ln l k) ∧ lacks l ((nibs s).take (i + 1)) = false ∧ h < 128 := by
  have h1 := w.wait.more (wordB l k)
  rw [wordB_len, wordB_val hr hk16 h0, ← encK_snoc hk] at h1
  refine ⟨h1, ?_, ?_⟩
  · rw [lacks_snoc hk, w.has]; simp; omega
  · have h2 := w.wait.lt
    have h3 := w.lt
    have h4 : 2 ^ (8 * (out.length - out.length) + left) ≤ 2 ^ 7 := Nat.pow_le_pow_right (by omega) (by omega)
    omega

end Pl
end Go.Proofs.YtbnmfdlaabdlhaaGreat

/- Plain mathematics of chapter 4: blocks; unpack of pack is the text. No program in sight. -/
namespace Go.Proofs.YtbnmfdlaabdlhaaGreat
namespace Pl

/-- how often each half stands -/
def cntN (ks : List Nat) : List Int := Lf fun i => ((ks.count i : Nat) : Int)
theorem cntN_len (ks : List Nat) : (cntN ks).length = 16 := Lf_len _
theorem Lf_getD (f : Nat → Int) {i : Nat} (h : i < 16) : (Lf f).getD i 0 = f i := by rw [List.getD_eq_getElem?_getD, Lf_get f h]; rfl
theorem cntN_get (ks : List Nat) {i : Nat} (h : i < 16) : (cntN ks)[i]? = some ((ks.count i : Nat) : Int) := Lf_get _ h
theorem cntN_snoc (ks : List Nat) (k : Nat) : (cntN ks).set k ((ks.count k : Nat) + 1 : Int) = cntN (ks ++ [k]) := by
  unfold cntN
  rw [Lf_set]
  refine Lf_congr fun i _ => ?_
  rw [List.count_append, List.count_singleton]
  by_cases h : i = k
  · subst h; simp
  · rw [if_neg h, if_neg (by simpa using fun e => h e.symm)]; simp
theorem cntN_nil : cntN [] = Lf fun _ => 0 := by unfold cntN; simp
theorem cntN_fine {ks : List Nat} (h : ks.length ≤ 2048) : fineB (cntN ks) = true :=
  fine_of_all fun x hx => by
    unfold cntN Lf at hx
    obtain ⟨i, _, rfl⟩ := List.mem_map.1 hx
    have := List.count_le_length (a := i) (l := ks)
    omega
theorem cntN_build {ks : List Nat} (h : ks.length ≤ 2048) (h0 : ks ≠ []) (h16 : ∀ k ∈ ks, k < 16) : buildE (cntN ks) = 0 := by
  refine buildE_ok (cntN_fine h) ?_
  cases ks with
  | nil => exact absurd rfl h0
  | cons k r =>
    have hk := h16 k (by simp)
    have : (cn (cntN (k :: r)) k, [k]) ∈ fulF (cntN (k :: r)) := mem_startF.2 ⟨k, hk, by
      unfold cntN; rw [Lf_getD _ hk, List.count_cons_self]; omega, rfl⟩
    have := List.length_pos_of_mem this
    omega
theorem cntN_none : buildE (cntN []) = 5 := by rw [cntN_nil]; decide +kernel
theorem lens_lacks {ks : List Nat} (h : ks.length ≤ 2048) (h16 : ∀ k ∈ ks, k < 16) : lacks (lensOf (cntN ks)) ks = false := by
  unfold lacks
  rw [List.any_eq_false]
  intro k hk
  have hb := cntN_build h (List.ne_nil_of_mem hk) h16
  have hl := (lack_iff (by rw [lensOf_len, cntN_len])).1 (lens_has (cntN_len ks) hb) k (by rw [lensOf_len]; exact h16 k hk)
  have hc : 0 < (cntN ks).getD k 0 := by
    unfold cntN; rw [Lf_getD _ (h16 k hk)]
    have := List.count_pos_iff.2 hk; omega
  have h0 := (checkE_zero (lens_right hb)).1 _ (getD_mem (l := lensOf (cntN ks)) (j := k) (by rw [lensOf_len]; exact h16 k hk))
  unfold ln
  simp only [decide_eq_true_eq]
  intro e
  exact hl ⟨hc, by omega⟩

/-- a code's words' sizes, as bytes -/
def hdB (l : List Int) : Bytes := (List.range 8).map fun i => UInt8.ofNat (16 * ln l (2 * i) + ln l (2 * i + 1))
theorem hdB_len (l : List Int) : (hdB l).length = 8 := by simp [hdB]
/-- the code that some bytes begin with -/
def unHd (b : Bytes) : List Int := (nibs (b.take 8)).map Int.ofNat
theorem unHd_hdB {l : List Int} (hl : l.length = 16) (h : ∀ x ∈ l, 0 ≤ x ∧ x ≤ 15) (r : Bytes) : unHd (hdB l ++ r) = l := by
  unfold unHd
  rw [List.take_left' (hdB_len l)]
  match l, hl with
  | [a0, a1, a2, a3, a4, a5, a6, a7, a8, a9, a10, a11, a12, a13, a14, a15], _ =>
    simp only [List.mem_cons, List.not_mem_nil, or_false, forall_eq_or_imp, forall_eq] at h
    obtain ⟨h0, h1, h2, h3, h4, h5, h6, h7, h8, h9, h10, h11, h12, h13, h14, h15⟩ := h
    have e : ∀ a b : Int, 0 ≤ a ∧ a ≤ 15 → 0 ≤ b ∧ b ≤ 15 → (((UInt8.ofNat (16 * a.toNat + b.toNat)).toNat / 16 : Nat) : Int) = a ∧ (((UInt8.ofNat (16 * a.toNat + b.toNat)).toNat % 16 : Nat) : Int) = b := fun a b ha hb => by
      rw [UInt8.toNat_ofNat']
      have : (16 * a.toNat + b.toNat) % 2 ^ 8 = 16 * a.toNat + b.toNat := Nat.mod_eq_of_lt (by omega)
      rw [this]; omega
    simp only [hdB, ln, List.range, List.range.loop, List.map_cons, List.map_nil, nibs, List.flatMap_cons, List.flatMap_nil, List.cons_append, List.nil_append, List.getD_cons_zero, List.getD_cons_succ, Nat.mul_zero, Int.ofNat_eq_natCast]
    rw [(e a0 a1 h0 h1).1, (e a0 a1 h0 h1).2, (e a2 a3 h2 h3).1, (e a2 a3 h2 h3).2, (e a4 a5 h4 h5).1, (e a4 a5 h4 h5).2, (e a6 a7 h6 h7).1, (e a6 a7 h6 h7).2, (e a8 a9 h8 h9).1, (e a8 a9 h8 h9).2, (e a10 a11 h10 h11).1, (e a10 a11 h10 h11).2, (e a12 a13 h12 h13).1, (e a12 a13 h12 h13).2, (e a14 a15 h14 h15).1, (e a14 a15 h14 h15).2]
theorem unHd_len {b : Bytes} (h : 8 ≤ b.length) : (unHd b).length = 16 := by unfold unHd; rw [List.length_map, nibs_len, List.length_take]; omega
theorem unHd_get {b : Bytes} {q : Nat} {c : UInt8} (hq : q < 8) (hc : b[q]? = some c) : (unHd b)[2 * q]? = some ((c.toNat / 16 : Nat) : Int) ∧ (unHd b)[2 * q + 1]? = some ((c.toNat % 16 : Nat) : Int) := by
  unfold unHd
  have hc2 : (b.take 8)[q]? = some c := by rw [List.getElem?_take]; simp [hq, hc]
  obtain ⟨h1, h2⟩ := @nibs_get (b.take 8) q c hc2
  rw [List.getElem?_map, List.getElem?_map, h1, h2]
  exact ⟨rfl, rfl⟩

/-- the code of some bytes -/
def lensS (s : Bytes) : List Int := lensOf (cntN (nibs s))
/-- D1: the block 2 of what is behind the byte of a block 1 -/
def third (s : Bytes) : Bytes := 2 :: (hdB (lensS s) ++ nb s.length ++ writeS (lensS s) s)
/-- what is behind the byte of a block 1, by what is behind the byte of a block 2 -/
def decodeO (L : List Int) (X : Bytes) : Option Bytes :=
  match take X with
  | none => none
  | some (n, r) => if readE L r (n : Int) = 0 then some (readS L r (n : Int)) else none
theorem decodeO_none {L : List Int} {X : Bytes} (h : take X = none) : decodeO L X = none := by unfold decodeO; rw [h]
theorem decodeO_some {L : List Int} {X r : Bytes} {n : Nat} (h : take X = some (n, r)) : decodeO L X = if readE L r (n : Int) = 0 then some (readS L r (n : Int)) else none := by unfold decodeO; rw [h]
def decoded (s : Bytes) : Option Bytes := if s.length < 8 then none else decodeO (unHd s) (s.drop 8)
theorem nibs_ne {s : Bytes} (h : s ≠ []) : nibs s ≠ [] := by
  cases s with
  | nil => exact absurd rfl h
  | cons c s => rw [nibs_cons]; exact List.cons_ne_nil _ _
theorem lensS_build {s : Bytes} (h : s ≠ []) (hs : s.length ≤ 1024) : buildE (cntN (nibs s)) = 0 :=
  cntN_build (by rw [nibs_len]; omega) (nibs_ne h) (nibs_lt s)
theorem decoded_third {s : Bytes} (h : s ≠ []) (hs : s.length ≤ 1024) : decoded (third s).tail = some s := by
  have hb := lensS_build h hs
  have hr : checkE (lensS s) = 0 := lens_right hb
  have hl : (lensS s).length = 16 := lensOf_len _
  have hlk : lacks (lensS s) (nibs s) = false := lens_lacks (by rw [nibs_len]; omega) (nibs_lt s)
  have hw : writeE (lensS s) s = 0 := by unfold writeE; rw [if_neg (by omega), if_neg (by omega), hlk]; rfl
  obtain ⟨e1, e2⟩ := code_read_write (right_of hl hr) hw
  have ht : (third s).tail = hdB (lensS s) ++ (nb s.length ++ writeS (lensS s) s) := by unfold third; rw [List.tail_cons, List.append_assoc]
  rw [ht]
  unfold decoded
  rw [if_neg (by rw [List.length_append, hdB_len]; omega), List.drop_left' (hdB_len _), decodeO_some (take_nb (by unfold maxNum; omega) _)]
  rw [unHd_hdB hl (checkE_zero hr).1, e1, if_pos rfl, e2]

/-- the text of a block 1, without its byte -/
def playO (dict s : Bytes) : Option Bytes := (read dict s).map fun l => (play dict l).1
/-- D2 -/
def unpackO (dict : Bytes) : Bytes → Option Bytes
  | [] => none
  | k :: s => if k = 0 then (if s.length ≤ 512 then some s else none) else if k = 1 then playO dict s else if k = 2 then (decoded s).bind (playO dict) else none
/-- the block 0 or 1 -/
def pack1 (text s : Bytes) : Bytes := if s.length + 1 < text.length + 1 then 1 :: s else 0 :: text
/-- D1, of a text and its toks' bytes -/
def pack2 (text s : Bytes) : Bytes := if s ≠ [] ∧ (third s).length < (pack1 text s).length then third s else pack1 text s
def pack (dict text : Bytes) : Bytes := pack2 text (toksB (parse dict text))
theorem pack1_len (text s : Bytes) : (pack1 text s).length ≤ text.length + 1 := by
  unfold pack1
  split
  · simp; omega
  · simp
theorem pack_len (dict text : Bytes) : (pack dict text).length ≤ text.length + 1 := by
  unfold pack pack2
  have := pack1_len text (toksB (parse dict text))
  split <;> omega

theorem tokB_len {d : Nat} {s : Bytes} {b : Bool} {t : Tok} (h : tokE d s b t = 0) (hs : s.length ≤ 768) : (tokB t).length + 2 * s.length ≤ 2 * (tokS s t).length := by
  unfold tokE at h
  unfold tokS tokB
  have n2 : ∀ n, n < 16384 → (nb n).length ≤ 2 := fun n hn => nb_len 1 n (by omega)
  have n1 : ∀ n, n < 128 → (nb n).length ≤ 1 := fun n hn => nb_len 0 n (by omega)
  by_cases h1 : t.lit ≠ []
  · rw [if_pos h1] at h ⊢
    rw [if_pos h1]
    have hl : 0 < t.lit.length := List.length_pos_iff.2 h1
    rw [List.length_append, List.length_append]
    split at h
    · omega
    · split at h
      · omega
      · by_cases h2 : t.lit.length = 1
        · have := n1 (2 * t.lit.length) (by omega); omega
        · have := n2 (2 * t.lit.length) (by omega); omega
  · rw [if_neg h1] at h ⊢
    rw [if_neg h1, copyB_len, List.length_append]
    split at h
    · omega
    · have a := n2 (2 * t.len.toNat + 1) (by omega)
      have b := n2 t.far.toNat (by omega)
      omega
theorem toksB_len (d : Nat) : ∀ (l : List Tok) (s : Bytes) (b : Bool), (playF d s b l).2 = 0 → d ≤ s.length → s.length - d ≤ 512 → d ≤ 256 → (toksB l).length + 2 * (s.length - d) ≤ 1024
  | [], s, _, _, h, h2, _ => by rw [toksB]; simp; omega
  | t :: l, s, b, h, hd, hr, h256 => by
    rw [playF] at h
    by_cases he : tokE d s b t ≠ 0
    · rw [if_pos he] at h; exact absurd h he
    · rw [if_neg he] at h
      have he0 := Decidable.not_not.1 he
      obtain ⟨h1, h2⟩ := tokS_grow he0 hd
      have := toksB_len d l _ _ h (by omega) h2 h256
      have := tokB_len he0 (by omega)
      rw [toksB, List.length_append]; omega
theorem toksB_small {dict : Bytes} {l : List Tok} (h : (play dict l).2 = 0) : (toksB l).length ≤ 1024 := by
  unfold play at h
  by_cases e : maxDict < dict.length
  · rw [if_pos e] at h; exact absurd h (by decide)
  · rw [if_neg e] at h
    have := toksB_len dict.length l dict false h (Nat.le_refl _) (by omega) (by unfold maxDict at e; omega)
    omega
theorem parse_small {dict text : Bytes} (hd : dict.length ≤ 256) (ht : text.length ≤ 512) : (toksB (parse dict text)).length ≤ 1024 :=
  toksB_small (dict := dict) (by rw [play_parse hd ht])
theorem write_parse {dict text : Bytes} (hd : dict.length ≤ 256) (ht : text.length ≤ 512) : write dict (parse dict text) = (toksB (parse dict text), 0) := by
  unfold write; rw [play_parse hd ht]; exact if_neg (by omega)
theorem playO_parse {dict text : Bytes} (hd : dict.length ≤ 256) (ht : text.length ≤ 512) : playO dict (toksB (parse dict text)) = some text := by
  have h := read_write (dict := dict) (l := parse dict text) (by rw [write_parse hd ht])
  rw [write_parse hd ht] at h
  simp only at h
  unfold playO
  rw [h]
  simp only [Option.map_some]
  rw [play_parse hd ht]
theorem unpack_third {dict s : Bytes} (h : s ≠ []) (hs : s.length ≤ 1024) : unpackO dict (third s) = playO dict s := by
  have h1 : third s = 2 :: (third s).tail := rfl
  rw [h1, unpackO, if_neg (by decide), if_neg (by decide), if_pos rfl, decoded_third h hs]
  rfl
/-- D3: UNPACK OF PACK IS THE TEXT -/
theorem unpack_pack {dict text : Bytes} (hd : dict.length ≤ 256) (ht : text.length ≤ 512) : unpackO dict (pack dict text) = some text := by
  unfold pack pack2
  split
  · rename_i h
    rw [unpack_third h.1 (parse_small hd ht)]
    exact playO_parse hd ht
  · unfold pack1
    split
    · rw [unpackO, if_neg (by decide), if_pos rfl]
      exact playO_parse hd ht
    · rw [unpackO, if_pos rfl, if_pos ht]

end Pl
end Go.Proofs.YtbnmfdlaabdlhaaGreat

/- Plain mathematics of chapter 5: training. No program in sight. -/
namespace Go.Proofs.YtbnmfdlaabdlhaaGreat
namespace Pl

/-- does a piece stand in a text? -/
def stands (p : Bytes) : Bytes → Bool
  | [] => p.isEmpty
  | c :: t => p.isPrefixOf (c :: t) || stands p t

theorem stands_iff (p : Bytes) : ∀ t : Bytes, stands p t = true ↔ ∃ a b, t = a ++ p ++ b
  | [] => by
    simp only [stands, List.isEmpty_iff]
    constructor
    · rintro rfl; exact ⟨[], [], rfl⟩
    · rintro ⟨a, b, h⟩
      have := congrArg List.length h
      simp at this
      exact List.eq_nil_of_length_eq_zero (by omega)
  | c :: t => by
    simp only [stands, Bool.or_eq_true, List.isPrefixOf_iff_prefix]
    rw [stands_iff p t]
    constructor
    · rintro (⟨b, h⟩ | ⟨a, b, h⟩)
      · exact ⟨[], b, by simp [h]⟩
      · exact ⟨c :: a, b, by simp [h]⟩
    · rintro ⟨a, b, h⟩
      cases a with
      | nil => exact .inl ⟨b, by simpa using h.symm⟩
      | cons d a =>
        simp at h
        exact .inr ⟨a, b, by simp [h.2]⟩
theorem stands_app {p t : Bytes} (x : Bytes) (h : stands p t = true) : stands p (x ++ t) = true := by
  obtain ⟨a, b, rfl⟩ := (stands_iff p t).1 h
  exact (stands_iff p _).2 ⟨x ++ a, b, by simp⟩
theorem stands_head (p t : Bytes) : stands p (p ++ t) = true := (stands_iff p _).2 ⟨[], t, by simp⟩

/-- the pieces of a text, in their order -/
def piece (t : Bytes) (k : Nat) : Bytes := slice t k (k + 4)
def piecesOf (t : Bytes) : List Bytes := (List.range (t.length - 3)).map (piece t)
theorem piece_len {t : Bytes} {k : Nat} (h : k < t.length - 3) : (piece t k).length = 4 := by unfold piece; rw [slice_len]; omega
theorem piecesOf_get {t : Bytes} {k : Nat} (h : k < t.length - 3) : (piecesOf t)[k]? = some (piece t k) := by unfold piecesOf; rw [List.getElem?_map, List.getElem?_range h]; rfl
theorem piecesOf_len (t : Bytes) : (piecesOf t).length = t.length - 3 := by simp [piecesOf]

theorem slice_split {t : Bytes} {a b : Nat} (h : a ≤ b) : t = t.take a ++ slice t a b ++ t.drop b := by
  unfold slice
  have h1 : t.take a ++ (t.take b).drop a = t.take b := by
    have : t.take a = (t.take b).take a := by rw [List.take_take, Nat.min_eq_left h]
    rw [this, List.take_append_drop]
  rw [h1, List.take_append_drop]
theorem mem_piecesOf {p t : Bytes} (hp : p.length = 4) : p ∈ piecesOf t ↔ stands p t = true := by
  rw [stands_iff]
  unfold piecesOf
  simp only [List.mem_map, List.mem_range]
  constructor
  · rintro ⟨k, hk, rfl⟩
    exact ⟨t.take k, t.drop (k + 4), slice_split (by omega)⟩
  · rintro ⟨a, b, rfl⟩
    refine ⟨a.length, by simp; omega, ?_⟩
    unfold piece slice
    have : a.length + 4 = (a ++ p).length := by simp [hp]
    rw [this, List.take_left' rfl, List.drop_left' rfl]
theorem mem_piecesOf_len {p t : Bytes} (h : p ∈ piecesOf t) : p.length = 4 := by
  unfold piecesOf at h
  simp only [List.mem_map, List.mem_range] at h
  obtain ⟨k, hk, rfl⟩ := h
  exact piece_len hk

/-- in how many texts a piece stands -/
def cnt (l : List Bytes) (p : Bytes) : Nat := (l.filter (stands p)).length
def allPieces (l : List Bytes) : List Bytes := l.flatMap piecesOf
theorem cnt_pos {l : List Bytes} {p : Bytes} (hp : p.length = 4) : 0 < cnt l p ↔ p ∈ allPieces l := by
  unfold cnt allPieces
  rw [List.length_pos_iff_exists_mem]
  simp only [List.mem_filter, List.mem_flatMap]
  constructor
  · rintro ⟨t, h1, h2⟩; exact ⟨t, h1, (mem_piecesOf hp).2 h2⟩
  · rintro ⟨t, h1, h2⟩; exact ⟨t, h1, (mem_piecesOf hp).1 h2⟩
theorem cnt_le (l : List Bytes) (p : Bytes) : cnt l p ≤ l.length := List.length_filter_le _ _
theorem allPieces_len {l : List Bytes} {p : Bytes} (h : p ∈ allPieces l) : p.length = 4 := by
  unfold allPieces at h
  obtain ⟨t, _, ht⟩ := List.mem_flatMap.1 h
  exact mem_piecesOf_len ht

/-- bytes, one before the other -/
def lessB : Bytes → Bytes → Bool
  | _, [] => false
  | [], _ :: _ => true
  | a :: x, b :: y => a < b || (a == b && lessB x y)
theorem lessB_irrefl : ∀ a : Bytes, lessB a a = false
  | [] => rfl
  | a :: x => by
    have : ¬ a < a := by rw [UInt8.lt_iff_toNat_lt]; omega
    simp [lessB, lessB_irrefl x, this]
theorem lessB_trans : ∀ {a b c : Bytes}, lessB a b = true → lessB b c = true → lessB a c = true
  | _, _, [], _, h2 => by cases ‹Bytes› <;> simp [lessB] at h2
  | _, [], _ :: _, h1, _ => by cases ‹Bytes› <;> simp [lessB] at h1
  | [], _ :: _, _ :: _, _, _ => rfl
  | a :: x, b :: y, c :: z, h1, h2 => by
    simp only [lessB, Bool.or_eq_true, decide_eq_true_eq, Bool.and_eq_true, beq_iff_eq] at h1 h2 ⊢
    simp only [UInt8.lt_iff_toNat_lt] at h1 h2 ⊢
    rcases h1 with h1 | ⟨rfl, h1⟩
    · rcases h2 with h2 | ⟨rfl, h2⟩
      · exact .inl (by omega)
      · exact .inl h1
    · rcases h2 with h2 | ⟨rfl, h2⟩
      · exact .inl h2
      · exact .inr ⟨rfl, lessB_trans h1 h2⟩
theorem lessB_total : ∀ {a b : Bytes}, lessB a b = false → lessB b a = false → a = b
  | [], [], _, _ => rfl
  | [], _ :: _, h, _ => by simp [lessB] at h
  | _ :: _, [], _, h => by simp [lessB] at h
  | a :: x, b :: y, h1, h2 => by
    simp only [lessB, Bool.or_eq_false_iff, decide_eq_false_iff_not, Bool.and_eq_false_iff] at h1 h2
    simp only [UInt8.lt_iff_toNat_lt] at h1 h2
    obtain ⟨h1, h3⟩ := h1
    obtain ⟨h2, h4⟩ := h2
    have e : a = b := by apply UInt8.toNat_inj.1; omega
    subst e
    rcases h3 with h3 | h3
    · simp at h3
    · rcases h4 with h4 | h4
      · simp at h4
      · rw [lessB_total h3 h4]

/-- the better piece comes first -/
def better (a b : Bytes × Nat) : Bool := decide (b.2 < a.2) || (a.2 == b.2 && lessB a.1 b.1)
theorem better_irrefl (a : Bytes × Nat) : better a a = false := by simp [better, lessB_irrefl]
theorem better_trans {a b c : Bytes × Nat} (h1 : better a b = true) (h2 : better b c = true) : better a c = true := by
  simp only [better, Bool.or_eq_true, decide_eq_true_eq, Bool.and_eq_true, beq_iff_eq] at h1 h2 ⊢
  rcases h1 with h1 | ⟨e1, h1⟩
  · rcases h2 with h2 | ⟨e2, h2⟩
    · exact .inl (by omega)
    · exact .inl (by omega)
  · rcases h2 with h2 | ⟨e2, h2⟩
    · exact .inl (by omega)
    · exact .inr ⟨by omega, lessB_trans h1 h2⟩
theorem better_total {a b : Bytes × Nat} (h1 : better a b = false) (h2 : better b a = false) : a = b := by
  simp only [better, Bool.or_eq_false_iff, decide_eq_false_iff_not, Bool.and_eq_false_iff] at h1 h2
  obtain ⟨x, n⟩ := a
  obtain ⟨y, m⟩ := b
  simp only at h1 h2
  have e : n = m := by omega
  subst e
  have h3 : lessB x y = false := by rcases h1.2 with h | h; simp at h; exact h
  have h4 : lessB y x = false := by rcases h2.2 with h | h; simp at h; exact h
  rw [lessB_total h3 h4]

/-- what is taken of the pieces, the best one first -/
def greedy (size : Nat) : Bytes → List Bytes → Bytes
  | dict, [] => dict
  | dict, p :: c => if size < dict.length + 4 then dict else if stands p dict then greedy size dict c else greedy size (p ++ dict) c

/-- C is the pieces that stand in two texts at least, each once, the best one first. -/
structure Cands (l : List Bytes) (c : List Bytes) : Prop where
  mem : ∀ p, p ∈ c ↔ p ∈ allPieces l ∧ 1 < cnt l p
  sorted : c.Pairwise fun a b => better (a, cnt l a) (b, cnt l b) = true
theorem cands_unique {l c d : List Bytes} (hc : Cands l c) (hd : Cands l d) : c = d := by
  have key : ∀ (c d : List Bytes), c.Pairwise (fun a b => better (a, cnt l a) (b, cnt l b) = true) → d.Pairwise (fun a b => better (a, cnt l a) (b, cnt l b) = true) → (∀ p, p ∈ c ↔ p ∈ d) → c = d := by
    intro c
    induction c with
    | nil => intro d _ _ h; cases d with
      | nil => rfl
      | cons x d => exact absurd ((h x).2 (by simp)) (by simp)
    | cons x c ih =>
      intro d h1 h2 h
      cases d with
      | nil => exact absurd ((h x).1 (by simp)) (by simp)
      | cons y d =>
        rw [List.pairwise_cons] at h1 h2
        have e : x = y := by
          have hx := (h x).1 (by simp)
          have hy := (h y).2 (by simp)
          rcases List.mem_cons.1 hx with e | hx
          · exact e
          · rcases List.mem_cons.1 hy with e | hy
            · exact e.symm
            · have a := h1.1 y hy
              have b := h2.1 x hx
              have := better_trans a b
              rw [better_irrefl] at this; cases this
        subst e
        have nx : ∀ {z : List Bytes}, (∀ a ∈ z, better (x, cnt l x) (a, cnt l a) = true) → x ∉ z := fun hz hx => by
          have := hz x hx
          rw [better_irrefl] at this; cases this
        rw [ih d h1.2 h2.2 fun p => ?_]
        constructor
        · intro hp
          have := (h p).1 (by simp [hp])
          rcases List.mem_cons.1 this with e | this
          · subst e; exact absurd hp (nx h1.1)
          · exact this
        · intro hp
          have := (h p).2 (by simp [hp])
          rcases List.mem_cons.1 this with e | this
          · subst e; exact absurd hp (nx h2.1)
          · exact this
  exact key c d hc.sorted hd.sorted fun p => by rw [hc.mem, hd.mem]

/-- the reference's own: the best of some pieces that does not stand in the dictionary yet -/
def bestStep (l : List Bytes) (dict : Bytes) (b : Bytes × Nat) (p : Bytes) : Bytes × Nat :=
  if ((b.2 < cnt l p) ∨ (cnt l p = b.2 ∧ 1 < cnt l p ∧ lessB p b.1 = true)) ∧ stands p dict = false then (p, cnt l p) else b
def bestOf (l : List Bytes) (dict : Bytes) (ps : List Bytes) : Bytes × Nat := ps.foldl (bestStep l dict) ([], 1)
def trainR (l : List Bytes) (size : Nat) : Nat → Bytes → Bytes
  | 0, dict => dict
  | f + 1, dict => if dict.length + 4 ≤ size then (if (bestOf l dict (allPieces l)).1 = [] then dict else trainR l size f ((bestOf l dict (allPieces l)).1 ++ dict)) else dict

/-- what the best of some pieces is -/
def IsBest (l : List Bytes) (dict : Bytes) (ps : List Bytes) (b : Bytes × Nat) : Prop :=
  (b = ([], 1) ∧ ∀ q ∈ ps, 1 < cnt l q → stands q dict = true) ∨
  (b.1 ∈ ps ∧ b.2 = cnt l b.1 ∧ 1 < b.2 ∧ stands b.1 dict = false ∧ ∀ q ∈ ps, 1 < cnt l q → stands q dict = false → q = b.1 ∨ better b (q, cnt l q) = true)
theorem isBest_step {l : List Bytes} {dict : Bytes} {ps : List Bytes} {b : Bytes × Nat} (h : IsBest l dict ps b) (p : Bytes) (hne : p ≠ []) : IsBest l dict (ps ++ [p]) (bestStep l dict b p) := by
  unfold bestStep
  by_cases hc : ((b.2 < cnt l p) ∨ (cnt l p = b.2 ∧ 1 < cnt l p ∧ lessB p b.1 = true)) ∧ stands p dict = false
  · rw [if_pos hc]
    obtain ⟨hc, hs⟩ := hc
    right
    rcases h with ⟨rfl, h⟩ | ⟨h1, h2, h3, h4, h5⟩
    · have hp : 1 < cnt l p := by rcases hc with hc | hc <;> simp at hc <;> omega
      refine ⟨by simp, rfl, hp, hs, fun q hq hq1 hq2 => ?_⟩
      rcases List.mem_append.1 hq with hq | hq
      · rw [h q hq hq1] at hq2; cases hq2
      · exact .inl (by simpa using hq)
    · have hp : 1 < cnt l p := by rcases hc with hc | hc <;> omega
      have hb : better (p, cnt l p) b = true := by
        simp only [better, Bool.or_eq_true, decide_eq_true_eq, Bool.and_eq_true, beq_iff_eq]
        rcases hc with hc | ⟨hc, _, hl⟩
        · exact .inl hc
        · exact .inr ⟨hc, hl⟩
      refine ⟨by simp, rfl, hp, hs, fun q hq hq1 hq2 => ?_⟩
      rcases List.mem_append.1 hq with hq | hq
      · rcases h5 q hq hq1 hq2 with e | h6
        · right; rw [e]
          have : (b.1, cnt l b.1) = b := by rw [← h2]
          rw [this]; exact hb
        · exact .inr (better_trans hb h6)
      · exact .inl (by simpa using hq)
  · rw [if_neg hc]
    rcases h with ⟨rfl, h⟩ | ⟨h1, h2, h3, h4, h5⟩
    · left
      refine ⟨rfl, fun q hq hq1 => ?_⟩
      rcases List.mem_append.1 hq with hq | hq
      · exact h q hq hq1
      · have hq : q = p := by simpa using hq
        subst hq
        cases hs : stands q dict with
        | true => rfl
        | false => exact absurd ⟨.inl hq1, hs⟩ hc
    · right
      refine ⟨by simp [h1], h2, h3, h4, fun q hq hq1 hq2 => ?_⟩
      rcases List.mem_append.1 hq with hq | hq
      · exact h5 q hq hq1 hq2
      · have hq : q = p := by simpa using hq
        subst hq
        by_cases e : q = b.1
        · exact .inl e
        · right
          have hn : ¬ (b.2 < cnt l q ∨ (cnt l q = b.2 ∧ 1 < cnt l q ∧ lessB q b.1 = true)) := fun h => hc ⟨h, hq2⟩
          simp only [not_or, not_and] at hn
          simp only [better, Bool.or_eq_true, decide_eq_true_eq, Bool.and_eq_true, beq_iff_eq]
          by_cases h6 : cnt l q < b.2
          · exact .inl h6
          · have h7 : b.2 = cnt l q := by omega
            refine .inr ⟨h7, ?_⟩
            have h8 := hn.2 h7.symm hq1
            cases h9 : lessB b.1 q with
            | true => rfl
            | false => exact absurd (lessB_total (by simpa using h8) h9) e
theorem bestOf_is (l : List Bytes) (dict : Bytes) (ps : List Bytes) (hne : ∀ p ∈ ps, p ≠ []) : IsBest l dict ps (bestOf l dict ps) := by
  have key : ∀ (ps done : List Bytes) (b : Bytes × Nat), (∀ p ∈ ps, p ≠ []) → IsBest l dict done b → IsBest l dict (done ++ ps) (ps.foldl (bestStep l dict) b) := by
    intro ps
    induction ps with
    | nil => intro done b _ h; simpa using h
    | cons p ps ih =>
      intro done b hn h
      have := ih (done ++ [p]) _ (fun q hq => hn q (by simp [hq])) (isBest_step h p (hn p (by simp)))
      simpa using this
  have := key ps [] ([], 1) hne (.inl ⟨rfl, by simp⟩)
  unfold bestOf
  simpa using this

theorem trainR_greedy {l c : List Bytes} (size : Nat) (hc : Cands l c) : ∀ (f : Nat) (dict : Bytes) (done rest : List Bytes), c = done ++ rest → (∀ p ∈ done, stands p dict = true) → size < dict.length + 4 + 4 * f →
    trainR l size f dict = greedy size dict rest := by
  intro f
  induction f with
  | zero =>
    intro dict done rest h1 h2 h3
    rw [trainR]
    cases rest with
    | nil => rfl
    | cons p rest => rw [greedy, if_pos (by omega)]
  | succ f ih =>
    intro dict done rest
    induction rest generalizing done with
    | nil =>
      intro h1 h2 h3
      rw [trainR, greedy]
      have hb := bestOf_is l dict (allPieces l) (fun p hp e => by have := allPieces_len hp; rw [e] at this; simp at this)
      rcases hb with ⟨hb, _⟩ | ⟨h4, h5, h6, h7, _⟩
      · rw [hb]; simp
      · have hm := (hc.mem (bestOf l dict (allPieces l)).1).2 ⟨h4, by omega⟩
        rw [h1, List.append_nil] at hm
        rw [h2 _ hm] at h7; cases h7
    | cons p rest ih2 =>
      intro h1 h2 h3
      by_cases hz : size < dict.length + 4
      · rw [trainR, greedy, if_pos hz, if_neg (by omega)]
      · by_cases hs : stands p dict = true
        · rw [greedy, if_neg hz, if_pos hs]
          exact ih2 (done ++ [p]) (by rw [h1]; simp) (fun q hq => by
            rcases List.mem_append.1 hq with hq | hq
            · exact h2 q hq
            · have : q = p := by simpa using hq
              rw [this]; exact hs) h3
        · rw [greedy, if_neg hz, if_neg hs, trainR, if_pos (by omega)]
          have hs : stands p dict = false := by simpa using hs
          have hpc := (hc.mem p).1 (by rw [h1]; simp)
          have hpl := allPieces_len hpc.1
          have hb := bestOf_is l dict (allPieces l) (fun p hp e => by have := allPieces_len hp; rw [e] at this; simp at this)
          have hbe : (bestOf l dict (allPieces l)).1 = p := by
            rcases hb with ⟨_, h4⟩ | ⟨h4, h5, h6, h7, h8⟩
            · rw [h4 p hpc.1 hpc.2] at hs; cases hs
            · have hm := (hc.mem (bestOf l dict (allPieces l)).1).2 ⟨h4, by omega⟩
              rw [h1] at hm
              rcases List.mem_append.1 hm with hm | hm
              · rw [h2 _ hm] at h7; cases h7
              · rcases List.mem_cons.1 hm with hm | hm
                · exact hm
                · have hsrt := hc.sorted
                  rw [h1, List.pairwise_append, List.pairwise_cons] at hsrt
                  have h9 := hsrt.2.1.1 _ hm
                  rcases h8 p hpc.1 hpc.2 hs with e | h10
                  · exact e.symm
                  · rw [← h5] at h9
                    have := better_trans h9 h10
                    rw [better_irrefl] at this; cases this
          rw [hbe, if_neg (by intro e; rw [e] at hpl; simp at hpl)]
          exact ih (p ++ dict) (done ++ [p]) rest (by rw [h1]; simp) (fun q hq => by
            rcases List.mem_append.1 hq with hq | hq
            · exact stands_app p (h2 q hq)
            · have : q = p := by simpa using hq
              rw [this]; exact stands_head p dict) (by simp [hpl]; omega)
/-- E2: the reference's dictionary is what is taken of the pieces -/
theorem trainR_eq {l c : List Bytes} {size f : Nat} (hc : Cands l c) (hf : size < 4 + 4 * f) : trainR l size f [] = greedy size [] c :=
  trainR_greedy size hc f [] [] c rfl (by simp) (by simpa using hf)

/-- E3: what is known of the dictionary: its pieces, each once, the last one first -/
def chunks : List Bytes → Bytes
  | [] => []
  | p :: c => p ++ chunks c
theorem greedy_chunks {size : Nat} : ∀ (c : List Bytes) (ds : List Bytes), (∀ p ∈ c, p.length = 4) → (∀ p ∈ ds, p.length = 4) → ds.Nodup → (chunks ds).length ≤ size →
    ∃ es, greedy size (chunks ds) c = chunks es ∧ (∀ p ∈ es, p.length = 4) ∧ es.Nodup ∧ (chunks es).length ≤ size ∧ ∀ p ∈ es, p ∈ ds ∨ p ∈ c
  | [], ds, _, h2, h3, h4 => ⟨ds, rfl, h2, h3, h4, fun p hp => .inl hp⟩
  | p :: c, ds, h1, h2, h3, h4 => by
    rw [greedy]
    by_cases hz : size < (chunks ds).length + 4
    · rw [if_pos hz]; exact ⟨ds, rfl, h2, h3, h4, fun p hp => .inl hp⟩
    · rw [if_neg hz]
      by_cases hs : stands p (chunks ds) = true
      · rw [if_pos hs]
        obtain ⟨es, a, b, d, e, g⟩ := greedy_chunks (size := size) c ds (fun q hq => h1 q (by simp [hq])) h2 h3 h4
        exact ⟨es, a, b, d, e, fun q hq => (g q hq).imp id (by simp +contextual)⟩
      · rw [if_neg hs]
        have hp4 := h1 p (by simp)
        have hn : p ∉ ds := by
          intro hm
          apply hs
          rw [stands_iff]
          have : ∀ ds : List Bytes, p ∈ ds → ∃ a b, chunks ds = a ++ p ++ b := by
            intro ds
            induction ds with
            | nil => intro h; cases h
            | cons x ds ih =>
              intro h
              rcases List.mem_cons.1 h with e | h
              · subst e; exact ⟨[], chunks ds, by simp [chunks]⟩
              · obtain ⟨a, b, e⟩ := ih h
                exact ⟨x ++ a, b, by simp [chunks, e]⟩
          exact this ds hm
        obtain ⟨es, a, b, d, e, g⟩ := greedy_chunks (size := size) c (p :: ds) (fun q hq => h1 q (by simp [hq])) (by simpa [hp4] using h2) (List.nodup_cons.2 ⟨hn, h3⟩) (by rw [chunks, List.length_append, hp4]; omega)
        refine ⟨es, a, b, d, e, fun q hq => ?_⟩
        rcases g q hq with h | h
        · rcases List.mem_cons.1 h with e | h
          · exact .inr (by simp [e])
          · exact .inl h
        · exact .inr (by simp [h])
theorem chunks_len : ∀ (es : List Bytes), (∀ p ∈ es, p.length = 4) → (chunks es).length = 4 * es.length
  | [], _ => rfl
  | p :: es, h => by simp [chunks, chunks_len es (fun q hq => h q (by simp [hq])), h p (by simp)]; omega
theorem chunks_get : ∀ (es : List Bytes) (i : Nat), (∀ p ∈ es, p.length = 4) → i < es.length → slice (chunks es) (4 * i) (4 * i + 4) = es.getD i []
  | [], i, _, h => by simp at h
  | p :: es, 0, h, _ => by
    have hp := h p (by simp)
    unfold slice
    simp [chunks, ← hp]
  | p :: es, i + 1, h, hi => by
    have hp := h p (by simp)
    have ih := chunks_get es i (fun q hq => h q (by simp [hq])) (by simpa using hi)
    unfold slice at ih ⊢
    have e1 : 4 * (i + 1) + 4 = p.length + (4 * i + 4) := by omega
    have e2 : 4 * (i + 1) = p.length + 4 * i := by omega
    rw [chunks, e1, e2, List.take_length_add_append, List.drop_length_add_append]
    simpa using ih

/-- E1 -/
def big (t : Bytes) : Bool := decide (512 < t.length)
def manyB (l : List Bytes) : Bool := decide (12 < l.length) || l.any big
theorem manyB_no {l : List Bytes} (h : manyB l = false) : l.length ≤ 12 ∧ ∀ t ∈ l, t.length ≤ 512 := by
  simp only [manyB, Bool.or_eq_false_iff, decide_eq_false_iff_not, List.any_eq_false] at h
  refine ⟨by omega, fun t ht => ?_⟩
  have := h.2 t ht
  simp only [big, decide_eq_true_eq] at this
  omega
/-- E2 -/
def trainOf (l : List Bytes) (size : Nat) : Bytes := trainR l size 64 []
def trainE (l : List Bytes) (size : Int) : Nat := if manyB l = true then 2 else if size < 0 ∨ 256 < size then 3 else 0
def trainD (l : List Bytes) (size : Int) : Bytes := if manyB l = true then [] else if size < 0 ∨ 256 < size then [] else trainOf l size.toNat
theorem trainOf_eq {l c : List Bytes} {size : Nat} (hc : Cands l c) (hs : size ≤ 256) : trainOf l size = greedy size [] c := trainR_eq hc (by omega)
theorem trainR_len (l : List Bytes) (size : Nat) : ∀ (f : Nat) (dict : Bytes), dict.length ≤ size → (trainR l size f dict).length ≤ size
  | 0, dict, h => by rw [trainR]; exact h
  | f + 1, dict, h => by
    rw [trainR]
    split
    · split
      · exact h
      · rename_i h1 h2
        refine trainR_len l size f _ ?_
        have hb : (bestOf l dict (allPieces l)).1.length = 4 := by
          rcases bestOf_is l dict (allPieces l) (fun p hp e => by have := allPieces_len hp; rw [e] at this; simp at this) with h3 | h3
          · exact absurd (by rw [h3.1]) h2
          · exact allPieces_len h3.1
        rw [List.length_append, hb]; omega
    · exact h
theorem trainOf_len (l : List Bytes) (size : Nat) : (trainOf l size).length ≤ size := trainR_len l size 64 [] (Nat.zero_le _)
theorem trainD_len (l : List Bytes) (size : Int) : (trainD l size).length ≤ 256 := by
  unfold trainD
  split
  · simp
  · split
    · simp
    · have := trainOf_len l size.toNat
      omega

end Pl
end Go.Proofs.YtbnmfdlaabdlhaaGreat

/- A slice of strings that reads as a list; does a piece stand in a text. -/
namespace Go.Proofs.YtbnmfdlaabdlhaaGreat
open Go.RowKit Go.Lib Pl
attribute [local go_sem] ext_list app_list

/-- The slice of address A and length n reads as the list l, below block Bd. -/
def StrsAt (w : World) (Bd : Nat) (A : Option Addr) (n : Nat) (l : List Bytes) : Prop :=
  l.length = n ∧ (0 < n → ∃ b off, A = some ⟨b, off, none⟩ ∧ b < Bd ∧ ∀ i t, l[i]? = some t → w.cell? ⟨b, off + i, none⟩ = some (S t))
theorem StrsAt.keep {w w' : World} {Bd n : Nat} {A : Option Addr} {l : List Bytes} (h : StrsAt w Bd A n l) (hk : ∀ p : Addr, p.block < Bd → w'.cell? p = w.cell? p) : StrsAt w' Bd A n l :=
  ⟨h.1, fun hn => by
    obtain ⟨b, off, e, hb, hc⟩ := h.2 hn
    exact ⟨b, off, e, hb, fun i t hi => (hk _ hb).trans (hc i t hi)⟩⟩
theorem StrsAt.below {w w' : World} {Bd n : Nat} {A : Option Addr} {l : List Bytes} (h : StrsAt w Bd A n l) (hb : Below Bd w w') : StrsAt w' Bd A n l := h.keep fun _ hp => hb.cell hp
theorem StrsAt.up {w w' : World} {n : Nat} {A : Option Addr} {l : List Bytes} (h : StrsAt w w.heap.size A n l) (hb : Below w.heap.size w w') : StrsAt w' w'.heap.size A n l := by
  have h1 := h.below hb
  exact ⟨h1.1, fun hn => by obtain ⟨b, off, e, hlt, hc⟩ := h1.2 hn; exact ⟨b, off, e, Nat.lt_of_lt_of_le hlt hb.size, hc⟩⟩
theorem StrsAt.at_ {w : World} {Bd n k : Nat} {A : Option Addr} {l : List Bytes} (h : StrsAt w Bd A n l) (hk : k < n) : ∃ b off t, A = some ⟨b, off, none⟩ ∧ b < Bd ∧ l[k]? = some t ∧ w.cell? ⟨b, off + k, none⟩ = some (S t) := by
  obtain ⟨b, off, e, hb, hc⟩ := h.2 (by omega)
  have hl : k < l.length := by have := h.1; omega
  exact ⟨b, off, l[k], e, hb, List.getElem?_eq_getElem hl, hc k _ (List.getElem?_eq_getElem hl)⟩

theorem index_stands (p : Bytes) : ∀ t : Bytes, 0 ≤ Lib.index t p ↔ stands p t = true
  | [] => by
    rcases Lib.index_spec [] p with ⟨h1, h2⟩ | ⟨i, h1, h2, h3, _⟩
    · have := h2 0 (Nat.zero_le _)
      rw [h1]
      unfold stands
      cases p with
      | nil => simp [Lib.occAt] at this
      | cons a p => simp
    · rw [h1]
      have hi : i = 0 := by simpa using h2
      subst hi
      cases p with
      | nil => simp [stands]
      | cons a p => simp [Lib.occAt] at h3
  | c :: t => by
    rw [Lib.index, stands]
    by_cases h : p.isPrefixOf (c :: t) = true
    · rw [if_pos h, h]; simp
    · rw [if_neg h]
      have h' : p.isPrefixOf (c :: t) = false := Bool.eq_false_iff.2 h
      rw [h', Bool.false_or, ← index_stands p t]
      rcases Lib.index_spec t p with ⟨h1, _⟩ | ⟨i, h1, _⟩
      · rw [h1]; decide
      · rw [h1]
        have : ((i : Int) == -1) = false := by rw [beq_eq_false_iff_ne]; omega
        simp [this]; omega
theorem contains_stands (p t : Bytes) : Lib.contains t p = stands p t := by
  unfold Lib.contains
  rw [Bool.eq_iff_iff, decide_eq_true_eq]
  exact index_stands p t

theorem stands_short {p t : Bytes} (h : t.length < p.length) : stands p t = false := by
  rw [Bool.eq_false_iff]
  intro hs
  obtain ⟨a, b, rfl⟩ := (stands_iff p t).1 hs
  simp at h; omega
theorem stands_at {p t : Bytes} {i : Nat} (h : i + p.length ≤ t.length) (he : slice t i (i + p.length) = p) : stands p (t.drop i) = true := by
  rw [stands_iff]
  refine ⟨[], t.drop (i + p.length), ?_⟩
  rw [List.nil_append]
  have := slice_split (t := t) (a := i) (b := i + p.length) (by omega)
  rw [he] at this
  have hl : (t.take i).length = i := by rw [List.length_take]; omega
  conv => lhs; rw [this]
  rw [List.append_assoc, List.drop_left' hl]
theorem stands_next {p t : Bytes} {i : Nat} (h : i + p.length ≤ t.length) (he : slice t i (i + p.length) ≠ p) : i < t.length ∧ stands p (t.drop i) = stands p (t.drop (i + 1)) := by
  have hi : i < t.length := by
    rcases Nat.lt_or_ge i t.length with h1 | h1
    · exact h1
    · exfalso
      apply he
      have hp : p = [] := List.eq_nil_of_length_eq_zero (by omega)
      rw [hp]
      apply List.eq_nil_of_length_eq_zero
      rw [slice_len]; simp; omega
  refine ⟨hi, ?_⟩
  rw [List.drop_eq_getElem_cons hi, stands]
  have : p.isPrefixOf (t[i] :: t.drop (i + 1)) = false := by
    rw [Bool.eq_false_iff]
    intro hx
    rw [List.isPrefixOf_iff_prefix, ← List.drop_eq_getElem_cons hi] at hx
    obtain ⟨r, hr⟩ := hx
    apply he
    unfold slice
    rw [List.drop_take, ← hr]
    have : i + p.length - i = p.length := by omega
    rw [this, List.take_left' rfl]
  rw [this, Bool.false_or]

end Go.Proofs.YtbnmfdlaabdlhaaGreat

/- A map of the call's own from strings to numbers, as a function. -/
namespace Go.Proofs.YtbnmfdlaabdlhaaGreat
open Go.RowKit Go.Lib Pl Go.ChangeMaps Go.MapKept Go.ChangeShapes
open Go.WideElems (Fit)
open Go.Maps (Keyed string_keyed IsMap atKey_put_same atKey_put_other)

theorem keyedS : Keyed Tryz.prog 9 := string_keyed Tryz.underlying9
theorem zero_int (w : World) : (zeroValue 3).run Tryz.prog w = .ok (.int .i64 0) w := by kernel_rfl
theorem keyS {kb : Bytes} (h : kb.length ≤ 1000000000) : keyOf Tryz.prog 9 (S kb) = some (.string kb) := by
  have hsz : (⟨kb.toArray⟩ : ByteArray).size ≤ maxLen := by show kb.length ≤ _; unfold maxLen; omega
  have := WideMaps.keyOf_string_mk Tryz.underlying9 hsz
  have hkl : (⟨kb.toArray⟩ : ByteArray).data.toList = kb := by simp
  rw [hkl] at this; exact this

/-- Block b is a map of at most n entries that reads as f. -/
def NatMap (w : World) (b n : Nat) (f : Bytes → Nat) : Prop :=
  ∃ D : DataW Unit, w.ownsMap Tryz.prog 9 (plainElem Tryz.prog 3) b n D ∧ IsMap D ∧ ∀ kb : Bytes, D.atKey (.string kb) (.lit (.int .i64 0)) = .lit (.int .i64 (f kb))

theorem NatMap.made (w : World) : NatMap (w.alloc (.map #[] 0)) w.heap.size 0 fun _ => 0 :=
  ⟨.map [], World.ownsMap_made _ _ _ _, Go.Maps.isMap_empty, fun _ => rfl⟩
theorem NatMap.kept {w w' : World} {b n : Nat} {f : Bytes → Nat} {row : Option Nat} (h : NatMap w b n f) (hg : w.grownBy w' row) (hne : some b ≠ row) : NatMap w' b n f := by
  obtain ⟨D, ho, r⟩ := h
  exact ⟨D, ho.kept hg hne, r⟩
theorem NatMap.alloc {w : World} {b n : Nat} {f : Bytes → Nat} (h : NatMap w b n f) (o : Obj) : NatMap (w.alloc o) b n f := h.kept (World.grownBy_alloc w o none) (by simp)
theorem NatMap.lt {w : World} {b n : Nat} {f : Bytes → Nat} (h : NatMap w b n f) : b < w.heap.size := by
  obtain ⟨D, ho, r⟩ := h
  exact ho.lt
theorem NatMap.below {w w' : World} {b n : Nat} {f : Bytes → Nat} (h : NatMap w b n f) (hb : Below w.heap.size w w') : NatMap w' b n f := by
  have hlt := h.lt
  obtain ⟨D, ⟨es, clock, h1, r⟩, r2⟩ := h
  exact ⟨D, ⟨es, clock, (hb.block b hlt).trans h1, r⟩, r2⟩

set_option maxRecDepth 100000 in
/-- the step of a range over such a map -/
theorem wpList_next_nat {w : World} {ops : Array Oper} {rest : List Oper} {o : Oper} {a : Act} {Q : Exit → Act → World → Prop}
    (hg : o.guard = none) (it : Operand) (hop : o.op = Op.next it false) (b r n : Nat) (D : DataW Unit) (f : Bytes → Nat) (hr : ∀ kb : Bytes, D.atKey (.string kb) (.lit (.int .i64 0)) = .lit (.int .i64 (f kb)))
    (left : Lit → Bool) (cnt : Nat) (hit : a.eval it = .pointer (some ⟨r, 0, none⟩)) (h : w.ranges Tryz.prog 9 (plainElem Tryz.prog 3) b r n D left cnt)
    (hDone : cnt = 0 → (∀ kl, left kl = false) → wpList Tryz.prog ops Q rest (a.put o.dst (.tuple #[.bool false])) w)
    (hMore : ∀ (kb : Bytes) (w' : World) (cnt' : Nat), left (.string kb) = true → w'.ranges Tryz.prog 9 (plainElem Tryz.prog 3) b r n D (fun z => left z && !z.sameKey (.string kb)) cnt' → cnt' < cnt →
      w.grownBy w' (some r) → w'.heap.size = w.heap.size → (Instr.entry (.pointer (some ⟨r, 0, none⟩))).run Tryz.prog w' = .ok (.tuple #[S kb, I (f kb)]) w' → wpList Tryz.prog ops Q rest (a.put o.dst (.tuple #[.bool true, S kb, I (f kb)])) w') :
    wpList Tryz.prog ops Q (o :: rest) a w := by
  refine wpList_next_ranges w hg it hop 9 keyedS (plainElem Tryz.prog 3) Value.string (Value.int .i64) (fun key kl hk => ?_) (fun v y hv => ?_) b r n D left cnt hit h hDone ?_
  · obtain ⟨s, hs, _⟩ := WideMaps.string_of_keyOf Tryz.underlying9 hk
    exact ⟨s, hs⟩
  · obtain ⟨c, hc, _⟩ := plainElem_int_inv Tryz.underlying3 hv
    exact ⟨c, hc⟩
  · intro s c kl y w' cnt' hkey hlk hv hat hrg hlt hgr hsz hen
    obtain ⟨s', hs, hkl, _⟩ := WideMaps.string_of_keyOf Tryz.underlying9 hkey
    injection hs with hs
    subst hs
    subst hkl
    obtain ⟨c', hc, hy, _⟩ := plainElem_int_inv Tryz.underlying3 hv
    injection hc with _ hc
    subst hc
    have hcf : c = (f s.data.toList : Nat) := by
      have h1 := (hr s.data.toList).symm.trans (hat (.lit (.int .i64 0)))
      rw [hy] at h1
      exact (Lit.int.inj (DataW.lit.inj h1)).2.symm
    subst hcf
    have hss : (Value.string s) = S s.data.toList := by simp
    rw [hss] at hen ⊢
    exact hMore _ w' cnt' hlk hrg hlt hgr hsz hen

theorem size_le {w : World} {b n : Nat} {D : DataW Unit} (h : w.ownsMap Tryz.prog 9 (plainElem Tryz.prog 3) b n D) : Go.Maps.size D ≤ n := by
  obtain ⟨es, clock, hb, F, hs, rfl⟩ := h
  simpa [Go.Maps.size, length_sorted] using hs

end Go.Proofs.YtbnmfdlaabdlhaaGreat

/- The walks of train.many, train.Count, and the reference's TextsError and CountOf. -/
namespace Go.Proofs.YtbnmfdlaabdlhaaGreat
open Go.RowKit Go.Lib Pl
attribute [local go_sem] ext_list app_list


def IdxRes (l : List Bytes) (e : Ending) : Prop := ∃ r : Int, e = .returned (.int .i64 r) ∧ ((0 ≤ r ∧ l.any big = true) ∨ (r = -1 ∧ l.any big = false))

theorem any_drop {l : List Bytes} {k : Nat} {t : Bytes} (h : l[k]? = some t) : (l.drop k).any big = (big t || (l.drop (k + 1)).any big) := by
  have hk : k < l.length := (List.getElem?_eq_some_iff.1 h).1
  rw [List.drop_eq_getElem_cons hk, List.any_cons]
  rw [List.getElem?_eq_getElem hk] at h
  injection h with h
  rw [h]

/-- E1: the error of the texts -/
def textsE (l : List Bytes) : Nat := if manyB l = true then 2 else 0

theorem cnt_take {l : List Bytes} {k : Nat} {t p : Bytes} (h : l[k]? = some t) : cnt (l.take (k + 1)) p = cnt (l.take k) p + (if stands p t = true then 1 else 0) := by
  unfold cnt
  rw [List.take_add_one, h, List.filter_append, List.length_append]
  by_cases hs : stands p t = true
  · simp [hs]
  · simp [hs]

/-- Count: the number, and the error -/
def countE (l : List Bytes) (p : Bytes) : Nat := if manyB l = true then 2 else if p.length = 4 then 0 else 3
def countN (l : List Bytes) (p : Bytes) : Nat := if manyB l = true then 0 else if p.length = 4 then cnt l p else 0

end Go.Proofs.YtbnmfdlaabdlhaaGreat

/- The walk of train.pieces: counting. -/
namespace Go.Proofs.YtbnmfdlaabdlhaaGreat
open Go.RowKit Go.Lib Pl
attribute [local go_sem] ext_list app_list

/-- in how many texts a piece stands: by the pieces themselves -/
def cntP (l : List Bytes) (p : Bytes) : Nat := (l.filter fun t => decide (p ∈ piecesOf t)).length
theorem cntP_eq {l : List Bytes} {p : Bytes} (hp : p.length = 4) : cntP l p = cnt l p := by
  unfold cntP cnt
  congr 2
  funext t
  rw [Bool.eq_iff_iff, decide_eq_true_eq]
  exact mem_piecesOf hp
theorem cntP_le (l : List Bytes) (p : Bytes) : cntP l p ≤ l.length := List.length_filter_le _ _
theorem cntP_take {l : List Bytes} {k : Nat} {t p : Bytes} (h : l[k]? = some t) : cntP (l.take (k + 1)) p = cntP (l.take k) p + (if p ∈ piecesOf t then 1 else 0) := by
  unfold cntP
  rw [List.take_add_one, h, List.filter_append, List.length_append]
  by_cases hs : p ∈ piecesOf t
  · simp [hs]
  · simp [hs]
/-- the counts, and the last texts, behind i texts and k pieces of the next -/
def fC (l : List Bytes) (i : Nat) (t : Bytes) (k : Nat) (p : Bytes) : Nat := cntP (l.take i) p + (if p ∈ (piecesOf t).take k then 1 else 0)

def Seen (i : Nat) (t : Bytes) (k : Nat) (g : Bytes → Nat) : Prop := ∀ p, g p ≤ i + 1 ∧ (g p = i + 1 ↔ p ∈ (piecesOf t).take k)
theorem mem_take_succ {t : Bytes} {k : Nat} (h : k < t.length - 3) (p : Bytes) : p ∈ (piecesOf t).take (k + 1) ↔ p ∈ (piecesOf t).take k ∨ p = piece t k := by
  rw [List.take_add_one, piecesOf_get h]
  simp

def pcCells (x : Bytes × Nat) : List Value := [S x.1, I x.2]
theorem pcCells_len (l : List (Bytes × Nat)) : (l.flatMap pcCells).length = l.length * 2 := by
  induction l with
  | nil => rfl
  | cons x l ih => simp [pcCells] at ih ⊢; omega
theorem pcCells_get : ∀ (l : List (Bytes × Nat)) (i : Nat) (x : Bytes × Nat), l[i]? = some x → (l.flatMap pcCells)[i * 2]? = some (S x.1) ∧ (l.flatMap pcCells)[i * 2 + 1]? = some (I x.2)
  | [], i, x, h => by simp at h
  | u :: l, 0, x, h => by simp at h; subst h; simp [pcCells]
  | u :: l, i + 1, x, h => by
    have h' : l[i]? = some x := by simpa using h
    obtain ⟨a, b⟩ := pcCells_get l i x h'
    have e : (u :: l).flatMap pcCells = pcCells u ++ l.flatMap pcCells := by simp
    have hl : (pcCells u).length = 2 := rfl
    rw [e]
    refine ⟨?_, ?_⟩
    · rw [List.getElem?_append_right (by omega), hl, show (i + 1) * 2 - 2 = i * 2 from by omega]; exact a
    · rw [List.getElem?_append_right (by omega), hl, show (i + 1) * 2 + 1 - 2 = i * 2 + 1 from by omega]; exact b
theorem own_slice' {w : World} {base e size n : Nat} {v : Value} {xs : List Value} (h : w.ownsRow base e size v n xs) : ∃ A cap, v = .slice A n cap := by
  rcases h.2 with ⟨rfl, rfl⟩ | ⟨g, cap, cur, rfl, _⟩
  · exact ⟨_, _, rfl⟩
  · exact ⟨_, _, rfl⟩
theorem cells2_new (w : World) (x y : Value) (t : TypeId) : ∀ j u, [x, y][j]? = some u → (w.alloc (.cells #[x, y] t)).cell? ((⟨w.heap.size, 0, none⟩ : Addr).add j) = some u := by
  intro j u hj
  have e : (⟨w.heap.size, 0, none⟩ : Addr).add j = ⟨w.heap.size, j, none⟩ := by unfold Addr.add; split <;> simp_all
  rw [e, World.cell?_alloc_new]
  simpa using hj

/-- what has been collected -/
structure Col (l : List Bytes) (left : Lit → Bool) (o : List (Bytes × Nat)) : Prop where
  mem : ∀ x ∈ o, 1 < x.2 ∧ x.2 = cntP l x.1 ∧ left (.string x.1) = false
  nodup : (o.map (·.1)).Nodup
  all : ∀ p, 1 < cntP l p → left (.string p) = true ∨ (p, cntP l p) ∈ o

theorem str_same (a b : Bytes) : (Lit.string a).sameKey (.string b) = decide (a = b) := by
  by_cases h : a = b
  · subst h; simp [Lit.sameKey]
  · simp [Lit.sameKey, h]
theorem Col.skip {l : List Bytes} {left : Lit → Bool} {o : List (Bytes × Nat)} (h : Col l left o) (kb : Bytes) (hc : ¬ 1 < cntP l kb) : Col l (fun z => left z && !z.sameKey (.string kb)) o := by
  refine ⟨fun x hx => ?_, h.nodup, fun p hp => ?_⟩
  · obtain ⟨a, b, c⟩ := h.mem x hx
    exact ⟨a, b, by simp [c]⟩
  · rcases h.all p hp with h1 | h1
    · left
      have hne : p ≠ kb := fun e => hc (e ▸ hp)
      simp [h1, str_same, hne]
    · exact .inr h1
theorem Col.push {l : List Bytes} {left : Lit → Bool} {o : List (Bytes × Nat)} (h : Col l left o) (kb : Bytes) (hk : left (.string kb) = true) (hc : 1 < cntP l kb) : Col l (fun z => left z && !z.sameKey (.string kb)) (o ++ [(kb, cntP l kb)]) := by
  refine ⟨fun x hx => ?_, ?_, fun p hp => ?_⟩
  · rcases List.mem_append.1 hx with hx | hx
    · obtain ⟨a, b, c⟩ := h.mem x hx
      exact ⟨a, b, by simp [c]⟩
    · have : x = (kb, cntP l kb) := by simpa using hx
      subst this
      exact ⟨hc, rfl, by simp [str_same]⟩
  · rw [List.map_append, List.nodup_append]
    refine ⟨h.nodup, by simp, fun a ha b hb => ?_⟩
    have hb : b = kb := by simpa using hb
    subst hb
    rintro rfl
    obtain ⟨x, hx, rfl⟩ := List.mem_map.1 ha
    have := (h.mem x hx).2.2
    rw [hk] at this; cases this
  · by_cases e : p = kb
    · subst e; exact .inr (by simp)
    · rcases h.all p hp with h1 | h1
      · left; simp [h1, str_same, e]
      · exact .inr (by simp [h1])

theorem col_cands {l : List Bytes} {left : Lit → Bool} {o o' : List (Bytes × Nat)} (h : Col l left o) (hleft : ∀ kl, left kl = false) (hp : o'.Perm o) (hs : o'.Pairwise (fun a b => better b a = false)) :
    Cands l (o'.map (·.1)) ∧ o' = (o'.map (·.1)).map fun p => (p, cnt l p) := by
  have h4 : ∀ p, 1 < cntP l p → p.length = 4 := by
    intro p hp
    have : 0 < cntP l p := by omega
    unfold cntP at this
    rw [List.length_pos_iff_exists_mem] at this
    obtain ⟨t, ht⟩ := this
    rw [List.mem_filter, decide_eq_true_eq] at ht
    exact mem_piecesOf_len ht.2
  have hm : ∀ x ∈ o', 1 < x.2 ∧ x.2 = cnt l x.1 := fun x hx => by
    obtain ⟨a, b, _⟩ := h.mem x (hp.mem_iff.1 hx)
    exact ⟨a, by rw [b]; exact cntP_eq (h4 _ (by omega))⟩
  have hmap : o' = (o'.map (·.1)).map fun p => (p, cnt l p) := by
    rw [List.map_map]
    conv => lhs; rw [← List.map_id o']
    refine List.map_congr_left fun x hx => ?_
    obtain ⟨_, b⟩ := hm x hx
    show x = (x.1, cnt l x.1)
    rw [← b]
  refine ⟨⟨fun p => ?_, ?_⟩, hmap⟩
  · constructor
    · intro hpm
      obtain ⟨x, hx, rfl⟩ := List.mem_map.1 hpm
      obtain ⟨a, b⟩ := hm x hx
      obtain ⟨_, b2, _⟩ := h.mem x (hp.mem_iff.1 hx)
      exact ⟨(cnt_pos (h4 _ (by omega))).1 (by omega), by omega⟩
    · rintro ⟨ha, hc⟩
      have hl4 := allPieces_len ha
      rw [← cntP_eq hl4] at hc
      rcases h.all p hc with h1 | h1
      · rw [hleft] at h1; cases h1
      · exact List.mem_map.2 ⟨_, hp.mem_iff.2 h1, rfl⟩
  · rw [List.pairwise_map]
    have hnd : (o'.map (·.1)).Nodup := (hp.map _).nodup_iff.2 h.nodup
    rw [List.nodup_iff_pairwise_ne, List.pairwise_map] at hnd
    have hmm : o'.Pairwise (fun a b => (1 < a.2 ∧ a.2 = cnt l a.1) ∧ (1 < b.2 ∧ b.2 = cnt l b.1)) := List.pairwise_of_forall_mem_list fun a ha b hb => ⟨hm a ha, hm b hb⟩
    refine (List.Pairwise.and (hs.and hnd) hmm).imp ?_
    rintro a b ⟨⟨h1, h2⟩, ⟨_, ha⟩, _, hb⟩
    have ea : (a.1, cnt l a.1) = a := by rw [← ha]
    have eb : (b.1, cnt l b.1) = b := by rw [← hb]
    rw [ea, eb]
    cases hab : better a b with
    | true => rfl
    | false => exact absurd (congrArg Prod.fst (better_total hab h1)) h2

/-- a slice of pieces that reads as a list -/
def PcAt (w : World) (A : Option Addr) (n : Nat) (o : List (Bytes × Nat)) : Prop :=
  o.length = n ∧ (0 < n → ∃ b off, A = some ⟨b, off, none⟩ ∧ b < w.heap.size ∧ ∀ i x, o[i]? = some x → w.cell? ⟨b, off + i * 2, none⟩ = some (S x.1) ∧ w.cell? ⟨b, off + i * 2 + 1, none⟩ = some (I x.2))
def PiecesRes (l : List Bytes) (w' : World) (e : Ending) : Prop := ∃ A n cap c, e = .returned (.slice A n cap) ∧ Cands l c ∧ PcAt w' A n (c.map fun p => (p, cnt l p)) ∧ n ≤ 1000000
end Go.Proofs.YtbnmfdlaabdlhaaGreat

/- Strings compared. -/
namespace Go.Proofs.YtbnmfdlaabdlhaaGreat
open Go.RowKit Go.Lib Pl
attribute [local go_sem] ext_list app_list

/-- cmp.Compare at strings -/
def cmpS (a b : Bytes) : Int := if lessB a b = true then -1 else if a = b then 0 else 1
theorem less_model : ∀ a b : Bytes, Op.bytesLess a b = lessB a b
  | _, [] => by cases ‹Bytes› <;> rfl
  | [], _ :: _ => rfl
  | a :: x, b :: y => by rw [Op.bytesLess, lessB, less_model x y]

end Go.Proofs.YtbnmfdlaabdlhaaGreat
