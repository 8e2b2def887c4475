/- Plain mathematics of chapter 2: reading toks; the laws of going back. No program in sight. -/
import Derived.Test.YtgfkkjcnnecefaaPureToks
namespace Go.Proofs.Ytgfkkjcnnecefaa
namespace Pl

theorem takeF_len : ∀ (f i n : Nat) (s : Bytes) (k : Nat) (r : Bytes), takeF f i n s = some (k, r) → r.length < s.length
  | 0, _, _, _, _, _, h => by simp [takeF] at h
  | f + 1, _, _, [], _, _, h => by simp [takeF] at h
  | f + 1, i, n, c :: t, k, r, h => by
    rw [takeF] at h
    split at h
    · have := takeF_len f _ _ t k r h; simp; omega
    · split at h
      · simp at h
      · simp only [Option.some.injEq, Prod.mk.injEq] at h
        obtain ⟨_, rfl⟩ := h; simp
theorem take_len {s : Bytes} {k : Nat} {r : Bytes} (h : take s = some (k, r)) : r.length < s.length := takeF_len 5 0 0 s k r h
theorem tokFrom_len {s r : Bytes} {t : Tok} (h : tokFrom s = some (t, r)) : r.length < s.length := by
  unfold tokFrom at h
  cases hk : take s with
  | none => rw [hk] at h; simp at h
  | some p =>
    obtain ⟨n, q⟩ := p
    have h1 := take_len hk
    rw [hk] at h
    simp only at h
    by_cases h2 : n % 2 = 0
    · rw [if_pos h2] at h
      by_cases h3 : q.length < n / 2
      · rw [if_pos h3] at h; simp at h
      · rw [if_neg h3] at h
        simp only [Option.some.injEq, Prod.mk.injEq] at h
        obtain ⟨_, rfl⟩ := h
        simp; omega
    · rw [if_neg h2] at h
      cases hf : take q with
      | none => rw [hf] at h; simp at h
      | some p2 =>
        obtain ⟨f, q2⟩ := p2
        have h3 := take_len hf
        rw [hf] at h
        simp only [Option.some.injEq, Prod.mk.injEq] at h
        obtain ⟨_, rfl⟩ := h
        omega

/-- all toks of some bytes, their form alone -/
def toksF : Nat → Bytes → Option (List Tok)
  | _, [] => some []
  | 0, _ :: _ => none
  | f + 1, c :: s' =>
    match tokFrom (c :: s') with
    | none => none
    | some (t, rest) => (toksF f rest).map (t :: ·)
def toksOf (s : Bytes) : Option (List Tok) := toksF s.length s

theorem toksF_fuel : ∀ (f g : Nat) (s : Bytes), s.length ≤ f → s.length ≤ g → toksF f s = toksF g s
  | f, g, [], _, _ => by cases f <;> cases g <;> rfl
  | 0, _, _ :: _, h, _ => by simp at h
  | _, 0, _ :: _, _, h => by simp at h
  | f + 1, g + 1, c :: s', hf, hg => by
    rw [toksF, toksF]
    cases h : tokFrom (c :: s') with
    | none => rfl
    | some p =>
      obtain ⟨t, r⟩ := p
      have := tokFrom_len h
      simp at this hf hg
      simp only
      rw [toksF_fuel f g r (by omega) (by omega)]
theorem readF_fuel (d : Nat) : ∀ (f g : Nat) (m : Bytes) (b : Bool) (s : Bytes), s.length ≤ f → s.length ≤ g → readF d f m b s = readF d g m b s
  | f, g, _, _, [], _, _ => by cases f <;> cases g <;> rfl
  | 0, _, _, _, _ :: _, h, _ => by simp at h
  | _, 0, _, _, _ :: _, _, h => by simp at h
  | f + 1, g + 1, m, b, c :: s', hf, hg => by
    rw [readF, readF]
    cases h : tokFrom (c :: s') with
    | none => rfl
    | some p =>
      obtain ⟨t, r⟩ := p
      have := tokFrom_len h
      simp at this hf hg
      simp only
      rw [readF_fuel d f g _ _ r (by omega) (by omega)]

theorem toksOf_nil : toksOf [] = some [] := rfl
theorem toksOf_none {s : Bytes} (hs : s ≠ []) (h : tokFrom s = none) : toksOf s = none := by
  cases s with
  | nil => exact absurd rfl hs
  | cons c s => unfold toksOf; rw [List.length_cons, toksF, h]
theorem toksOf_some {s r : Bytes} {t : Tok} (hs : s ≠ []) (h : tokFrom s = some (t, r)) : toksOf s = (toksOf r).map (t :: ·) := by
  cases s with
  | nil => exact absurd rfl hs
  | cons c s =>
    have := tokFrom_len h
    simp at this
    unfold toksOf; rw [List.length_cons, toksF, h]
    simp only
    rw [toksF_fuel s.length r.length r (by omega) (Nat.le_refl _)]
/-- what is read from a place on -/
def readR (d : Nat) (m : Bytes) (b : Bool) (s : Bytes) : Option (List Tok) := readF d s.length m b s
theorem readR_nil (d : Nat) (m : Bytes) (b : Bool) : readR d m b [] = some [] := rfl
theorem readR_none {d : Nat} {m : Bytes} {b : Bool} {s : Bytes} (hs : s ≠ []) (h : tokFrom s = none) : readR d m b s = none := by
  cases s with
  | nil => exact absurd rfl hs
  | cons c s => unfold readR; rw [List.length_cons, readF, h]
theorem readR_bad {d : Nat} {m : Bytes} {b : Bool} {s r : Bytes} {t : Tok} (hs : s ≠ []) (h : tokFrom s = some (t, r)) (he : tokE d m b t ≠ 0) : readR d m b s = none := by
  cases s with
  | nil => exact absurd rfl hs
  | cons c s => unfold readR; rw [List.length_cons, readF, h]; simp only; rw [if_pos he]
theorem readR_some {d : Nat} {m : Bytes} {b : Bool} {s r : Bytes} {t : Tok} (hs : s ≠ []) (h : tokFrom s = some (t, r)) (he : tokE d m b t = 0) :
    readR d m b s = (readR d (tokS m t) (isLit t) r).map (t :: ·) := by
  cases s with
  | nil => exact absurd rfl hs
  | cons c s =>
    have := tokFrom_len h
    simp at this
    unfold readR; rw [List.length_cons, readF, h]; simp only; rw [if_neg (by omega)]
    rw [readF_fuel d s.length r.length _ _ r (by omega) (Nat.le_refl _)]

/-- no error: some bytes more, and no more than there may be -/
theorem tokS_grow {d : Nat} {s : Bytes} {b : Bool} {t : Tok} (h : tokE d s b t = 0) (hd : d ≤ s.length) : s.length < (tokS s t).length ∧ (tokS s t).length - d ≤ 512 := by
  unfold tokE at h
  unfold tokS
  by_cases h1 : t.lit ≠ []
  · rw [if_pos h1] at h ⊢
    have hl : 0 < t.lit.length := List.length_pos_iff.2 h1
    split at h
    · omega
    · split at h
      · omega
      · simp; omega
  · rw [if_neg h1] at h ⊢
    rw [copyB_len]
    split at h
    · omega
    · split at h
      · omega
      · omega
theorem playF_room (d : Nat) : ∀ (l : List Tok) (s : Bytes) (b : Bool), (playF d s b l).2 = 0 → d ≤ s.length → s.length - d ≤ 512 → l.length + (s.length - d) ≤ 512
  | [], _, _, _, _, h => by simpa using h
  | t :: l, s, b, h, hd, hr => by
    rw [playF] at h
    by_cases he : tokE d s b t ≠ 0
    · rw [if_pos he] at h; exact absurd h he
    · rw [if_neg he] at h
      obtain ⟨h1, h2⟩ := tokS_grow (Decidable.not_not.1 he) hd
      have := playF_room d l _ _ h (by omega) h2
      simp; omega
theorem play_room {dict : Bytes} {l : List Tok} (h : (play dict l).2 = 0) : l.length ≤ 512 := by
  unfold play at h
  by_cases hd : maxDict < dict.length
  · rw [if_pos hd] at h; simp at h
  · rw [if_neg hd] at h
    have := playF_room dict.length l dict false h (Nat.le_refl _) (by omega)
    omega

/-- the toks of what is right -/
theorem playF_each (d : Nat) : ∀ (l : List Tok) (s : Bytes) (b : Bool), (playF d s b l).2 = 0 → d ≤ s.length → s.length - d ≤ 512 → ∀ t ∈ l, t.lit.length ≤ 512 ∧ 0 ≤ t.len ∧ t.len ≤ 64 ∧ 0 ≤ t.far ∧ t.far ≤ (d + 512 : Nat)
  | [], _, _, _, _, _ => by simp
  | t :: l, s, b, h, hd, hr => by
    rw [playF] at h
    by_cases he : tokE d s b t ≠ 0
    · rw [if_pos he] at h; exact absurd h he
    · rw [if_neg he] at h
      have he : tokE d s b t = 0 := Decidable.not_not.1 he
      obtain ⟨h1, h2⟩ := tokS_grow he hd
      intro u hu
      rcases List.mem_cons.1 hu with rfl | hu
      · unfold tokE at he
        by_cases h3 : u.lit ≠ []
        · rw [if_pos h3] at he
          split at he
          · omega
          · split at he
            · omega
            · rename_i h4 h5
              simp only [not_or, Decidable.not_not] at h4
              exact ⟨by omega, by omega, by omega, by omega, by omega⟩
        · rw [if_neg h3] at he
          simp only [ne_eq, Decidable.not_not] at h3
          rw [h3]
          split at he
          · omega
          · split at he
            · omega
            · exact ⟨by simp, by omega, by omega, by omega, by omega⟩
      · exact playF_each d l _ _ h (by omega) h2 u hu
theorem play_each {dict : Bytes} {l : List Tok} (h : (play dict l).2 = 0) : ∀ t ∈ l, t.lit.length ≤ 512 ∧ 0 ≤ t.len ∧ t.len ≤ 64 ∧ 0 ≤ t.far ∧ t.far ≤ 1000 := by
  unfold play at h
  by_cases hd : maxDict < dict.length
  · rw [if_pos hd] at h; simp at h
  · rw [if_neg hd] at h
    intro t ht
    have := playF_each dict.length l dict false h (Nat.le_refl _) (by omega) t ht
    unfold maxDict at hd
    omega

theorem readF_eq (d : Nat) : ∀ (f : Nat) (m : Bytes) (b : Bool) (s : Bytes), s.length ≤ f →
    readF d f m b s = match toksF f s with | none => none | some l => if (playF d m b l).2 = 0 then some l else none
  | f, m, b, [], _ => by cases f <;> simp [readF, toksF, playF]
  | 0, _, _, _ :: _, h => by simp at h
  | f + 1, m, b, c :: s', hf => by
    rw [readF, toksF]
    cases h : tokFrom (c :: s') with
    | none => rfl
    | some p =>
      obtain ⟨t, r⟩ := p
      have := tokFrom_len h
      simp at this hf
      simp only
      rw [readF_eq d f _ _ r (by omega)]
      cases toksF f r with
      | none => simp
      | some l =>
        simp only [Option.map_some]
        rw [playF]
        by_cases he : tokE d m b t ≠ 0
        · rw [if_pos he, if_pos he, if_neg he]
        · rw [if_neg he, if_neg he]
          by_cases h0 : (playF d (tokS m t) (isLit t) l).2 = 0
          · rw [if_pos h0, if_pos h0]; rfl
          · rw [if_neg h0, if_neg h0]; rfl
/-- B3: what is read -/
theorem read_eq {dict : Bytes} (hd : dict.length ≤ 256) (s : Bytes) : read dict s = match toksOf s with | none => none | some l => if (play dict l).2 = 0 then some l else none := by
  unfold read toksOf
  rw [readF_eq dict.length s.length dict false s (Nat.le_refl _)]
  cases toksF s.length s with
  | none => rfl
  | some l =>
    have e : play dict l = playF dict.length dict false l := by unfold play; exact if_neg (by unfold maxDict; omega)
    simp only; rw [e]
theorem read_none {dict s : Bytes} (hd : dict.length ≤ 256) (h : toksOf s = none) : read dict s = none := by rw [read_eq hd, h]
theorem read_bad {dict s : Bytes} {l : List Tok} (hd : dict.length ≤ 256) (h : toksOf s = some l) (hp : (play dict l).2 ≠ 0) : read dict s = none := by rw [read_eq hd, h]; exact if_neg hp
theorem read_good {dict s : Bytes} {l : List Tok} (hd : dict.length ≤ 256) (h : toksOf s = some l) (hp : (play dict l).2 = 0) : read dict s = some l := by rw [read_eq hd, h]; exact if_pos hp
theorem read_many {dict s r : Bytes} {l : List Tok} (hd : dict.length ≤ 256) (h : toksOf s = (toksOf r).map (l ++ ·)) (hl : 512 < l.length) : read dict s = none := by
  cases hr : toksOf r with
  | none => rw [hr] at h; exact read_none hd h
  | some k =>
    rw [hr] at h
    refine read_bad hd h fun hp => ?_
    have := play_room hp
    simp at this; omega

/-- a right tok's bytes, read -/
theorem tokFrom_tokB {d : Nat} {s : Bytes} {b : Bool} {t : Tok} (h : tokE d s b t = 0) (hs : s.length ≤ 1000) (rest : Bytes) : tokFrom (tokB t ++ rest) = some (t, rest) := by
  unfold tokE at h
  unfold tokB tokFrom
  by_cases h1 : t.lit ≠ []
  · rw [if_pos h1] at h ⊢
    split at h
    · omega
    · split at h
      · omega
      · rename_i h2 h3
        rw [List.append_assoc, take_nb (by unfold maxNum; omega)]
        have e1 : 2 * t.lit.length % 2 = 0 := by omega
        have e2 : 2 * t.lit.length / 2 = t.lit.length := by omega
        simp only [e1, e2, if_true]
        rw [if_neg (by simp)]
        obtain ⟨lit, far, len⟩ := t
        simp at h2 ⊢
        exact ⟨h2.1.symm, h2.2.1.symm⟩
  · rw [if_neg h1] at h ⊢
    split at h
    · omega
    · split at h
      · omega
      · rename_i h2 h3
        obtain ⟨lit, far, len⟩ := t
        simp only [ne_eq, Decidable.not_not] at h1
        subst h1
        simp only [not_or, Int.not_lt] at h2
        rw [List.append_assoc, take_nb (by unfold maxNum; omega)]
        have e1 : (2 * len.toNat + 1) % 2 = 1 := by omega
        have e2 : (2 * len.toNat + 1) / 2 = len.toNat := by omega
        simp only [e1, e2]
        rw [if_neg (by omega), take_nb (by unfold maxNum; omega)]
        simp only [Option.some.injEq, Prod.mk.injEq, and_true]
        congr 1 <;> omega
theorem tokB_ne (t : Tok) (h : tokB t = []) : False := by
  unfold tokB at h
  split at h <;> (have := congrArg List.length h; simp at this; have h2 := nb_pos (2 * t.lit.length); have h3 := nb_pos (2 * t.len.toNat + 1); first | (simp at h2; simp_all; done) | simp_all)
theorem toksOf_toksB (d : Nat) : ∀ (l : List Tok) (s : Bytes) (b : Bool), (playF d s b l).2 = 0 → d ≤ s.length → s.length - d ≤ 512 → d ≤ 256 → toksOf (toksB l) = some l
  | [], _, _, _, _, _, _ => rfl
  | t :: l, s, b, h, hd, hr, hd2 => by
    rw [playF] at h
    by_cases he : tokE d s b t ≠ 0
    · rw [if_pos he] at h; exact absurd h he
    · rw [if_neg he] at h
      have he : tokE d s b t = 0 := by omega
      obtain ⟨h1, h2⟩ := tokS_grow he hd
      rw [toksB, toksOf_some (fun e => tokB_ne t (List.append_eq_nil_iff.1 e).1) (tokFrom_tokB he (by omega) (toksB l)), toksOf_toksB d l _ _ h (by omega) h2 hd2]
      rfl
/-- READ OF WRITE IS THE TOKS -/
theorem read_write {dict : Bytes} {l : List Tok} (h : (write dict l).2 = 0) : read dict (write dict l).1 = some l := by
  unfold write at h ⊢
  by_cases hp : (play dict l).2 ≠ 0
  · rw [if_pos hp] at h; exact absurd h hp
  · rw [if_neg hp]
    have hp : (play dict l).2 = 0 := by omega
    have hd : dict.length ≤ 256 := by
      by_cases hd : dict.length ≤ 256
      · exact hd
      · unfold play at hp; rw [if_pos (by unfold maxDict; omega)] at hp; simp at hp
    refine read_good hd (toksOf_toksB dict.length l dict false ?_ (Nat.le_refl _) (by omega) hd) hp
    unfold play at hp; rwa [if_neg (by unfold maxDict; omega)] at hp

/-- what is read was written so -/
theorem tokB_tokFrom {d : Nat} {m : Bytes} {b : Bool} {s r : Bytes} {t : Tok} (h : tokFrom s = some (t, r)) (he : tokE d m b t = 0) : s = tokB t ++ r := by
  unfold tokFrom at h
  cases hk : take s with
  | none => rw [hk] at h; simp at h
  | some p =>
    obtain ⟨n, q⟩ := p
    obtain ⟨hs, _⟩ := take_some hk
    rw [hk] at h
    simp only at h
    by_cases h2 : n % 2 = 0
    · rw [if_pos h2] at h
      by_cases h3 : q.length < n / 2
      · rw [if_pos h3] at h; simp at h
      · rw [if_neg h3] at h
        simp only [Option.some.injEq, Prod.mk.injEq] at h
        obtain ⟨rfl, rfl⟩ := h
        have hne : q.take (n / 2) ≠ [] := by
          intro e
          unfold tokE at he
          simp only [e] at he
          simp at he
        have hl : (q.take (n / 2)).length = n / 2 := by simp; omega
        unfold tokB
        rw [if_pos hne]
        simp only [hl]
        rw [show 2 * (n / 2) = n from by omega, List.append_assoc, List.take_append_drop]; exact hs
    · rw [if_neg h2] at h
      cases hf : take q with
      | none => rw [hf] at h; simp at h
      | some p2 =>
        obtain ⟨f, q2⟩ := p2
        obtain ⟨hq, _⟩ := take_some hf
        rw [hf] at h
        simp only [Option.some.injEq, Prod.mk.injEq] at h
        obtain ⟨rfl, rfl⟩ := h
        unfold tokB
        rw [if_neg (by simp)]
        simp only [Int.toNat_natCast]
        rw [show 2 * (n / 2) + 1 = n from by omega, List.append_assoc, ← hq]; exact hs
theorem readF_back (d : Nat) : ∀ (f : Nat) (m : Bytes) (b : Bool) (s : Bytes) (l : List Tok), readF d f m b s = some l → s = toksB l
  | f, m, b, [], l, h => by cases f <;> (simp [readF] at h; subst h; rfl)
  | 0, _, _, _ :: _, _, h => by simp [readF] at h
  | f + 1, m, b, c :: s', l, h => by
    rw [readF] at h
    cases hk : tokFrom (c :: s') with
    | none => rw [hk] at h; simp at h
    | some p =>
      obtain ⟨t, r⟩ := p
      rw [hk] at h
      simp only at h
      by_cases he : tokE d m b t ≠ 0
      · rw [if_pos he] at h; simp at h
      · rw [if_neg he] at h
        cases hr : readF d f (tokS m t) (isLit t) r with
        | none => rw [hr] at h; simp at h
        | some k =>
          rw [hr] at h
          simp at h
          subst h
          rw [tokB_tokFrom hk (Decidable.not_not.1 he), toksB, readF_back d f _ _ _ _ hr]
/-- WRITE OF READ IS THE BYTES -/
theorem write_read {dict s : Bytes} {l : List Tok} (hd : dict.length ≤ 256) (h : read dict s = some l) : write dict l = (s, 0) := by
  have hb : s = toksB l := by unfold read at h; exact readF_back _ _ _ _ _ _ h
  have hp : (play dict l).2 = 0 := by
    rw [read_eq hd] at h
    cases hk : toksOf s with
    | none => rw [hk] at h; simp at h
    | some k =>
      rw [hk] at h
      simp only at h
      by_cases h0 : (play dict k).2 = 0
      · rw [if_pos h0] at h; simp at h; subst h; exact h0
      · rw [if_neg h0] at h; simp at h
  unfold write
  rw [if_neg (by omega), hb]

end Pl
end Go.Proofs.Ytgfkkjcnnecefaa
