/- (*maker).tok by one contract. -/
import Derived.Test.YtgfkkjcnnecefaaTokCopy
namespace Go.Proofs.Ytgfkkjcnnecefaa
open Go.RowKit Go.Lib Pl

theorem tokE_le (d : Nat) (s : Bytes) (lit : Bool) (t : Tok) : tokE d s lit t ≤ 2 := by
  unfold tokE
  by_cases h1 : t.lit ≠ []
  · rw [if_pos h1]
    by_cases h2 : t.far ≠ 0 ∨ t.len ≠ 0 ∨ lit = true
    · rw [if_pos h2]; omega
    · rw [if_neg h2]; by_cases h3 : 512 < t.lit.length + (s.length - d)
      · rw [if_pos h3]; omega
      · rw [if_neg h3]; omega
  · rw [if_neg h1]
    by_cases h2 : t.len < 3 ∨ 64 < t.len ∨ t.far < 1 ∨ (s.length : Int) < t.far
    · rw [if_pos h2]; omega
    · rw [if_neg h2]; by_cases h3 : 512 < t.len + ((s.length - d : Nat) : Int)
      · rw [if_pos h3]; omega
      · rw [if_neg h3]; omega

theorem tok_any (base M d : Nat) (lit : Bool) (s : Bytes) (t : Tok) (w : World) (hM : Mk w base M d lit s) (hd : d ≤ s.length) (hs : s.length ≤ d + 512) (hd2 : d ≤ 256) :
    Calls Try.prog 53 #[.pointer (some ⟨M, 0, none⟩), TokV t] w fun e w' =>
      e = .returned (I (tokE d s lit t)) ∧ (tokE d s lit t = 0 → Mk w' base M d (isLit t) (tokS s t)) ∧ Below base w w' ∧ Keeps badMk w w' := by
  obtain ⟨l, far, len⟩ := t
  have noz : ∀ (n : Nat) (P : Prop), n ≠ 0 → (n = 0 → P) := fun n P h h2 => absurd h2 h
  by_cases hl : l = []
  · subst hl
    by_cases h1 : len < 3
    · have e : tokE d s lit ⟨[], far, len⟩ = 1 := by simp [tokE, h1]
      rw [e]; exact (tok_copy1 base M d lit s [] far len w hM hd hs rfl h1).mono fun _ _ ⟨a, b⟩ => ⟨a, noz _ _ (by omega), b⟩
    by_cases h2 : 64 < len
    · have e : tokE d s lit ⟨[], far, len⟩ = 1 := by simp [tokE, h2]
      rw [e]; exact (tok_copy2 base M d lit s [] far len w hM hd hs rfl h2).mono fun _ _ ⟨a, b⟩ => ⟨a, noz _ _ (by omega), b⟩
    by_cases h3 : far < 1
    · have e : tokE d s lit ⟨[], far, len⟩ = 1 := by simp [tokE, h3]
      rw [e]; exact (tok_copy3 base M d lit s [] far len w hM hd hs rfl (by omega) (by omega) h3).mono fun _ _ ⟨a, b⟩ => ⟨a, noz _ _ (by omega), b⟩
    by_cases h4 : (s.length : Int) < far
    · have e : tokE d s lit ⟨[], far, len⟩ = 1 := by simp [tokE, h4]
      rw [e]; exact (tok_copy4 base M d lit s [] far len w hM hd hs rfl (by omega) (by omega) (by omega) h4).mono fun _ _ ⟨a, b⟩ => ⟨a, noz _ _ (by omega), b⟩
    have hbad : ¬ (len < 3 ∨ 64 < len ∨ far < 1 ∨ (s.length : Int) < far) := by omega
    by_cases h5 : 512 < len + ((s.length - d : Nat) : Int)
    · have e : tokE d s lit ⟨[], far, len⟩ = 2 := by
        unfold tokE
        rw [if_neg (by simp), if_neg hbad, if_pos h5]
      rw [e]; exact (tok_copy5 base M d lit s [] far len w hM hd hs rfl (by omega) (by omega) (by omega) (by omega) h5).mono fun _ _ ⟨a, b⟩ => ⟨a, noz _ _ (by omega), b⟩
    · have e : tokE d s lit ⟨[], far, len⟩ = 0 := by
        unfold tokE
        rw [if_neg (by simp), if_neg hbad, if_neg h5]
      obtain ⟨f', rfl⟩ := Int.eq_ofNat_of_zero_le (show 0 ≤ far by omega)
      obtain ⟨n', rfl⟩ := Int.eq_ofNat_of_zero_le (show 0 ≤ len by omega)
      rw [e]
      refine (tok_copyok base M d lit s f' n' w hM hd hs hd2 (by omega) (by omega) (by omega) (by omega) (by omega)).mono fun _ _ ⟨a, b, c⟩ => ⟨a, fun _ => ?_, c⟩
      simpa [isLit, tokS] using b
  · by_cases h1 : far = 0
    · by_cases h2 : len = 0
      · by_cases h3 : lit = true
        · have e : tokE d s lit ⟨l, far, len⟩ = 1 := by simp [tokE, hl, h3]
          rw [e]; exact (tok_form3 base M d lit s l far len w hM hd hs hl h1 h2 h3).mono fun _ _ ⟨a, b⟩ => ⟨a, noz _ _ (by omega), b⟩
        · have h3 : lit = false := by simpa using h3
          by_cases h4 : 512 < l.length + (s.length - d)
          · have e : tokE d s lit ⟨l, far, len⟩ = 2 := by simp [tokE, hl, h1, h2, h3, h4]
            rw [e]; exact (tok_many base M d lit s l far len w hM hd hs hl h1 h2 h3 h4).mono fun _ _ ⟨a, b⟩ => ⟨a, noz _ _ (by omega), b⟩
          · have e : tokE d s lit ⟨l, far, len⟩ = 0 := by simp [tokE, hl, h1, h2, h3]; omega
            rw [e]
            refine (tok_litok base M d lit s l far len w hM hd hs hd2 hl ⟨h1, h2, h3⟩ (by omega)).mono fun _ _ ⟨a, b, c⟩ => ⟨a, fun _ => ?_, c⟩
            have e1 : l.isEmpty = false := by simpa using hl
            simpa [isLit, tokS, hl, e1] using b
      · have e : tokE d s lit ⟨l, far, len⟩ = 1 := by simp [tokE, hl, h2]
        rw [e]; exact (tok_form2 base M d lit s l far len w hM hd hs hl h1 h2).mono fun _ _ ⟨a, b⟩ => ⟨a, noz _ _ (by omega), b⟩
    · have e : tokE d s lit ⟨l, far, len⟩ = 1 := by simp [tokE, hl, h1]
      rw [e]; exact (tok_form1 base M d lit s l far len w hM hd hs hl h1).mono fun _ _ ⟨a, b⟩ => ⟨a, noz _ _ (by omega), b⟩

theorem tokS_len {d : Nat} {s : Bytes} {lit : Bool} {t : Tok} (h : tokE d s lit t = 0) (hs : s.length ≤ d + 512) (hd : d ≤ s.length) : d ≤ (tokS s t).length ∧ (tokS s t).length ≤ d + 512 ∧ s.length < (tokS s t).length := by
  obtain ⟨l, far, len⟩ := t
  unfold tokE at h
  unfold tokS
  by_cases hl : l = []
  · subst hl
    simp only [ne_eq, not_true_eq_false, if_false] at h ⊢
    rw [copyB_len]
    by_cases h1 : len < 3 ∨ 64 < len ∨ far < 1 ∨ (s.length : Int) < far
    · rw [if_pos h1] at h; cases h
    · rw [if_neg h1] at h
      by_cases h2 : 512 < len + ((s.length - d : Nat) : Int)
      · rw [if_pos h2] at h; cases h
      · omega
  · have hlp : 0 < l.length := List.length_pos_iff.2 hl
    simp only [ne_eq, hl, not_false_eq_true, if_true] at h ⊢
    rw [List.length_append]
    by_cases h1 : far ≠ 0 ∨ len ≠ 0 ∨ lit = true
    · rw [if_pos h1] at h; cases h
    · rw [if_neg h1] at h
      by_cases h2 : 512 < l.length + (s.length - d)
      · rw [if_pos h2] at h; cases h
      · omega

end Go.Proofs.Ytgfkkjcnnecefaa
