/- Plain mathematics of chapter 2: play of parse is the text. No program in sight. -/
import Derived.Test.YtgfkkjcnnecefaaPureRead
namespace Go.Proofs.Ytgfkkjcnnecefaa
namespace Pl

theorem comeF_same (w : Bytes) (p far : Nat) : ∀ f n i, n ≤ i → i < comeF w p far f n → w.getD (p + i) 0 = w.getD (p + i - far) 0
  | 0, n, i, h1, h2 => by rw [comeF] at h2; omega
  | f + 1, n, i, h1, h2 => by
    rw [comeF] at h2
    by_cases h : p + n < w.length ∧ w.getD (p + n) 0 = w.getD (p + n - far) 0
    · rw [if_pos h] at h2
      by_cases e : i = n
      · rw [e]; exact h.2
      · exact comeF_same w p far f (n + 1) i (by omega) h2
    · rw [if_neg h] at h2; omega
theorem bestF_is (w : Bytes) (p : Nat) : ∀ f, (bestF w p f).2 ≠ 0 → 3 ≤ (bestF w p f).2 ∧ 1 ≤ (bestF w p f).1 ∧ (bestF w p f).1 ≤ f ∧ (bestF w p f).2 = come w p (bestF w p f).1
  | 0, h => by simp [bestF] at h
  | f + 1, h => by
    rw [bestF] at h ⊢
    by_cases h1 : 3 ≤ come w p (f + 1) ∧ (bestF w p f).2 < come w p (f + 1)
    · rw [if_pos h1]; exact ⟨h1.1, by simp, Nat.le_refl _, rfl⟩
    · rw [if_neg h1] at h ⊢
      obtain ⟨a, b, c, d⟩ := bestF_is w p f h
      exact ⟨a, b, by omega, d⟩

theorem take_next {w : Bytes} {k : Nat} (h : k < w.length) : w.take (k + 1) = w.take k ++ [w.getD k 0] := by
  rw [List.take_succ_eq_append_getElem h, List.getD_eq_getElem?_getD, List.getElem?_eq_getElem h]; rfl
theorem copyB_come (w : Bytes) (p far : Nat) (h1 : 1 ≤ far) (h2 : far ≤ p) (hp : p ≤ w.length) : ∀ n, n ≤ come w p far → copyB n far (w.take p) = w.take (p + n)
  | 0, _ => rfl
  | n + 1, h => by
    have hl := (come_le w p far hp).2
    have ih := copyB_come w p far h1 h2 hp n (by omega)
    have hs : w.getD (p + n) 0 = w.getD (p + n - far) 0 := comeF_same w p far 64 0 n (by omega) (by unfold come at h; omega)
    rw [copyB_snoc, ih, ← Nat.add_assoc, take_next (by omega), hs]
    congr 2
    rw [List.length_take, Nat.min_eq_left (by omega), List.getD_eq_getElem?_getD, List.getD_eq_getElem?_getD, List.getElem?_take, if_pos (by omega)]

theorem take_slice {w : Bytes} {a b : Nat} (h : a ≤ b) : w.take a ++ slice w a b = w.take b := by
  unfold slice
  have : w.take a = (w.take b).take a := by rw [List.take_take, Nat.min_eq_left h]
  rw [this, List.take_append_drop]

theorem flush_play {d : Nat} {w : Bytes} {a p : Nat} (ha : d ≤ a) (hap : a ≤ p) (hp : p ≤ w.length) (hw : w.length - d ≤ 512) (l : List Tok) :
    ∃ b, playF d (w.take a) false (flush w a p ++ l) = playF d (w.take p) b l := by
  unfold flush
  by_cases h : a < p
  · rw [if_pos h]
    refine ⟨true, ?_⟩
    have hl : (slice w a p).length = p - a := by rw [slice_len, Nat.min_eq_left hp]
    have hne : slice w a p ≠ [] := by intro e; rw [e] at hl; simp at hl; omega
    have he : tokE d (w.take a) false (litTok (slice w a p)) = 0 := by
      unfold tokE litTok
      simp only
      rw [if_pos hne, if_neg (by simp), if_neg (by rw [hl, List.length_take]; omega)]
    have hi : isLit (litTok (slice w a p)) = true := by
      unfold isLit litTok; simp [hne]
    have ht : tokS (w.take a) (litTok (slice w a p)) = w.take p := by
      unfold tokS litTok; simp only; rw [if_pos hne, take_slice hap]
    rw [List.cons_append, List.nil_append, playF, if_neg (by omega), hi, ht]
  · rw [if_neg h]
    obtain rfl : a = p := by omega
    exact ⟨false, rfl⟩

theorem parseF_play (d : Nat) (w : Bytes) (hw : w.length - d ≤ 512) : ∀ (f p a : Nat), d ≤ a → a ≤ p → p ≤ w.length → w.length ≤ p + f →
    playF d (w.take a) false (parseF w f p a) = (w.drop d, 0) := by
  have fin : ∀ p a : Nat, d ≤ a → a ≤ p → p = w.length → playF d (w.take a) false (flush w a p) = (w.drop d, 0) := by
    intro p a ha hap hp
    obtain ⟨b, hb⟩ := flush_play ha hap (by omega) hw []
    rw [List.append_nil] at hb
    rw [hb, playF, hp, List.take_length]
  intro f
  induction f with
  | zero => intro p a ha hap hp hf; rw [parseF]; exact fin p a ha hap (by omega)
  | succ f ih =>
    intro p a ha hap hp hf
    rw [parseF]
    by_cases h : p < w.length
    · rw [if_pos h]
      by_cases h2 : (best w p).2 = 0
      · rw [if_pos h2]; exact ih (p + 1) a ha (by omega) (by omega) (by omega)
      · rw [if_neg h2]
        obtain ⟨b3, b1, bp, bc⟩ := bestF_is w p p h2
        have hc := come_le w p (best w p).1 hp
        have bc : (best w p).2 = come w p (best w p).1 := bc
        have b3 : 3 ≤ (best w p).2 := b3
        have b1 : 1 ≤ (best w p).1 := b1
        have bp : (best w p).1 ≤ p := bp
        obtain ⟨b, hb⟩ := flush_play ha hap hp hw (copyTok (best w p).1 (best w p).2 :: parseF w f (p + (best w p).2) (p + (best w p).2))
        rw [hb, playF]
        have hlen : (w.take p).length = p := by rw [List.length_take]; omega
        have he : tokE d (w.take p) b (copyTok (best w p).1 (best w p).2) = 0 := by
          unfold tokE copyTok
          simp only
          rw [if_neg (by simp), if_neg (by rw [hlen]; omega), if_neg (by rw [hlen]; omega)]
        have ht : tokS (w.take p) (copyTok (best w p).1 (best w p).2) = w.take (p + (best w p).2) := by
          unfold tokS copyTok
          simp only [Int.toNat_natCast]
          rw [if_neg (by simp)]
          exact copyB_come w p _ b1 bp hp _ (by omega)
        have hi : isLit (copyTok (best w p).1 (best w p).2) = false := rfl
        rw [if_neg (by omega), ht, hi]
        exact ih _ _ (by omega) (Nat.le_refl _) (by omega) (by omega)
    · rw [if_neg h]; exact fin p a ha hap (by omega)

/-- PLAY OF PARSE IS THE TEXT -/
theorem play_parse {dict text : Bytes} (hd : dict.length ≤ 256) (ht : text.length ≤ 512) : play dict (parse dict text) = (text, 0) := by
  unfold play parse
  rw [if_neg (by unfold maxDict; omega)]
  have h := parseF_play dict.length (dict ++ text) (by simp; omega) text.length dict.length dict.length (Nat.le_refl _) (Nat.le_refl _) (by simp) (by simp)
  rw [List.take_left' rfl] at h
  rw [h, List.drop_left' rfl]

end Pl
end Go.Proofs.Ytgfkkjcnnecefaa
