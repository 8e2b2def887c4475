/- Parts of the proofs. -/
import Derived.Test.YtjpgoeimclipjaaGreatAd1
import Derived.Test.YtjpgoeimclipjaaGreatProg
import Derived.WalkKit
import Derived.WalkSpells
import Derived.WalkLawsBesides
import Derived.Lib.Hide
import Derived.Deep.Draws
import Derived.Laws.OwnMore
import Derived.Laws.IdiomStrings
import Derived.Lib.BufferRead
import Derived.Maps.AppendAt
import Derived.Laws.BitsAllLaws
import Derived.Laws.BitsLemmas
namespace Go.Proofs.YtjpgoeimclipjaaGreat
namespace Pl
def zeros (n : Nat) : List Bool := List.replicate n false
theorem zeros_len (n : Nat) : (zeros n).length = n := List.length_replicate
theorem zeros_add (a b : Nat) : zeros a ++ zeros b = zeros (a + b) := List.replicate_append_replicate
theorem val_zeros (n : Nat) : val (zeros n) = 0 := by
 induction n with
 | zero => rfl
 | succ n ih =>
  have : zeros (n + 1) = zeros n ++ [false] := by rw [← zeros_add]; rfl
  rw [this, val_snoc, ih]; rfl
def unpackB (b : Bytes) : List Bool := b.flatMap fun c => bt c.toNat 8
theorem unpackB_cons (c : UInt8) (b : Bytes) : unpackB (c :: b) = bt c.toNat 8 ++ unpackB b := by simp [unpackB]
theorem unpackB_len (b : Bytes) : (unpackB b).length = 8 * b.length := by
 induction b with
 | nil => rfl
 | cons c b ih => rw [unpackB_cons, List.length_append, bt_len, ih, List.length_cons]; omega
theorem unpackB_app (a b : Bytes) : unpackB (a ++ b) = unpackB a ++ unpackB b := by simp [unpackB]
def byteOfB (x : List Bool) : UInt8 := UInt8.ofNat (val x * 2 ^ (8 - x.length))
theorem byteOfB_nat {x : List Bool} (h : x.length ≤ 8) : (byteOfB x).toNat = val x * 2 ^ (8 - x.length) := by
 have h1 := val_lt x
 have h2 : val x * 2 ^ (8 - x.length) < 2 ^ x.length * 2 ^ (8 - x.length) := Nat.mul_lt_mul_of_pos_right h1 (Nat.pow_pos (by omega))
 rw [← Nat.pow_add, show x.length + (8 - x.length) = 8 from by omega] at h2
 show (UInt8.ofNat _).toNat = _
 rw [UInt8.toNat_ofNat']
 exact Nat.mod_eq_of_lt (by simpa using h2)
theorem bt_byteOfB {x : List Bool} (h : x.length ≤ 8) : bt (byteOfB x).toNat 8 = x ++ zeros (8 - x.length) := by
 rw [byteOfB_nat h]
 have h1 : val (x ++ zeros (8 - x.length)) = val x * 2 ^ (8 - x.length) := by rw [val_app, val_zeros, zeros_len]; omega
 have h2 := bt_val (x ++ zeros (8 - x.length))
 rw [h1, List.length_append, zeros_len, show x.length + (8 - x.length) = 8 from by omega] at h2
 exact h2
theorem byteOfB_bt (c : UInt8) : byteOfB (bt c.toNat 8) = c := by
 have := c.toNat_lt
 apply UInt8.toNat_inj.1
 rw [byteOfB_nat (by rw [bt_len]; omega), val_bt, bt_len]
 simp
def packN : Nat → List Bool → Bytes
 | 0, _ => []
 | n + 1, x => byteOfB (x.take 8) :: packN n (x.drop 8)
def packB (x : List Bool) : Bytes := packN ((x.length + 7) / 8) x
theorem packN_len (n : Nat) (x : List Bool) : (packN n x).length = n := by
 induction n generalizing x with
 | zero => rfl
 | succ n ih => rw [packN, List.length_cons, ih]
theorem unpack_packN : ∀ (n : Nat) (x : List Bool), x.length ≤ 8 * n → unpackB (packN n x) = x ++ zeros (8 * n - x.length)
 | 0, x, h => by
  have : x = [] := List.length_eq_zero_iff.1 (by omega)
  subst this; rfl
 | n + 1, x, h => by
  rw [packN, unpackB_cons, bt_byteOfB (by rw [List.length_take]; omega), unpack_packN n _ (by rw [List.length_drop]; omega), List.length_take, List.length_drop]
  by_cases h8 : 8 ≤ x.length
  ·rw [show 8 - min 8 x.length = 0 from by omega, show 8 * n - (x.length - 8) = 8 * (n + 1) - x.length from by omega]
   rw [show zeros 0 = [] from rfl, List.append_nil, ← List.append_assoc, List.take_append_drop]
  ·rw [List.take_of_length_le (by omega), List.drop_eq_nil_of_le (by omega), List.nil_append, List.append_assoc, zeros_add]
   congr 2; omega
theorem packN_unpack (b : Bytes) : packN b.length (unpackB b) = b := by
 induction b with
 | nil => rfl
 | cons c b ih =>
  rw [List.length_cons, packN, unpackB_cons]
  have h8 := bt_len 8 c.toNat
  rw [List.take_append_of_le_length (by omega), List.take_of_length_le (by omega), byteOfB_bt, List.drop_append_of_le_length (by omega), List.drop_eq_nil_of_le (by omega), List.nil_append, ih]
theorem unpackB_inj {a b : Bytes} (h : unpackB a = unpackB b) : a = b := by
 have hl := congrArg List.length h
 rw [unpackB_len, unpackB_len] at hl
 rw [← packN_unpack a, ← packN_unpack b, h, show a.length = b.length from by omega]
theorem packB_len (x : List Bool) : (packB x).length = (x.length + 7) / 8 := packN_len _ _
theorem unpack_packB (x : List Bool) : unpackB (packB x) = x ++ zeros (8 * ((x.length + 7) / 8) - x.length) := unpack_packN _ _ (by omega)
theorem pack_iff (x rest : List Bool) (b : Bytes) (h : unpackB b = x ++ rest) : packB x = b ↔ rest.length < 8 ∧ rest = zeros rest.length := by
 constructor
 ·intro e
  have h2 := unpack_packB x
  rw [e, h] at h2
  have h3 := List.append_cancel_left h2
  rw [h3, zeros_len]
  exact ⟨by omega, rfl⟩
 ·rintro ⟨h1, h2⟩
  apply unpackB_inj
  rw [unpack_packB, h]
  have hl := congrArg List.length h
  rw [unpackB_len, List.length_append] at hl
  rw [h2]
  congr 2; omega
theorem packN_snoc : ∀ (n : Nat) (x : List Bool), packN (n + 1) x = packN n x ++ [byteOfB ((x.drop (8 * n)).take 8)]
 | 0, x => by simp [packN]
 | n + 1, x => by
  rw [packN, packN_snoc n (x.drop 8), packN, List.cons_append, List.drop_drop, show 8 + 8 * n = 8 * (n + 1) from by omega]
theorem packN_pad (x : List Bool) (n : Nat) (h : x.length ≤ 8 * n) : packN n (x ++ zeros (8 * n - x.length)) = packN n x := by
 apply unpackB_inj
 rw [unpack_packN _ _ (by rw [List.length_append, zeros_len]; omega), unpack_packN _ _ h, List.length_append, zeros_len, show 8 * n - (x.length + (8 * n - x.length)) = 0 from by omega]
 simp [zeros]
def nibs (s : Bytes) : List Nat := s.flatMap fun c => [c.toNat / 16, c.toNat % 16]
theorem nibs_cons (c : UInt8) (s : Bytes) : nibs (c :: s) = c.toNat / 16 :: c.toNat % 16 :: nibs s := by simp [nibs]
theorem nibs_len (s : Bytes) : (nibs s).length = 2 * s.length := by
 induction s with
 | nil => rfl
 | cons c s ih => rw [nibs_cons, List.length_cons, List.length_cons, ih, List.length_cons]; omega
theorem nibs_lt (s : Bytes) : ∀ k ∈ nibs s, k < 16 := by
 induction s with
 | nil => intro k hk; simp [nibs] at hk
 | cons c s ih =>
  intro k hk
  have := c.toNat_lt
  rw [nibs_cons, List.mem_cons, List.mem_cons] at hk
  rcases hk with rfl | rfl | hk
  ·omega
  ·omega
  ·exact ih k hk
theorem nibs_app (a b : Bytes) : nibs (a ++ b) = nibs a ++ nibs b := by simp [nibs]
def half : List Nat → Bytes
 | [] => []
 | [a] => [UInt8.ofNat (16 * a)]
 | a :: b :: r => UInt8.ofNat (16 * a + b) :: half r
theorem half_nibs (s : Bytes) : half (nibs s) = s := by
 induction s with
 | nil => rfl
 | cons c s ih =>
  rw [nibs_cons, half, ih, Nat.div_add_mod]
  congr 1
  exact UInt8.ofNat_toNat
theorem nibs_half : ∀ (ks : List Nat), ks.length % 2 = 0 → (∀ k ∈ ks, k < 16) → nibs (half ks) = ks
 | [], _, _ => rfl
 | [_], h, _ => by simp at h
 | a :: b :: r, h, hk => by
  have ha := hk a (by simp)
  have hb := hk b (by simp)
  have e : (UInt8.ofNat (16 * a + b)).toNat = 16 * a + b := by rw [UInt8.toNat_ofNat']; exact Nat.mod_eq_of_lt (by simp; omega)
  rw [half, nibs_cons, e, nibs_half r (by simp at h; omega) (fun k hk' => hk k (by simp [hk']))]
  congr 1
  ·omega
  ·congr 1; omega
theorem half_app : ∀ (a b : List Nat), a.length % 2 = 0 → half (a ++ b) = half a ++ half b
 | [], _, _ => rfl
 | [_], _, h => by simp at h
 | x :: y :: r, b, h => by
  rw [List.cons_append, List.cons_append, half, half, List.cons_append, half_app r b (by simp at h; omega)]
theorem half_len : ∀ (ks : List Nat), (half ks).length = (ks.length + 1) / 2
 | [] => rfl
 | [_] => by simp [half]
 | a :: b :: r => by rw [half, List.length_cons, half_len r, List.length_cons, List.length_cons]; omega
def encK (l : List Int) (ks : List Nat) : List Bool := ks.flatMap (wordB l)
theorem encK_app (l : List Int) (a b : List Nat) : encK l (a ++ b) = encK l a ++ encK l b := by simp [encK]
theorem encK_cons (l : List Int) (a : Nat) (b : List Nat) : encK l (a :: b) = wordB l a ++ encK l b := by simp [encK]
theorem encK_len {l : List Int} (h : Right l) (ks : List Nat) : (encK l ks).length ≤ 15 * ks.length := by
 induction ks with
 | nil => simp [encK]
 | cons a ks ih =>
  have := h.one a
  rw [encK_cons, List.length_append, wordB_len, List.length_cons]; omega
def lacks (l : List Int) (ks : List Nat) : Bool := ks.any fun k => decide (ln l k = 0)
def writeE (l : List Int) (s : Bytes) : Nat := if checkE l ≠ 0 then checkE l else if 1024 < s.length then 2 else if lacks l (nibs s) = true then 5 else 0
def writeS (l : List Int) (s : Bytes) : Bytes := if writeE l s = 0 then packB (encK l (nibs s)) else []
def hitB (l : List Int) (b : List Bool) (i : Nat) : Bool := decide (0 < ln l i) && (wordB l i).isPrefixOf b
def frontP (l : List Int) (b : List Bool) : Option Nat := (List.range 16).find? (hitB l b)
theorem hit_iff (l : List Int) (b : List Bool) (i : Nat) : hitB l b i = true ↔ 0 < ln l i ∧ wordB l i <+: b := by
 unfold hitB
 rw [Bool.and_eq_true, decide_eq_true_eq, List.isPrefixOf_iff_prefix]
theorem front_some {l : List Int} {b : List Bool} {i : Nat} (h : frontP l b = some i) : i < 16 ∧ 0 < ln l i ∧ wordB l i <+: b := by
 unfold frontP at h
 rw [List.find?_range_eq_some] at h
 have := (hit_iff l b i).1 h.1
 exact ⟨by simpa using h.2.1, this.1, this.2⟩
theorem front_hit {l : List Int} (hr : Right l) {b : List Bool} {i : Nat} (hi : i < 16) (h0 : 0 < ln l i) (hp : wordB l i <+: b) : frontP l b = some i := by
 unfold frontP
 rw [List.find?_range_eq_some]
 refine ⟨(hit_iff _ _ _).2 ⟨h0, hp⟩, by simpa using hi, fun j hj => ?_⟩
 rw [Bool.not_eq_true']
 cases hq : hitB l b j with
 | false => rfl
 | true =>
  exfalso
  obtain ⟨h1, h2⟩ := (hit_iff _ _ _).1 hq
  rcases Nat.le_total (ln l i) (ln l j) with hle | hle
  ·have := word_free hr hi (by omega) h0 h1 (List.prefix_of_prefix_length_le hp h2 (by rw [wordB_len, wordB_len]; exact hle))
   omega
  ·have := word_free hr (by omega) hi h1 h0 (List.prefix_of_prefix_length_le h2 hp (by rw [wordB_len, wordB_len]; exact hle))
   omega
def decN (l : List Int) : Nat → List Bool → Option (List Nat × List Bool)
 | 0, b => some ([], b)
 | k + 1, b => match frontP l b with
  | none => none
  | some i => match decN l k (b.drop (ln l i)) with
   | none => none
   | some (ks, r) => some (i :: ks, r)
theorem dec_some {l : List Int} : ∀ (k : Nat) (b : List Bool) (ks : List Nat) (r : List Bool), decN l k b = some (ks, r) → ks.length = k ∧ b = encK l ks ++ r ∧ ∀ i ∈ ks, i < 16 ∧ 0 < ln l i
 | 0, b, ks, r, h => by
  rw [decN] at h
  injection h with h; injection h with h1 h2
  subst h1; subst h2
  exact ⟨rfl, rfl, by simp⟩
 | k + 1, b, ks, r, h => by
  rw [decN] at h
  cases hf : frontP l b with
  | none => rw [hf] at h; cases h
  | some i =>
   rw [hf] at h
   simp only at h
   cases hd : decN l k (b.drop (ln l i)) with
   | none => rw [hd] at h; cases h
   | some q =>
    obtain ⟨ks', r'⟩ := q
    rw [hd] at h
    simp only at h
    injection h with h; injection h with h1 h2
    subst h1; subst h2
    obtain ⟨e1, e2, e3⟩ := dec_some k _ _ _ hd
    obtain ⟨h1, h2, h3⟩ := front_some hf
    refine ⟨by rw [List.length_cons, e1], ?_, ?_⟩
    ·obtain ⟨t, ht⟩ := h3
     have h4 : b.drop (ln l i) = t := by rw [← ht, List.drop_append_of_le_length (by rw [wordB_len]; omega), List.drop_eq_nil_of_le (by rw [wordB_len]; omega), List.nil_append]
     rw [encK_cons, List.append_assoc, ← e2, h4, ht]
    ·intro j hj
     rcases List.mem_cons.1 hj with rfl | hj
     ·exact ⟨h1, h2⟩
     ·exact e3 j hj
theorem dec_enc {l : List Int} (hr : Right l) (r : List Bool) : ∀ (ks : List Nat), (∀ i ∈ ks, i < 16 ∧ 0 < ln l i) → decN l ks.length (encK l ks ++ r) = some (ks, r)
 | [], _ => rfl
 | i :: ks, h => by
  obtain ⟨h1, h2⟩ := h i (by simp)
  rw [List.length_cons, decN, encK_cons, List.append_assoc, front_hit hr h1 h2 ⟨_, rfl⟩]
  simp only
  rw [List.drop_append_of_le_length (by rw [wordB_len]; omega), List.drop_eq_nil_of_le (by rw [wordB_len]; omega), List.nil_append, dec_enc hr r ks fun j hj => h j (by simp [hj])]
def goodRest (r : List Bool) : Bool := decide (r.length < 8) && r.all (fun b => !b)
theorem goodRest_iff (r : List Bool) : goodRest r = true ↔ r.length < 8 ∧ r = zeros r.length := by
 unfold goodRest
 rw [Bool.and_eq_true, decide_eq_true_eq, List.all_eq_true]
 refine and_congr_right fun _ => ⟨fun h => List.eq_replicate_iff.2 ⟨rfl, fun b hb => by simpa using h b hb⟩, fun h b hb => ?_⟩
 rw [h] at hb
 simp [zeros] at hb
 rw [hb.2]; rfl
def readE (l : List Int) (b : Bytes) (n : Int) : Nat :=
 if checkE l ≠ 0 then checkE l else if n < 0 ∨ 1024 < n then 3 else
 match decN l (2 * n.toNat) (unpackB b) with
 | none => 1
 | some (_, r) => if goodRest r = true then 0 else 1
def readS (l : List Int) (b : Bytes) (n : Int) : Bytes :=
 if readE l b n ≠ 0 then [] else
 match decN l (2 * n.toNat) (unpackB b) with
 | none => []
 | some (ks, _) => half ks
structure DecAt (l : List Int) (U : List Bool) (N i : Nat) (ks : List Nat) (R : List Bool) : Prop where
 len : ks.length = i
 le : i ≤ N
 rest : decN l N U = (match decN l (N - i) R with
  | none => none
  | some (a, r) => some (ks ++ a, r))
 fine : ∀ k ∈ ks, k < 16 ∧ 0 < ln l k
 short : R.length ≤ U.length
theorem DecAt.start (l : List Int) (U : List Bool) (N : Nat) : DecAt l U N 0 [] U := by
 refine ⟨rfl, by omega, ?_, by simp, Nat.le_refl _⟩
 rw [Nat.sub_zero]
 cases decN l N U <;> rfl
theorem DecAt.step {l : List Int} {U R : List Bool} {N i k : Nat} {ks : List Nat} (h : DecAt l U N i ks R) (hi : i < N) (hf : frontP l R = some k) : DecAt l U N (i + 1) (ks ++ [k]) (R.drop (ln l k)) := by
 obtain ⟨h1, h2, h3⟩ := front_some hf
 refine ⟨by rw [List.length_append, h.len]; rfl, by omega, ?_, ?_, ?_⟩
 ·rw [h.rest, show N - i = (N - (i + 1)) + 1 from by omega, decN, hf]
  simp only
  cases decN l (N - (i + 1)) (R.drop (ln l k)) with
  | none => rfl
  | some q => obtain ⟨a, r⟩ := q; simp
 ·intro j hj
  rcases List.mem_append.1 hj with hj | hj
  ·exact h.fine j hj
  ·have : j = k := by simpa using hj
   subst this; exact ⟨h1, h2⟩
 ·have := h.short
  rw [List.length_drop]; omega
theorem DecAt.none {l : List Int} {U R : List Bool} {N i : Nat} {ks : List Nat} (h : DecAt l U N i ks R) (hi : i < N) (hf : frontP l R = none) : decN l N U = none := by
 rw [h.rest, show N - i = (N - (i + 1)) + 1 from by omega, decN, hf]
theorem DecAt.done {l : List Int} {U R : List Bool} {N : Nat} {ks : List Nat} (h : DecAt l U N N ks R) : decN l N U = some (ks, R) := by
 rw [h.rest, Nat.sub_self, decN]; simp
theorem half_odd {ks : List Nat} (h : ks.length % 2 = 1) (hk : ∀ k ∈ ks, k < 16) (b : Nat) :
  ∃ (h0 : Bytes) (a : Nat), a < 16 ∧ half ks = h0 ++ [UInt8.ofNat (16 * a)] ∧ half (ks ++ [b]) = h0 ++ [UInt8.ofNat (16 * a + b)] ∧ h0.length = ks.length / 2 := by
 have hne : ks ≠ [] := by intro e; rw [e] at h; simp at h
 obtain ⟨k0, a, rfl⟩ : ∃ k0 a, ks = k0 ++ [a] := ⟨ks.dropLast, ks.getLast hne, (List.dropLast_concat_getLast hne).symm⟩
 have h2 : k0.length % 2 = 0 := by rw [List.length_append, List.length_singleton] at h; omega
 refine ⟨half k0, a, hk a (by simp), half_app k0 [a] h2, ?_, ?_⟩
 ·rw [List.append_assoc, half_app k0 _ h2]; rfl
 ·rw [half_len, List.length_append, List.length_singleton]
theorem half_even {ks : List Nat} (h : ks.length % 2 = 0) (b : Nat) : half (ks ++ [b]) = half ks ++ [UInt8.ofNat (16 * b)] := half_app ks [b] h
theorem readE_code {l : List Int} {b : Bytes} {n : Int} (h : checkE l ≠ 0) : readE l b n = checkE l ∧ readS l b n = [] := by
 have : readE l b n = checkE l := by unfold readE; rw [if_pos h]
 exact ⟨this, by unfold readS; rw [if_pos (by omega)]⟩
theorem readE_range {l : List Int} {b : Bytes} {n : Int} (h : checkE l = 0) (h2 : n < 0 ∨ 1024 < n) : readE l b n = 3 ∧ readS l b n = [] := by
 have : readE l b n = 3 := by unfold readE; rw [if_neg (by omega), if_pos h2]
 exact ⟨this, by unfold readS; rw [if_pos (by omega)]⟩
theorem readE_none {l : List Int} {b : Bytes} {n : Int} (h : checkE l = 0) (h2 : ¬ (n < 0 ∨ 1024 < n)) (h3 : decN l (2 * n.toNat) (unpackB b) = none) : readE l b n = 1 ∧ readS l b n = [] := by
 have : readE l b n = 1 := by unfold readE; rw [if_neg (by omega), if_neg h2, h3]
 exact ⟨this, by unfold readS; rw [if_pos (by omega)]⟩
theorem readE_left {l : List Int} {b : Bytes} {n : Int} {ks : List Nat} {r : List Bool} (h : checkE l = 0) (h2 : ¬ (n < 0 ∨ 1024 < n)) (h3 : decN l (2 * n.toNat) (unpackB b) = some (ks, r)) (h4 : goodRest r = false) : readE l b n = 1 ∧ readS l b n = [] := by
 have : readE l b n = 1 := by unfold readE; rw [if_neg (by omega), if_neg h2, h3]; simp only [h4]; rfl
 exact ⟨this, by unfold readS; rw [if_pos (by omega)]⟩
theorem readE_ok {l : List Int} {b : Bytes} {n : Int} {ks : List Nat} {r : List Bool} (h : checkE l = 0) (h2 : ¬ (n < 0 ∨ 1024 < n)) (h3 : decN l (2 * n.toNat) (unpackB b) = some (ks, r)) (h4 : goodRest r = true) : readE l b n = 0 ∧ readS l b n = half ks := by
 have : readE l b n = 0 := by unfold readE; rw [if_neg (by omega), if_neg h2, h3]; simp only [h4]; rfl
 exact ⟨this, by unfold readS; rw [if_neg (by omega), h3]⟩
theorem dec_long {l : List Int} (hr : Right l) {b : Bytes} {n : Nat} (h : 4 * n < b.length) {ks : List Nat} {r : List Bool} (hd : decN l (2 * n) (unpackB b) = some (ks, r)) : goodRest r = false := by
 obtain ⟨h1, h2, h3⟩ := dec_some _ _ _ _ hd
 have hl := congrArg List.length h2
 rw [unpackB_len, List.length_append] at hl
 have := encK_len hr ks
 cases hg : goodRest r with
 | false => rfl
 | true =>
  have := ((goodRest_iff r).1 hg).1
  omega
theorem lacks_false {l : List Int} {ks : List Nat} (h : ∀ i ∈ ks, i < 16 ∧ 0 < ln l i) : lacks l ks = false := by
 unfold lacks
 rw [List.any_eq_false]
 intro k hk
 have := (h k hk).2
 simp; omega
theorem write_dec {l : List Int} (hc : checkE l = 0) {b : Bytes} {n : Nat} (hn : n ≤ 1024) {ks : List Nat} {r : List Bool} (hd : decN l (2 * n) (unpackB b) = some (ks, r)) :
  writeE l (half ks) = 0 ∧ (writeS l (half ks) = b ↔ goodRest r = true) ∧ (half ks).length = n := by
 obtain ⟨h1, h2, h3⟩ := dec_some _ _ _ _ hd
 have hl : (half ks).length = n := by rw [half_len]; omega
 have hnb : nibs (half ks) = ks := nibs_half ks (by omega) fun k hk => (h3 k hk).1
 have hw : writeE l (half ks) = 0 := by
  unfold writeE
  rw [if_neg (by omega), if_neg (by omega), hnb, lacks_false h3]; rfl
 refine ⟨hw, ?_, hl⟩
 unfold writeS
 rw [if_pos hw, hnb, goodRest_iff]
 exact pack_iff _ _ _ h2
end Pl
end Go.Proofs.YtjpgoeimclipjaaGreat
namespace Go.Proofs.YtjpgoeimclipjaaGreat
namespace Pl
theorem writeE_parts {l : List Int} {s : Bytes} (h : writeE l s = 0) : checkE l = 0 ∧ s.length ≤ 1024 ∧ lacks l (nibs s) = false := by
 unfold writeE at h
 by_cases h1 : checkE l = 0
 ·rw [if_neg (by omega)] at h
  by_cases h2 : 1024 < s.length
  ·rw [if_pos h2] at h; cases h
  ·rw [if_neg h2] at h
   cases h3 : lacks l (nibs s) with
   | true => rw [h3] at h; simp at h
   | false => exact ⟨h1, by omega, rfl⟩
 ·rw [if_pos h1] at h; exact absurd h h1
theorem code_read_write {l : List Int} (hr : Right l) {s : Bytes} (h : writeE l s = 0) : readE l (writeS l s) (s.length : Int) = 0 ∧ readS l (writeS l s) (s.length : Int) = s := by
 obtain ⟨h1, h2, h3⟩ := writeE_parts h
 have hk : ∀ i ∈ nibs s, i < 16 ∧ 0 < ln l i := fun i hi => by
  refine ⟨nibs_lt s i hi, ?_⟩
  unfold lacks at h3
  have := List.any_eq_false.1 h3 i hi
  simp at this; omega
 have hu : unpackB (writeS l s) = encK l (nibs s) ++ zeros (8 * (((encK l (nibs s)).length + 7) / 8) - (encK l (nibs s)).length) := by
  unfold writeS; rw [if_pos h]; exact unpack_packB _
 have hd := dec_enc hr (zeros (8 * (((encK l (nibs s)).length + 7) / 8) - (encK l (nibs s)).length)) (nibs s) hk
 rw [← hu, nibs_len] at hd
 have hg : goodRest (zeros (8 * (((encK l (nibs s)).length + 7) / 8) - (encK l (nibs s)).length)) = true := by
  rw [goodRest_iff, zeros_len]
  exact ⟨by omega, rfl⟩
 obtain ⟨e1, e2⟩ := readE_ok (l := l) (b := writeS l s) (n := (s.length : Int)) h1 (by omega) (by rw [Int.toNat_natCast]; exact hd) hg
 exact ⟨e1, by rw [e2, half_nibs]⟩
theorem code_write_read {l : List Int} {b : Bytes} {n : Int} (h : readE l b n = 0) : writeE l (readS l b n) = 0 ∧ writeS l (readS l b n) = b ∧ ((readS l b n).length : Int) = n := by
 have h1 : checkE l = 0 := by
  by_cases e : checkE l = 0
  ·exact e
  ·have := (readE_code (b := b) (n := n) e).1; omega
 have h2 : ¬ (n < 0 ∨ 1024 < n) := fun e => by have := (readE_range (b := b) h1 e).1; omega
 cases hd : decN l (2 * n.toNat) (unpackB b) with
 | none => have := (readE_none h1 h2 hd).1; omega
 | some q =>
  obtain ⟨ks, r⟩ := q
  cases hg : goodRest r with
  | false => have := (readE_left h1 h2 hd hg).1; omega
  | true =>
   obtain ⟨e1, e2⟩ := readE_ok h1 h2 hd hg
   obtain ⟨w1, w2, w3⟩ := write_dec h1 (n := n.toNat) (by omega) hd
   rw [e2]
   exact ⟨w1, w2.2 hg, by omega⟩
end Pl
end Go.Proofs.YtjpgoeimclipjaaGreat
namespace Go.Proofs.YtjpgoeimclipjaaGreat
namespace Pl
theorem val_hi (X : List Bool) {p : Nat} (h : p ≤ X.length) : val X / 2 ^ p = val (X.take (X.length - p)) := by
 have e : X = X.take (X.length - p) ++ X.drop (X.length - p) := (List.take_append_drop _ _).symm
 have hl : (X.drop (X.length - p)).length = p := by rw [List.length_drop]; omega
 have hv := val_app (X.take (X.length - p)) (X.drop (X.length - p))
 rw [← e, hl] at hv
 have hlt := val_lt (X.drop (X.length - p))
 rw [hl] at hlt
 rw [hv, Nat.mul_comm, Nat.mul_add_div (Nat.pow_pos (by omega)), Nat.div_eq_of_lt hlt]; omega
theorem val_lo (X : List Bool) {p : Nat} (h : p ≤ X.length) : val X % 2 ^ p = val (X.drop (X.length - p)) := by
 have e : X = X.take (X.length - p) ++ X.drop (X.length - p) := (List.take_append_drop _ _).symm
 have hl : (X.drop (X.length - p)).length = p := by rw [List.length_drop]; omega
 have hv := val_app (X.take (X.length - p)) (X.drop (X.length - p))
 rw [← e, hl] at hv
 have hlt := val_lt (X.drop (X.length - p))
 rw [hl] at hlt
 rw [hv, Nat.mul_comm, Nat.mul_add_mod, Nat.mod_eq_of_lt hlt]
theorem val_mid (X : List Bool) {a p : Nat} (h : a + 8 + p = X.length) : val X / 2 ^ p % 256 = val ((X.drop a).take 8) := by
 rw [val_hi X (by omega)]
 have h2 := val_lo (X.take (X.length - p)) (p := 8) (by rw [List.length_take]; omega)
 rw [show (256 : Nat) = 2 ^ 8 from rfl, h2, List.length_take, show min (X.length - p) X.length - 8 = a from by omega]
 congr 1
 rw [List.drop_take]
 congr 1; omega
structure Wait (X : List Bool) (n0 : Nat) (out : Bytes) (h left : Nat) : Prop where
 le : n0 ≤ out.length
 len : 8 * out.length + left = X.length
 pk : out = packN out.length X
 va : h = Pl.val (X.drop (8 * n0))
theorem Wait.step {X : List Bool} {n0 : Nat} {out : Bytes} {h left : Nat} (w : Wait X n0 out h left) (h8 : 8 ≤ left) (b : UInt8) (hb : b.toNat = h / 2 ^ (left - 8) % 256) : Wait X n0 (out ++ [b]) h (left - 8) := by
 obtain ⟨w1, w2, w3, w4⟩ := w
 refine ⟨by simp; omega, by simp; omega, ?_, w4⟩
 have e : val (X.drop (8 * n0)) / 2 ^ (left - 8) % 256 = val (((X.drop (8 * n0)).drop (8 * (out.length - n0))).take 8) := val_mid _ (by rw [List.length_drop]; omega)
 rw [List.drop_drop, show 8 * n0 + 8 * (out.length - n0) = 8 * out.length from by omega, ← w4, ← hb] at e
 rw [List.length_append, List.length_singleton, packN_snoc, ← w3]
 congr 2
 have hl : ((X.drop (8 * out.length)).take 8).length = 8 := by rw [List.length_take, List.length_drop]; omega
 apply UInt8.toNat_inj.1
 rw [byteOfB_nat (by omega), hl, e]; simp
theorem Wait.cut {X : List Bool} {n0 : Nat} {out : Bytes} {h left : Nat} (w : Wait X n0 out h left) : Wait X out.length out (h % 2 ^ left) left := by
 obtain ⟨w1, w2, w3, w4⟩ := w
 refine ⟨Nat.le_refl _, w2, w3, ?_⟩
 rw [w4, val_lo _ (by rw [List.length_drop]; omega), List.length_drop, List.drop_drop]
 congr 2; omega
theorem Wait.more {X : List Bool} {out : Bytes} {h left : Nat} (w : Wait X out.length out h left) (y : List Bool) : Wait (X ++ y) out.length out (h * 2 ^ y.length + val y) (left + y.length) := by
 obtain ⟨w1, w2, w3, w4⟩ := w
 refine ⟨Nat.le_refl _, by rw [List.length_append]; omega, ?_, ?_⟩
 ·have h1 : (X ++ y).take (8 * out.length) = X.take (8 * out.length) := List.take_append_of_le_length (by omega)
  have key : ∀ n (A B : List Bool), A.take (8 * n) = B.take (8 * n) → packN n A = packN n B := by
   intro n
   induction n with
   | zero => intro A B _; rfl
   | succ n ih =>
    intro A B hAB
    rw [packN, packN]
    have h8 : A.take 8 = B.take 8 := by
     have := congrArg (List.take 8) hAB
     rwa [List.take_take, List.take_take, Nat.min_eq_left (by omega)] at this
    have hd : (A.drop 8).take (8 * n) = (B.drop 8).take (8 * n) := by
     have := congrArg (List.drop 8) hAB
     rwa [List.drop_take, List.drop_take, show 8 * (n + 1) - 8 = 8 * n from by omega] at this
    rw [h8, ih _ _ hd]
  rw [key _ _ _ h1]; exact w3
 ·rw [w4, List.drop_append_of_le_length (by omega), val_app]
theorem Wait.lt {X : List Bool} {n0 : Nat} {out : Bytes} {h left : Nat} (w : Wait X n0 out h left) : h < 2 ^ (8 * (out.length - n0) + left) := by
 have := val_lt (X.drop (8 * n0))
 rw [← w.va, List.length_drop] at this
 have e : X.length - 8 * n0 = 8 * (out.length - n0) + left := by have := w.le; have := w.len; omega
 rwa [e] at this
theorem Wait.done {X : List Bool} {out : Bytes} {h : Nat} (w : Wait X out.length out h 0) : out = packB X := by
 have h1 := w.len
 have h2 := w.pk
 unfold packB
 rw [show (X.length + 7) / 8 = out.length from by omega]; exact h2
theorem Wait.last {X : List Bool} {out : Bytes} {h left : Nat} (w : Wait X out.length out h left) (h0 : 0 < left) (h8 : left < 8) (b : UInt8) (hb : b.toNat = h * 2 ^ (8 - left)) : out ++ [b] = packB X := by
 have h1 := w.len
 have h2 := w.pk
 have h3 := w.va
 unfold packB
 rw [show (X.length + 7) / 8 = out.length + 1 from by omega, packN_snoc, ← h2]
 congr 2
 have hl : (X.drop (8 * out.length)).length = left := by rw [List.length_drop]; omega
 rw [List.take_of_length_le (by omega)]
 apply UInt8.toNat_inj.1
 rw [byteOfB_nat (by omega), hl, hb, h3]
theorem nibs_get : ∀ {s : Bytes} {q : Nat} {c : UInt8}, s[q]? = some c → (nibs s)[2 * q]? = some (c.toNat / 16) ∧ (nibs s)[2 * q + 1]? = some (c.toNat % 16)
 | [], q, c, h => by simp at h
 | d :: s, 0, c, h => by simp at h; subst h; simp [nibs_cons]
 | d :: s, q + 1, c, h => by
  have := nibs_get (s := s) (q := q) (c := c) (by simpa using h)
  rw [nibs_cons, show 2 * (q + 1) = 2 * q + 1 + 1 from by omega]
  simpa using this
structure WSt (l : List Int) (s : Bytes) (i : Nat) (out : Bytes) (h left : Nat) : Prop where
 wait : Wait (encK l ((nibs s).take i)) out.length out h left
 lt : left < 8
 has : lacks l ((nibs s).take i) = false
theorem WSt.start (l : List Int) (s : Bytes) : WSt l s 0 [] 0 0 := ⟨⟨Nat.le_refl _, rfl, rfl, rfl⟩, by omega, rfl⟩
theorem encK_snoc {l : List Int} {ks : List Nat} {i k : Nat} (h : ks[i]? = some k) : encK l (ks.take (i + 1)) = encK l (ks.take i) ++ wordB l k := by
 rw [List.take_add_one, h, encK_app]; simp [encK]
theorem lacks_snoc {l : List Int} {ks : List Nat} {i k : Nat} (h : ks[i]? = some k) : lacks l (ks.take (i + 1)) = (lacks l (ks.take i) || decide (ln l k = 0)) := by
 rw [List.take_add_one, h]; simp [lacks]
theorem lacks_of_take {l : List Int} {ks : List Nat} {i : Nat} (h : lacks l (ks.take i) = true) : lacks l ks = true := by
 unfold lacks at h ⊢
 rw [List.any_eq_true] at h ⊢
 obtain ⟨x, hx, hb⟩ := h
 exact ⟨x, List.mem_of_mem_take hx, hb⟩
theorem WSt.next {l : List Int} {s : Bytes} {i k : Nat} {out : Bytes} {h left : Nat} (hr : Right l) (w : WSt l s i out h left) (hk : (nibs s)[i]? = some k) (hk16 : k < 16) (h0 : 0 < ln l k) :
  Wait (encK l ((nibs s).take (i + 1))) out.length out (h * 2 ^ ln l k + wv l k) (left + ln l k) ∧ lacks l ((nibs s).take (i + 1)) = false ∧ h < 128 := by
 have h1 := w.wait.more (wordB l k)
 rw [wordB_len, wordB_val hr hk16 h0, ← encK_snoc hk] at h1
 refine ⟨h1, ?_, ?_⟩
 ·rw [lacks_snoc hk, w.has]; simp; omega
 ·have h2 := w.wait.lt
  have h3 := w.lt
  have h4 : 2 ^ (8 * (out.length - out.length) + left) ≤ 2 ^ 7 := Nat.pow_le_pow_right (by omega) (by omega)
  omega
end Pl
end Go.Proofs.YtjpgoeimclipjaaGreat
namespace Go.Proofs.YtjpgoeimclipjaaGreat
namespace Pl
def cntN (ks : List Nat) : List Int := Lf fun i => ((ks.count i : Nat) : Int)
theorem cntN_len (ks : List Nat) : (cntN ks).length = 16 := Lf_len _
theorem Lf_getD (f : Nat → Int) {i : Nat} (h : i < 16) : (Lf f).getD i 0 = f i := by rw [List.getD_eq_getElem?_getD, Lf_get f h]; rfl
theorem cntN_get (ks : List Nat) {i : Nat} (h : i < 16) : (cntN ks)[i]? = some ((ks.count i : Nat) : Int) := Lf_get _ h
theorem cntN_snoc (ks : List Nat) (k : Nat) : (cntN ks).set k ((ks.count k : Nat) + 1 : Int) = cntN (ks ++ [k]) := by
 unfold cntN
 rw [Lf_set]
 refine Lf_congr fun i _ => ?_
 rw [List.count_append, List.count_singleton]
 by_cases h : i = k
 ·subst h; simp
 ·rw [if_neg h, if_neg (by simpa using fun e => h e.symm)]; simp
theorem cntN_nil : cntN [] = Lf fun _ => 0 := by unfold cntN; simp
theorem cntN_fine {ks : List Nat} (h : ks.length ≤ 2048) : fineB (cntN ks) = true :=
 fine_of_all fun x hx => by
  unfold cntN Lf at hx
  obtain ⟨i, _, rfl⟩ := List.mem_map.1 hx
  have := List.count_le_length (a := i) (l := ks)
  omega
theorem cntN_build {ks : List Nat} (h : ks.length ≤ 2048) (h0 : ks ≠ []) (h16 : ∀ k ∈ ks, k < 16) : buildE (cntN ks) = 0 := by
 refine buildE_ok (cntN_fine h) ?_
 cases ks with
 | nil => exact absurd rfl h0
 | cons k r =>
  have hk := h16 k (by simp)
  have : (cn (cntN (k :: r)) k, [k]) ∈ fulF (cntN (k :: r)) := mem_startF.2 ⟨k, hk, by
   unfold cntN; rw [Lf_getD _ hk, List.count_cons_self]; omega, rfl⟩
  have := List.length_pos_of_mem this
  omega
theorem cntN_none : buildE (cntN []) = 5 := by rw [cntN_nil]; decide +kernel
theorem lens_lacks {ks : List Nat} (h : ks.length ≤ 2048) (h16 : ∀ k ∈ ks, k < 16) : lacks (lensOf (cntN ks)) ks = false := by
 unfold lacks
 rw [List.any_eq_false]
 intro k hk
 have hb := cntN_build h (List.ne_nil_of_mem hk) h16
 have hl := (lack_iff (by rw [lensOf_len, cntN_len])).1 (lens_has (cntN_len ks) hb) k (by rw [lensOf_len]; exact h16 k hk)
 have hc : 0 < (cntN ks).getD k 0 := by
  unfold cntN; rw [Lf_getD _ (h16 k hk)]
  have := List.count_pos_iff.2 hk; omega
 have h0 := (checkE_zero (lens_right hb)).1 _ (getD_mem (l := lensOf (cntN ks)) (j := k) (by rw [lensOf_len]; exact h16 k hk))
 unfold ln
 simp only [decide_eq_true_eq]
 intro e
 exact hl ⟨hc, by omega⟩
def hdB (l : List Int) : Bytes := (List.range 8).map fun i => UInt8.ofNat (16 * ln l (2 * i) + ln l (2 * i + 1))
theorem hdB_len (l : List Int) : (hdB l).length = 8 := by simp [hdB]
def unHd (b : Bytes) : List Int := (nibs (b.take 8)).map Int.ofNat
theorem unHd_hdB {l : List Int} (hl : l.length = 16) (h : ∀ x ∈ l, 0 ≤ x ∧ x ≤ 15) (r : Bytes) : unHd (hdB l ++ r) = l := by
 unfold unHd
 rw [List.take_left' (hdB_len l)]
 match l, hl with
 | [a0, a1, a2, a3, a4, a5, a6, a7, a8, a9, a10, a11, a12, a13, a14, a15], _ =>
  simp only [List.mem_cons, List.not_mem_nil, or_false, forall_eq_or_imp, forall_eq] at h
  obtain ⟨h0, h1, h2, h3, h4, h5, h6, h7, h8, h9, h10, h11, h12, h13, h14, h15⟩ := h
  have e : ∀ a b : Int, 0 ≤ a ∧ a ≤ 15 → 0 ≤ b ∧ b ≤ 15 → (((UInt8.ofNat (16 * a.toNat + b.toNat)).toNat / 16 : Nat) : Int) = a ∧ (((UInt8.ofNat (16 * a.toNat + b.toNat)).toNat % 16 : Nat) : Int) = b := fun a b ha hb => by
   rw [UInt8.toNat_ofNat']
   have : (16 * a.toNat + b.toNat) % 2 ^ 8 = 16 * a.toNat + b.toNat := Nat.mod_eq_of_lt (by omega)
   rw [this]; omega
  simp only [hdB, ln, List.range, List.range.loop, List.map_cons, List.map_nil, nibs, List.flatMap_cons, List.flatMap_nil, List.cons_append, List.nil_append, List.getD_cons_zero, List.getD_cons_succ, Nat.mul_zero, Int.ofNat_eq_natCast]
  rw [(e a0 a1 h0 h1).1, (e a0 a1 h0 h1).2, (e a2 a3 h2 h3).1, (e a2 a3 h2 h3).2, (e a4 a5 h4 h5).1, (e a4 a5 h4 h5).2, (e a6 a7 h6 h7).1, (e a6 a7 h6 h7).2, (e a8 a9 h8 h9).1, (e a8 a9 h8 h9).2, (e a10 a11 h10 h11).1, (e a10 a11 h10 h11).2, (e a12 a13 h12 h13).1, (e a12 a13 h12 h13).2, (e a14 a15 h14 h15).1, (e a14 a15 h14 h15).2]
theorem unHd_len {b : Bytes} (h : 8 ≤ b.length) : (unHd b).length = 16 := by unfold unHd; rw [List.length_map, nibs_len, List.length_take]; omega
theorem unHd_get {b : Bytes} {q : Nat} {c : UInt8} (hq : q < 8) (hc : b[q]? = some c) : (unHd b)[2 * q]? = some ((c.toNat / 16 : Nat) : Int) ∧ (unHd b)[2 * q + 1]? = some ((c.toNat % 16 : Nat) : Int) := by
 unfold unHd
 have hc2 : (b.take 8)[q]? = some c := by rw [List.getElem?_take]; simp [hq, hc]
 obtain ⟨h1, h2⟩ := @nibs_get (b.take 8) q c hc2
 rw [List.getElem?_map, List.getElem?_map, h1, h2]
 exact ⟨rfl, rfl⟩
def lensS (s : Bytes) : List Int := lensOf (cntN (nibs s))
def third (s : Bytes) : Bytes := 2 :: (hdB (lensS s) ++ nb s.length ++ writeS (lensS s) s)
def decodeO (L : List Int) (X : Bytes) : Option Bytes :=
 match take X with
 | none => none
 | some (n, r) => if readE L r (n : Int) = 0 then some (readS L r (n : Int)) else none
theorem decodeO_none {L : List Int} {X : Bytes} (h : take X = none) : decodeO L X = none := by unfold decodeO; rw [h]
theorem decodeO_some {L : List Int} {X r : Bytes} {n : Nat} (h : take X = some (n, r)) : decodeO L X = if readE L r (n : Int) = 0 then some (readS L r (n : Int)) else none := by unfold decodeO; rw [h]
def decoded (s : Bytes) : Option Bytes := if s.length < 8 then none else decodeO (unHd s) (s.drop 8)
theorem nibs_ne {s : Bytes} (h : s ≠ []) : nibs s ≠ [] := by
 cases s with
 | nil => exact absurd rfl h
 | cons c s => rw [nibs_cons]; exact List.cons_ne_nil _ _
theorem lensS_build {s : Bytes} (h : s ≠ []) (hs : s.length ≤ 1024) : buildE (cntN (nibs s)) = 0 :=
 cntN_build (by rw [nibs_len]; omega) (nibs_ne h) (nibs_lt s)
theorem decoded_third {s : Bytes} (h : s ≠ []) (hs : s.length ≤ 1024) : decoded (third s).tail = some s := by
 have hb := lensS_build h hs
 have hr : checkE (lensS s) = 0 := lens_right hb
 have hl : (lensS s).length = 16 := lensOf_len _
 have hlk : lacks (lensS s) (nibs s) = false := lens_lacks (by rw [nibs_len]; omega) (nibs_lt s)
 have hw : writeE (lensS s) s = 0 := by unfold writeE; rw [if_neg (by omega), if_neg (by omega), hlk]; rfl
 obtain ⟨e1, e2⟩ := code_read_write (right_of hl hr) hw
 have ht : (third s).tail = hdB (lensS s) ++ (nb s.length ++ writeS (lensS s) s) := by unfold third; rw [List.tail_cons, List.append_assoc]
 rw [ht]
 unfold decoded
 rw [if_neg (by rw [List.length_append, hdB_len]; omega), List.drop_left' (hdB_len _), decodeO_some (take_nb (by unfold maxNum; omega) _)]
 rw [unHd_hdB hl (checkE_zero hr).1, e1, if_pos rfl, e2]
def playO (dict s : Bytes) : Option Bytes := (read dict s).map fun l => (play dict l).1
def unpackO (dict : Bytes) : Bytes → Option Bytes
 | [] => none
 | k :: s => if k = 0 then (if s.length ≤ 512 then some s else none) else if k = 1 then playO dict s else if k = 2 then (decoded s).bind (playO dict) else none
def pack1 (text s : Bytes) : Bytes := if s.length + 1 < text.length + 1 then 1 :: s else 0 :: text
def pack2 (text s : Bytes) : Bytes := if s ≠ [] ∧ (third s).length < (pack1 text s).length then third s else pack1 text s
def pack (dict text : Bytes) : Bytes := pack2 text (toksB (parse dict text))
theorem tokB_len {d : Nat} {s : Bytes} {b : Bool} {t : Tok} (h : tokE d s b t = 0) (hs : s.length ≤ 768) : (tokB t).length + 2 * s.length ≤ 2 * (tokS s t).length := by
 unfold tokE at h
 unfold tokS tokB
 have n2 : ∀ n, n < 16384 → (nb n).length ≤ 2 := fun n hn => nb_len 1 n (by omega)
 have n1 : ∀ n, n < 128 → (nb n).length ≤ 1 := fun n hn => nb_len 0 n (by omega)
 by_cases h1 : t.lit ≠ []
 ·rw [if_pos h1] at h ⊢
  rw [if_pos h1]
  have hl : 0 < t.lit.length := List.length_pos_iff.2 h1
  rw [List.length_append, List.length_append]
  split at h
  ·omega
  ·split at h
   ·omega
   ·by_cases h2 : t.lit.length = 1
    ·have := n1 (2 * t.lit.length) (by omega); omega
    ·have := n2 (2 * t.lit.length) (by omega); omega
 ·rw [if_neg h1] at h ⊢
  rw [if_neg h1, copyB_len, List.length_append]
  split at h
  ·omega
  ·have a := n2 (2 * t.len.toNat + 1) (by omega)
   have b := n2 t.far.toNat (by omega)
   omega
theorem toksB_len (d : Nat) : ∀ (l : List Tok) (s : Bytes) (b : Bool), (playF d s b l).2 = 0 → d ≤ s.length → s.length - d ≤ 512 → d ≤ 256 → (toksB l).length + 2 * (s.length - d) ≤ 1024
 | [], s, _, _, h, h2, _ => by rw [toksB]; simp; omega
 | t :: l, s, b, h, hd, hr, h256 => by
  rw [playF] at h
  by_cases he : tokE d s b t ≠ 0
  ·rw [if_pos he] at h; exact absurd h he
  ·rw [if_neg he] at h
   have he0 := Decidable.not_not.1 he
   obtain ⟨h1, h2⟩ := tokS_grow he0 hd
   have := toksB_len d l _ _ h (by omega) h2 h256
   have := tokB_len he0 (by omega)
   rw [toksB, List.length_append]; omega
theorem toksB_small {dict : Bytes} {l : List Tok} (h : (play dict l).2 = 0) : (toksB l).length ≤ 1024 := by
 unfold play at h
 by_cases e : maxDict < dict.length
 ·rw [if_pos e] at h; exact absurd h (by decide)
 ·rw [if_neg e] at h
  have := toksB_len dict.length l dict false h (Nat.le_refl _) (by omega) (by unfold maxDict at e; omega)
  omega
theorem parse_small {dict text : Bytes} (hd : dict.length ≤ 256) (ht : text.length ≤ 512) : (toksB (parse dict text)).length ≤ 1024 :=
 toksB_small (dict := dict) (by rw [play_parse hd ht])
theorem write_parse {dict text : Bytes} (hd : dict.length ≤ 256) (ht : text.length ≤ 512) : write dict (parse dict text) = (toksB (parse dict text), 0) := by
 unfold write; rw [play_parse hd ht]; exact if_neg (by omega)
theorem playO_parse {dict text : Bytes} (hd : dict.length ≤ 256) (ht : text.length ≤ 512) : playO dict (toksB (parse dict text)) = some text := by
 have h := read_write (dict := dict) (l := parse dict text) (by rw [write_parse hd ht])
 rw [write_parse hd ht] at h
 simp only at h
 unfold playO
 rw [h]
 simp only [Option.map_some]
 rw [play_parse hd ht]
theorem unpack_third {dict s : Bytes} (h : s ≠ []) (hs : s.length ≤ 1024) : unpackO dict (third s) = playO dict s := by
 have h1 : third s = 2 :: (third s).tail := rfl
 rw [h1, unpackO, if_neg (by decide), if_neg (by decide), if_pos rfl, decoded_third h hs]
 rfl
theorem unpack_pack {dict text : Bytes} (hd : dict.length ≤ 256) (ht : text.length ≤ 512) : unpackO dict (pack dict text) = some text := by
 unfold pack pack2
 split
 ·rename_i h
  rw [unpack_third h.1 (parse_small hd ht)]
  exact playO_parse hd ht
 ·unfold pack1
  split
  ·rw [unpackO, if_neg (by decide), if_pos rfl]
   exact playO_parse hd ht
  ·rw [unpackO, if_pos rfl, if_pos ht]
end Pl
end Go.Proofs.YtjpgoeimclipjaaGreat
namespace Go.Proofs.YtjpgoeimclipjaaGreat
namespace Pl
def stands (p : Bytes) : Bytes → Bool
 | [] => p.isEmpty
 | c :: t => p.isPrefixOf (c :: t) || stands p t
theorem stands_iff (p : Bytes) : ∀ t : Bytes, stands p t = true ↔ ∃ a b, t = a ++ p ++ b
 | [] => by
  simp only [stands, List.isEmpty_iff]
  constructor
  ·rintro rfl; exact ⟨[], [], rfl⟩
  ·rintro ⟨a, b, h⟩
   have := congrArg List.length h
   simp at this
   exact List.eq_nil_of_length_eq_zero (by omega)
 | c :: t => by
  simp only [stands, Bool.or_eq_true, List.isPrefixOf_iff_prefix]
  rw [stands_iff p t]
  constructor
  ·rintro (⟨b, h⟩ | ⟨a, b, h⟩)
   ·exact ⟨[], b, by simp [h]⟩
   ·exact ⟨c :: a, b, by simp [h]⟩
  ·rintro ⟨a, b, h⟩
   cases a with
   | nil => exact .inl ⟨b, by simpa using h.symm⟩
   | cons d a =>
    simp at h
    exact .inr ⟨a, b, by simp [h.2]⟩
theorem stands_app {p t : Bytes} (x : Bytes) (h : stands p t = true) : stands p (x ++ t) = true := by
 obtain ⟨a, b, rfl⟩ := (stands_iff p t).1 h
 exact (stands_iff p _).2 ⟨x ++ a, b, by simp⟩
theorem stands_head (p t : Bytes) : stands p (p ++ t) = true := (stands_iff p _).2 ⟨[], t, by simp⟩
def piece (t : Bytes) (k : Nat) : Bytes := slice t k (k + 4)
def piecesOf (t : Bytes) : List Bytes := (List.range (t.length - 3)).map (piece t)
theorem piece_len {t : Bytes} {k : Nat} (h : k < t.length - 3) : (piece t k).length = 4 := by unfold piece; rw [slice_len]; omega
theorem piecesOf_get {t : Bytes} {k : Nat} (h : k < t.length - 3) : (piecesOf t)[k]? = some (piece t k) := by unfold piecesOf; rw [List.getElem?_map, List.getElem?_range h]; rfl
theorem piecesOf_len (t : Bytes) : (piecesOf t).length = t.length - 3 := by simp [piecesOf]
theorem slice_split {t : Bytes} {a b : Nat} (h : a ≤ b) : t = t.take a ++ slice t a b ++ t.drop b := by
 unfold slice
 have h1 : t.take a ++ (t.take b).drop a = t.take b := by
  have : t.take a = (t.take b).take a := by rw [List.take_take, Nat.min_eq_left h]
  rw [this, List.take_append_drop]
 rw [h1, List.take_append_drop]
theorem mem_piecesOf {p t : Bytes} (hp : p.length = 4) : p ∈ piecesOf t ↔ stands p t = true := by
 rw [stands_iff]
 unfold piecesOf
 simp only [List.mem_map, List.mem_range]
 constructor
 ·rintro ⟨k, hk, rfl⟩
  exact ⟨t.take k, t.drop (k + 4), slice_split (by omega)⟩
 ·rintro ⟨a, b, rfl⟩
  refine ⟨a.length, by simp; omega, ?_⟩
  unfold piece slice
  have : a.length + 4 = (a ++ p).length := by simp [hp]
  rw [this, List.take_left' rfl, List.drop_left' rfl]
theorem mem_piecesOf_len {p t : Bytes} (h : p ∈ piecesOf t) : p.length = 4 := by
 unfold piecesOf at h
 simp only [List.mem_map, List.mem_range] at h
 obtain ⟨k, hk, rfl⟩ := h
 exact piece_len hk
def cnt (l : List Bytes) (p : Bytes) : Nat := (l.filter (stands p)).length
def allPieces (l : List Bytes) : List Bytes := l.flatMap piecesOf
theorem cnt_pos {l : List Bytes} {p : Bytes} (hp : p.length = 4) : 0 < cnt l p ↔ p ∈ allPieces l := by
 unfold cnt allPieces
 rw [List.length_pos_iff_exists_mem]
 simp only [List.mem_filter, List.mem_flatMap]
 constructor
 ·rintro ⟨t, h1, h2⟩; exact ⟨t, h1, (mem_piecesOf hp).2 h2⟩
 ·rintro ⟨t, h1, h2⟩; exact ⟨t, h1, (mem_piecesOf hp).1 h2⟩
theorem cnt_le (l : List Bytes) (p : Bytes) : cnt l p ≤ l.length := List.length_filter_le _ _
theorem allPieces_len {l : List Bytes} {p : Bytes} (h : p ∈ allPieces l) : p.length = 4 := by
 unfold allPieces at h
 obtain ⟨t, _, ht⟩ := List.mem_flatMap.1 h
 exact mem_piecesOf_len ht
def lessB : Bytes → Bytes → Bool
 | _, [] => false
 | [], _ :: _ => true
 | a :: x, b :: y => a < b || (a == b && lessB x y)
theorem lessB_irrefl : ∀ a : Bytes, lessB a a = false
 | [] => rfl
 | a :: x => by
  have : ¬ a < a := by rw [UInt8.lt_iff_toNat_lt]; omega
  simp [lessB, lessB_irrefl x, this]
theorem lessB_trans : ∀ {a b c : Bytes}, lessB a b = true → lessB b c = true → lessB a c = true
 | _, _, [], _, h2 => by cases ‹Bytes› <;> simp [lessB] at h2
 | _, [], _ :: _, h1, _ => by cases ‹Bytes› <;> simp [lessB] at h1
 | [], _ :: _, _ :: _, _, _ => rfl
 | a :: x, b :: y, c :: z, h1, h2 => by
  simp only [lessB, Bool.or_eq_true, decide_eq_true_eq, Bool.and_eq_true, beq_iff_eq] at h1 h2 ⊢
  simp only [UInt8.lt_iff_toNat_lt] at h1 h2 ⊢
  rcases h1 with h1 | ⟨rfl, h1⟩
  ·rcases h2 with h2 | ⟨rfl, h2⟩
   ·exact .inl (by omega)
   ·exact .inl h1
  ·rcases h2 with h2 | ⟨rfl, h2⟩
   ·exact .inl h2
   ·exact .inr ⟨rfl, lessB_trans h1 h2⟩
theorem lessB_total : ∀ {a b : Bytes}, lessB a b = false → lessB b a = false → a = b
 | [], [], _, _ => rfl
 | [], _ :: _, h, _ => by simp [lessB] at h
 | _ :: _, [], _, h => by simp [lessB] at h
 | a :: x, b :: y, h1, h2 => by
  simp only [lessB, Bool.or_eq_false_iff, decide_eq_false_iff_not, Bool.and_eq_false_iff] at h1 h2
  simp only [UInt8.lt_iff_toNat_lt] at h1 h2
  obtain ⟨h1, h3⟩ := h1
  obtain ⟨h2, h4⟩ := h2
  have e : a = b := by apply UInt8.toNat_inj.1; omega
  subst e
  rcases h3 with h3 | h3
  ·simp at h3
  ·rcases h4 with h4 | h4
   ·simp at h4
   ·rw [lessB_total h3 h4]
def better (a b : Bytes × Nat) : Bool := decide (b.2 < a.2) || (a.2 == b.2 && lessB a.1 b.1)
theorem better_irrefl (a : Bytes × Nat) : better a a = false := by simp [better, lessB_irrefl]
theorem better_trans {a b c : Bytes × Nat} (h1 : better a b = true) (h2 : better b c = true) : better a c = true := by
 simp only [better, Bool.or_eq_true, decide_eq_true_eq, Bool.and_eq_true, beq_iff_eq] at h1 h2 ⊢
 rcases h1 with h1 | ⟨e1, h1⟩
 ·rcases h2 with h2 | ⟨e2, h2⟩
  ·exact .inl (by omega)
  ·exact .inl (by omega)
 ·rcases h2 with h2 | ⟨e2, h2⟩
  ·exact .inl (by omega)
  ·exact .inr ⟨by omega, lessB_trans h1 h2⟩
theorem better_total {a b : Bytes × Nat} (h1 : better a b = false) (h2 : better b a = false) : a = b := by
 simp only [better, Bool.or_eq_false_iff, decide_eq_false_iff_not, Bool.and_eq_false_iff] at h1 h2
 obtain ⟨x, n⟩ := a
 obtain ⟨y, m⟩ := b
 simp only at h1 h2
 have e : n = m := by omega
 subst e
 have h3 : lessB x y = false := by rcases h1.2 with h | h; simp at h; exact h
 have h4 : lessB y x = false := by rcases h2.2 with h | h; simp at h; exact h
 rw [lessB_total h3 h4]
def greedy (size : Nat) : Bytes → List Bytes → Bytes
 | dict, [] => dict
 | dict, p :: c => if size < dict.length + 4 then dict else if stands p dict then greedy size dict c else greedy size (p ++ dict) c
structure Cands (l : List Bytes) (c : List Bytes) : Prop where
 mem : ∀ p, p ∈ c ↔ p ∈ allPieces l ∧ 1 < cnt l p
 sorted : c.Pairwise fun a b => better (a, cnt l a) (b, cnt l b) = true
def bestStep (l : List Bytes) (dict : Bytes) (b : Bytes × Nat) (p : Bytes) : Bytes × Nat :=
 if ((b.2 < cnt l p) ∨ (cnt l p = b.2 ∧ 1 < cnt l p ∧ lessB p b.1 = true)) ∧ stands p dict = false then (p, cnt l p) else b
def bestOf (l : List Bytes) (dict : Bytes) (ps : List Bytes) : Bytes × Nat := ps.foldl (bestStep l dict) ([], 1)
def trainR (l : List Bytes) (size : Nat) : Nat → Bytes → Bytes
 | 0, dict => dict
 | f + 1, dict => if dict.length + 4 ≤ size then (if (bestOf l dict (allPieces l)).1 = [] then dict else trainR l size f ((bestOf l dict (allPieces l)).1 ++ dict)) else dict
def IsBest (l : List Bytes) (dict : Bytes) (ps : List Bytes) (b : Bytes × Nat) : Prop :=
 (b = ([], 1) ∧ ∀ q ∈ ps, 1 < cnt l q → stands q dict = true) ∨
 (b.1 ∈ ps ∧ b.2 = cnt l b.1 ∧ 1 < b.2 ∧ stands b.1 dict = false ∧ ∀ q ∈ ps, 1 < cnt l q → stands q dict = false → q = b.1 ∨ better b (q, cnt l q) = true)
theorem isBest_step {l : List Bytes} {dict : Bytes} {ps : List Bytes} {b : Bytes × Nat} (h : IsBest l dict ps b) (p : Bytes) (hne : p ≠ []) : IsBest l dict (ps ++ [p]) (bestStep l dict b p) := by
 unfold bestStep
 by_cases hc : ((b.2 < cnt l p) ∨ (cnt l p = b.2 ∧ 1 < cnt l p ∧ lessB p b.1 = true)) ∧ stands p dict = false
 ·rw [if_pos hc]
  obtain ⟨hc, hs⟩ := hc
  right
  rcases h with ⟨rfl, h⟩ | ⟨h1, h2, h3, h4, h5⟩
  ·have hp : 1 < cnt l p := by rcases hc with hc | hc <;> simp at hc <;> omega
   refine ⟨by simp, rfl, hp, hs, fun q hq hq1 hq2 => ?_⟩
   rcases List.mem_append.1 hq with hq | hq
   ·rw [h q hq hq1] at hq2; cases hq2
   ·exact .inl (by simpa using hq)
  ·have hp : 1 < cnt l p := by rcases hc with hc | hc <;> omega
   have hb : better (p, cnt l p) b = true := by
    simp only [better, Bool.or_eq_true, decide_eq_true_eq, Bool.and_eq_true, beq_iff_eq]
    rcases hc with hc | ⟨hc, _, hl⟩
    ·exact .inl hc
    ·exact .inr ⟨hc, hl⟩
   refine ⟨by simp, rfl, hp, hs, fun q hq hq1 hq2 => ?_⟩
   rcases List.mem_append.1 hq with hq | hq
   ·rcases h5 q hq hq1 hq2 with e | h6
    ·right; rw [e]
     have : (b.1, cnt l b.1) = b := by rw [← h2]
     rw [this]; exact hb
    ·exact .inr (better_trans hb h6)
   ·exact .inl (by simpa using hq)
 ·rw [if_neg hc]
  rcases h with ⟨rfl, h⟩ | ⟨h1, h2, h3, h4, h5⟩
  ·left
   refine ⟨rfl, fun q hq hq1 => ?_⟩
   rcases List.mem_append.1 hq with hq | hq
   ·exact h q hq hq1
   ·have hq : q = p := by simpa using hq
    subst hq
    cases hs : stands q dict with
    | true => rfl
    | false => exact absurd ⟨.inl hq1, hs⟩ hc
  ·right
   refine ⟨by simp [h1], h2, h3, h4, fun q hq hq1 hq2 => ?_⟩
   rcases List.mem_append.1 hq with hq | hq
   ·exact h5 q hq hq1 hq2
   ·have hq : q = p := by simpa using hq
    subst hq
    by_cases e : q = b.1
    ·exact .inl e
    ·right
     have hn : ¬ (b.2 < cnt l q ∨ (cnt l q = b.2 ∧ 1 < cnt l q ∧ lessB q b.1 = true)) := fun h => hc ⟨h, hq2⟩
     simp only [not_or, not_and] at hn
     simp only [better, Bool.or_eq_true, decide_eq_true_eq, Bool.and_eq_true, beq_iff_eq]
     by_cases h6 : cnt l q < b.2
     ·exact .inl h6
     ·have h7 : b.2 = cnt l q := by omega
      refine .inr ⟨h7, ?_⟩
      have h8 := hn.2 h7.symm hq1
      cases h9 : lessB b.1 q with
      | true => rfl
      | false => exact absurd (lessB_total (by simpa using h8) h9) e
theorem bestOf_is (l : List Bytes) (dict : Bytes) (ps : List Bytes) (hne : ∀ p ∈ ps, p ≠ []) : IsBest l dict ps (bestOf l dict ps) := by
 have key : ∀ (ps done : List Bytes) (b : Bytes × Nat), (∀ p ∈ ps, p ≠ []) → IsBest l dict done b → IsBest l dict (done ++ ps) (ps.foldl (bestStep l dict) b) := by
  intro ps
  induction ps with
  | nil => intro done b _ h; simpa using h
  | cons p ps ih =>
   intro done b hn h
   have := ih (done ++ [p]) _ (fun q hq => hn q (by simp [hq])) (isBest_step h p (hn p (by simp)))
   simpa using this
 have := key ps [] ([], 1) hne (.inl ⟨rfl, by simp⟩)
 unfold bestOf
 simpa using this
theorem trainR_greedy {l c : List Bytes} (size : Nat) (hc : Cands l c) : ∀ (f : Nat) (dict : Bytes) (done rest : List Bytes), c = done ++ rest → (∀ p ∈ done, stands p dict = true) → size < dict.length + 4 + 4 * f →
  trainR l size f dict = greedy size dict rest := by
 intro f
 induction f with
 | zero =>
  intro dict done rest h1 h2 h3
  rw [trainR]
  cases rest with
  | nil => rfl
  | cons p rest => rw [greedy, if_pos (by omega)]
 | succ f ih =>
  intro dict done rest
  induction rest generalizing done with
  | nil =>
   intro h1 h2 h3
   rw [trainR, greedy]
   have hb := bestOf_is l dict (allPieces l) (fun p hp e => by have := allPieces_len hp; rw [e] at this; simp at this)
   rcases hb with ⟨hb, _⟩ | ⟨h4, h5, h6, h7, _⟩
   ·rw [hb]; simp
   ·have hm := (hc.mem (bestOf l dict (allPieces l)).1).2 ⟨h4, by omega⟩
    rw [h1, List.append_nil] at hm
    rw [h2 _ hm] at h7; cases h7
  | cons p rest ih2 =>
   intro h1 h2 h3
   by_cases hz : size < dict.length + 4
   ·rw [trainR, greedy, if_pos hz, if_neg (by omega)]
   ·by_cases hs : stands p dict = true
    ·rw [greedy, if_neg hz, if_pos hs]
     exact ih2 (done ++ [p]) (by rw [h1]; simp) (fun q hq => by
      rcases List.mem_append.1 hq with hq | hq
      ·exact h2 q hq
      ·have : q = p := by simpa using hq
       rw [this]; exact hs) h3
    ·rw [greedy, if_neg hz, if_neg hs, trainR, if_pos (by omega)]
     have hs : stands p dict = false := by simpa using hs
     have hpc := (hc.mem p).1 (by rw [h1]; simp)
     have hpl := allPieces_len hpc.1
     have hb := bestOf_is l dict (allPieces l) (fun p hp e => by have := allPieces_len hp; rw [e] at this; simp at this)
     have hbe : (bestOf l dict (allPieces l)).1 = p := by
      rcases hb with ⟨_, h4⟩ | ⟨h4, h5, h6, h7, h8⟩
      ·rw [h4 p hpc.1 hpc.2] at hs; cases hs
      ·have hm := (hc.mem (bestOf l dict (allPieces l)).1).2 ⟨h4, by omega⟩
       rw [h1] at hm
       rcases List.mem_append.1 hm with hm | hm
       ·rw [h2 _ hm] at h7; cases h7
       ·rcases List.mem_cons.1 hm with hm | hm
        ·exact hm
        ·have hsrt := hc.sorted
         rw [h1, List.pairwise_append, List.pairwise_cons] at hsrt
         have h9 := hsrt.2.1.1 _ hm
         rcases h8 p hpc.1 hpc.2 hs with e | h10
         ·exact e.symm
         ·rw [← h5] at h9
          have := better_trans h9 h10
          rw [better_irrefl] at this; cases this
     rw [hbe, if_neg (by intro e; rw [e] at hpl; simp at hpl)]
     exact ih (p ++ dict) (done ++ [p]) rest (by rw [h1]; simp) (fun q hq => by
      rcases List.mem_append.1 hq with hq | hq
      ·exact stands_app p (h2 q hq)
      ·have : q = p := by simpa using hq
       rw [this]; exact stands_head p dict) (by simp [hpl]; omega)
theorem trainR_eq {l c : List Bytes} {size f : Nat} (hc : Cands l c) (hf : size < 4 + 4 * f) : trainR l size f [] = greedy size [] c :=
 trainR_greedy size hc f [] [] c rfl (by simp) (by simpa using hf)
def big (t : Bytes) : Bool := decide (512 < t.length)
def manyB (l : List Bytes) : Bool := decide (12 < l.length) || l.any big
theorem manyB_no {l : List Bytes} (h : manyB l = false) : l.length ≤ 12 ∧ ∀ t ∈ l, t.length ≤ 512 := by
 simp only [manyB, Bool.or_eq_false_iff, decide_eq_false_iff_not, List.any_eq_false] at h
 refine ⟨by omega, fun t ht => ?_⟩
 have := h.2 t ht
 simp only [big, decide_eq_true_eq] at this
 omega
def trainOf (l : List Bytes) (size : Nat) : Bytes := trainR l size 64 []
def trainE (l : List Bytes) (size : Int) : Nat := if manyB l = true then 2 else if size < 0 ∨ 256 < size then 3 else 0
def trainD (l : List Bytes) (size : Int) : Bytes := if manyB l = true then [] else if size < 0 ∨ 256 < size then [] else trainOf l size.toNat
theorem trainOf_eq {l c : List Bytes} {size : Nat} (hc : Cands l c) (hs : size ≤ 256) : trainOf l size = greedy size [] c := trainR_eq hc (by omega)
theorem trainR_len (l : List Bytes) (size : Nat) : ∀ (f : Nat) (dict : Bytes), dict.length ≤ size → (trainR l size f dict).length ≤ size
 | 0, dict, h => by rw [trainR]; exact h
 | f + 1, dict, h => by
  rw [trainR]
  split
  ·split
   ·exact h
   ·rename_i h1 h2
    refine trainR_len l size f _ ?_
    have hb : (bestOf l dict (allPieces l)).1.length = 4 := by
     rcases bestOf_is l dict (allPieces l) (fun p hp e => by have := allPieces_len hp; rw [e] at this; simp at this) with h3 | h3
     ·exact absurd (by rw [h3.1]) h2
     ·exact allPieces_len h3.1
    rw [List.length_append, hb]; omega
  ·exact h
theorem trainOf_len (l : List Bytes) (size : Nat) : (trainOf l size).length ≤ size := trainR_len l size 64 [] (Nat.zero_le _)
theorem trainD_len (l : List Bytes) (size : Int) : (trainD l size).length ≤ 256 := by
 unfold trainD
 split
 ·simp
 ·split
  ·simp
  ·have := trainOf_len l size.toNat
   omega
end Pl
end Go.Proofs.YtjpgoeimclipjaaGreat
namespace Go.Proofs.YtjpgoeimclipjaaGreat
namespace Pl
structure Fil where
 name : Bytes
 dict : Int
 size : Int
 sum : Int
 block : Bytes
deriving DecidableEq
structure Arc where
 ds : List Bytes
 fs : List Fil
deriving DecidableEq
def arc0 : Arc := ⟨[], []⟩
def nameC (c : UInt8) : Bool := decide (97 ≤ c.toNat ∧ c.toNat ≤ 122 ∨ 48 ≤ c.toNat ∧ c.toNat ≤ 57 ∨ c.toNat = 46)
def nameB (s : Bytes) : Bool := decide (1 ≤ s.length ∧ s.length ≤ 12) && s.all nameC
def dictO (ds : List Bytes) (n : Int) : Option Bytes := if n = 0 then some [] else if n < 1 ∨ (ds.length : Int) < n then none else some (ds.getD (n.toNat - 1) [])
def sizedO (d b : Bytes) (size sum : Int) : Option Bytes := (unpackO d b).bind fun t => if (t.length : Int) = size ∧ ((sumOf t : Nat) : Int) = sum then some t else none
def textO (ds : List Bytes) (f : Fil) : Option Bytes := (dictO ds f.dict).bind fun d => sizedO d f.block f.size f.sum
def textD (ds : List Bytes) (f : Fil) : Bytes := (textO ds f).getD []
def fileB (ds : List Bytes) (f : Fil) : Bool := (textO ds f).isSome && nameB f.name
def filesB (ds : List Bytes) : Bytes → List Fil → Bool
 | _, [] => true
 | last, f :: r => fileB ds f && lessB last f.name && filesB ds f.name r
def bigD (d : Bytes) : Bool := decide (256 < d.length)
def checkA (a : Arc) : Nat := if 4 < a.ds.length ∨ 12 < a.fs.length ∨ a.ds.any bigD = true then 2 else if filesB a.ds [] a.fs = true then 0 else 1
def packedF (ds : List Bytes) (name text : Bytes) (n : Int) : Fil := ⟨name, n, text.length, (sumOf text : Nat), pack ((dictO ds n).getD []) text⟩
def insF (f : Fil) : List Fil → List Fil
 | [] => [f]
 | g :: r => if lessB g.name f.name = true then g :: insF f r else if g.name = f.name then f :: r else f :: g :: r
def put (a : Arc) (name text : Bytes) (n : Int) : Arc × Nat :=
 if checkA a ≠ 0 then (arc0, checkA a) else
 if nameB name = false then (arc0, 4) else
 if dictO a.ds n = none then (arc0, 3) else
 if 512 < text.length then (arc0, 2) else
 if 12 < (insF (packedF a.ds name text n) a.fs).length then (arc0, 2) else (⟨a.ds, insF (packedF a.ds name text n) a.fs⟩, 0)
def findF (name : Bytes) (fs : List Fil) : Option Fil := fs.find? fun f => decide (f.name = name)
def drop (a : Arc) (name : Bytes) : Arc × Nat :=
 if checkA a ≠ 0 then (arc0, checkA a) else
 if findF name a.fs = none then (arc0, 5) else (⟨a.ds, a.fs.filter fun f => decide (f.name ≠ name)⟩, 0)
def get (a : Arc) (name : Bytes) : Bytes × Nat :=
 if checkA a ≠ 0 then ([], checkA a) else
 match findF name a.fs with
 | none => ([], 5)
 | some f => (textD a.ds f, 0)
def cutR (t : Bytes) (m n : Int) : Bytes × Nat := if m < 0 ∨ n < 0 ∨ (t.length : Int) < m ∨ (t.length : Int) - m < n then ([], 3) else (slice t m.toNat (m.toNat + n.toNat), 0)
def range (a : Arc) (name : Bytes) (m n : Int) : Bytes × Nat := if (get a name).2 ≠ 0 then ([], (get a name).2) else cutR (get a name).1 m n
def textsA (a : Arc) : List Bytes := a.fs.map (textD a.ds)
def retrain (a : Arc) (size : Int) : Arc × Nat :=
 if checkA a ≠ 0 then (arc0, checkA a) else
 if trainE (textsA a) size ≠ 0 then (arc0, trainE (textsA a) size) else
 if 4 ≤ a.ds.length then (arc0, 2) else
 (⟨a.ds ++ [trainD (textsA a) size], a.fs.map fun f => packedF (a.ds ++ [trainD (textsA a) size]) f.name (textD a.ds f) (a.ds.length + 1 : Nat)⟩, 0)
def usedB (fs : List Fil) (n : Nat) : Bool := fs.any fun f => decide (f.dict = (n : Int))
def keepD (fs : List Fil) : Nat → List Bytes → List Bytes
 | _, [] => []
 | i, d :: r => if usedB fs (i + 1) = true then d :: keepD fs (i + 1) r else keepD fs (i + 1) r
def movedN (fs : List Fil) : Nat → Nat
 | 0 => 0
 | n + 1 => movedN fs n + if usedB fs (n + 1) = true then 1 else 0
def moveF (fs : List Fil) (f : Fil) : Fil := { f with dict := (movedN fs f.dict.toNat : Nat) }
def compact (a : Arc) : Arc × Nat := if checkA a ≠ 0 then (arc0, checkA a) else (⟨keepD a.fs 0 a.ds, a.fs.map (moveF a.fs)⟩, 0)
def sizeA (a : Arc) : Nat := (a.ds.map List.length).sum + (a.fs.map fun f => f.block.length).sum
theorem nameB_ne {s : Bytes} (h : nameB s = true) : s ≠ [] := by
 intro e; subst e; simp [nameB] at h
theorem lessB_nil {s : Bytes} (h : s ≠ []) : lessB [] s = true := by
 cases s with
 | nil => exact absurd rfl h
 | cons c s => rfl
structure FilesR (ds : List Bytes) (fs : List Fil) : Prop where
 each : ∀ f ∈ fs, fileB ds f = true
 asc : fs.Pairwise fun f g => lessB f.name g.name = true
theorem filesB_iff (ds : List Bytes) : ∀ (fs : List Fil) (last : Bytes), filesB ds last fs = true ↔ FilesR ds fs ∧ ∀ f ∈ fs, lessB last f.name = true
 | [], last => by
  rw [filesB]
  exact ⟨fun _ => ⟨⟨by simp, List.Pairwise.nil⟩, by simp⟩, fun _ => rfl⟩
 | f :: r, last => by
  rw [filesB, Bool.and_eq_true, Bool.and_eq_true, filesB_iff ds r f.name]
  constructor
  ·rintro ⟨⟨h1, h2⟩, h3, h4⟩
   refine ⟨⟨fun g hg => ?_, List.pairwise_cons.2 ⟨h4, h3.asc⟩⟩, fun g hg => ?_⟩
   ·rcases List.mem_cons.1 hg with rfl | hg
    ·exact h1
    ·exact h3.each g hg
   ·rcases List.mem_cons.1 hg with rfl | hg
    ·exact h2
    ·exact lessB_trans h2 (h4 g hg)
  ·rintro ⟨h1, h2⟩
   have hp := List.pairwise_cons.1 h1.asc
   exact ⟨⟨h1.each f (by simp), h2 f (by simp)⟩, ⟨fun g hg => h1.each g (by simp [hg]), hp.2⟩, hp.1⟩
theorem fileB_name {ds : List Bytes} {f : Fil} (h : fileB ds f = true) : nameB f.name = true := by
 unfold fileB at h; rw [Bool.and_eq_true] at h; exact h.2
theorem fileB_text {ds : List Bytes} {f : Fil} (h : fileB ds f = true) : textO ds f = some (textD ds f) := by
 unfold fileB at h; rw [Bool.and_eq_true] at h
 obtain ⟨t, ht⟩ := Option.isSome_iff_exists.1 h.1
 unfold textD; rw [ht]; rfl
structure RightA (a : Arc) : Prop where
 nd : a.ds.length ≤ 4
 nf : a.fs.length ≤ 12
 sd : ∀ d ∈ a.ds, d.length ≤ 256
 fr : FilesR a.ds a.fs
theorem check_iff (a : Arc) : checkA a = 0 ↔ RightA a := by
 have hb : a.ds.any bigD = true ↔ ∃ d ∈ a.ds, 256 < d.length := by
  rw [List.any_eq_true]; simp [bigD]
 unfold checkA
 constructor
 ·intro h
  by_cases h1 : 4 < a.ds.length ∨ 12 < a.fs.length ∨ a.ds.any bigD = true
  ·rw [if_pos h1] at h; cases h
  ·rw [if_neg h1] at h
   by_cases h2 : filesB a.ds [] a.fs = true
   ·refine ⟨by omega, by omega, fun d hd => ?_, ((filesB_iff _ _ _).1 h2).1⟩
    have : ¬ ∃ d ∈ a.ds, 256 < d.length := fun e => h1 (Or.inr (Or.inr (hb.2 e)))
    exact Nat.le_of_not_lt fun e => this ⟨d, hd, e⟩
   ·rw [if_neg h2] at h; cases h
 ·intro h
  rw [if_neg (by
   rintro (e | e | e)
   ·exact absurd h.nd (by omega)
   ·exact absurd h.nf (by omega)
   ·obtain ⟨d, hd, e⟩ := hb.1 e
    exact absurd (h.sd d hd) (by omega))]
  rw [if_pos ((filesB_iff _ _ _).2 ⟨h.fr, fun f hf => lessB_nil (nameB_ne (fileB_name (h.fr.each f hf)))⟩)]
theorem arc0_right : RightA arc0 := ⟨by decide, by decide, by simp [arc0], ⟨by simp [arc0], List.Pairwise.nil⟩⟩
theorem dictO_app {ds : List Bytes} {n : Int} {d : Bytes} (x : List Bytes) (h : dictO ds n = some d) : dictO (ds ++ x) n = some d := by
 unfold dictO at h ⊢
 by_cases h0 : n = 0
 ·rw [if_pos h0] at h ⊢; exact h
 ·rw [if_neg h0] at h ⊢
  by_cases h1 : n < 1 ∨ (ds.length : Int) < n
  ·rw [if_pos h1] at h; cases h
  ·rw [if_neg h1] at h
   rw [if_neg (by simp; omega)]
   rw [← h, List.getD_eq_getElem?_getD, List.getD_eq_getElem?_getD, List.getElem?_append_left (by omega)]
theorem dictO_len {ds : List Bytes} {n : Int} {d : Bytes} (hs : ∀ d ∈ ds, d.length ≤ 256) (h : dictO ds n = some d) : d.length ≤ 256 := by
 unfold dictO at h
 by_cases h0 : n = 0
 ·rw [if_pos h0] at h; cases h; simp
 ·rw [if_neg h0] at h
  by_cases h1 : n < 1 ∨ (ds.length : Int) < n
  ·rw [if_pos h1] at h; cases h
  ·rw [if_neg h1] at h
   cases h
   have : n.toNat - 1 < ds.length := by omega
   rw [List.getD_eq_getElem?_getD, List.getElem?_eq_getElem this]
   exact hs _ (List.getElem_mem this)
theorem packed_text {ds : List Bytes} {name text : Bytes} {n : Int} {d : Bytes} (hd : dictO ds n = some d) (h256 : d.length ≤ 256) (ht : text.length ≤ 512) : textO ds (packedF ds name text n) = some text := by
 unfold textO packedF sizedO
 simp only [hd, Option.bind_some, Option.getD_some]
 rw [unpack_pack h256 ht]
 simp
theorem playF_len (d : Nat) : ∀ (l : List Tok) (s : Bytes) (b : Bool), d ≤ s.length → s.length - d ≤ 512 → (playF d s b l).1.length ≤ 512
 | [], s, _, _, h => by rw [playF]; simp; omega
 | t :: l, s, b, hd, h => by
  rw [playF]
  by_cases he : tokE d s b t ≠ 0
  ·rw [if_pos he]; simp
  ·rw [if_neg he]
   obtain ⟨h1, h2⟩ := tokS_grow (Decidable.not_not.1 he) hd
   exact playF_len d l _ _ (by omega) h2
theorem play_len (dict : Bytes) (l : List Tok) : (play dict l).1.length ≤ 512 := by
 unfold play
 split
 ·simp
 ·exact playF_len _ _ _ _ (Nat.le_refl _) (by omega)
theorem unpack_len {dict b t : Bytes} (h : unpackO dict b = some t) : t.length ≤ 512 := by
 have hp : ∀ s, playO dict s = some t → t.length ≤ 512 := by
  intro s hs
  unfold playO at hs
  cases hr : read dict s with
  | none => rw [hr] at hs; cases hs
  | some l =>
   rw [hr] at hs
   simp only [Option.map_some, Option.some.injEq] at hs
   subst hs
   exact play_len dict l
 cases b with
 | nil => cases h
 | cons k s =>
  rw [unpackO] at h
  split at h
  ·split at h
   ·cases h; assumption
   ·cases h
  ·split at h
   ·exact hp s h
   ·split at h
    ·cases hd : decoded s with
     | none => rw [hd] at h; cases h
     | some x => rw [hd] at h; exact hp x h
    ·cases h
theorem textD_len {ds : List Bytes} {f : Fil} : (textD ds f).length ≤ 512 := by
 unfold textD textO sizedO
 cases dictO ds f.dict with
 | none => simp
 | some d =>
  simp only [Option.bind_some]
  cases hu : unpackO d f.block with
  | none => simp
  | some t =>
   simp only [Option.bind_some]
   split
   ·exact unpack_len hu
   ·simp
theorem mem_insF {f g : Fil} : ∀ {fs : List Fil}, g ∈ insF f fs → g = f ∨ (g ∈ fs)
 | [], h => by simp [insF] at h; exact Or.inl h
 | x :: r, h => by
  rw [insF] at h
  split at h
  ·rcases List.mem_cons.1 h with rfl | h
   ·exact Or.inr (by simp)
   ·rcases mem_insF h with h | h
    ·exact Or.inl h
    ·exact Or.inr (by simp [h])
  ·split at h
   ·rcases List.mem_cons.1 h with rfl | h
    ·exact Or.inl rfl
    ·exact Or.inr (by simp [h])
   ·rcases List.mem_cons.1 h with rfl | h
    ·exact Or.inl rfl
    ·exact Or.inr h
theorem less_of_not {a b : Bytes} (h1 : ¬ lessB a b = true) (h2 : ¬ a = b) : lessB b a = true := by
 cases h : lessB b a with
 | true => rfl
 | false => exact absurd (lessB_total (by simpa using h1) h) h2
theorem insF_asc {f : Fil} : ∀ {fs : List Fil}, fs.Pairwise (fun f g => lessB f.name g.name = true) → (insF f fs).Pairwise fun f g => lessB f.name g.name = true
 | [], _ => by simp [insF]
 | x :: r, h => by
  have hp := List.pairwise_cons.1 h
  rw [insF]
  split
  ·rename_i hx
   refine List.pairwise_cons.2 ⟨fun g hg => ?_, insF_asc hp.2⟩
   rcases mem_insF hg with rfl | hg
   ·exact hx
   ·exact hp.1 g hg
  ·rename_i hx
   split
   ·rename_i he
    exact List.pairwise_cons.2 ⟨fun g hg => by rw [← he]; exact hp.1 g hg, hp.2⟩
   ·rename_i he
    refine List.pairwise_cons.2 ⟨fun g hg => ?_, h⟩
    rcases List.mem_cons.1 hg with rfl | hg
    ·exact less_of_not hx he
    ·exact lessB_trans (less_of_not hx he) (hp.1 g hg)
theorem find_insF (f : Fil) : ∀ fs : List Fil, findF f.name (insF f fs) = some f
 | [] => by simp [insF, findF]
 | x :: r => by
  rw [insF]
  split
  ·rename_i hx
   unfold findF
   rw [List.find?_cons_of_neg]
   ·exact find_insF f r
   ·simp only [decide_eq_true_eq]
    intro e; rw [e, lessB_irrefl] at hx; cases hx
  ·split
   ·simp [findF]
   ·simp [findF]
theorem find_insF_other {f : Fil} {other : Bytes} (ho : other ≠ f.name) : ∀ fs : List Fil, findF other (insF f fs) = findF other fs
 | [] => by simp [insF, findF, Ne.symm ho]
 | x :: r => by
  rw [insF]
  split
  ·unfold findF
   rw [List.find?_cons, List.find?_cons]
   split
   ·rfl
   ·exact find_insF_other ho r
  ·split
   ·rename_i he
    unfold findF
    rw [List.find?_cons_of_neg (by simp [Ne.symm ho]), List.find?_cons_of_neg (by rw [he]; simp [Ne.symm ho])]
   ·unfold findF
    rw [List.find?_cons_of_neg (by simp [Ne.symm ho])]
theorem put_right {a : Arc} {name text : Bytes} {n : Int} (h : (put a name text n).2 = 0) :
  RightA a ∧ RightA (put a name text n).1 ∧ text.length ≤ 512 ∧ (put a name text n).1 = ⟨a.ds, insF (packedF a.ds name text n) a.fs⟩ ∧ textO a.ds (packedF a.ds name text n) = some text := by
 unfold put at h ⊢
 by_cases h1 : checkA a ≠ 0
 ·rw [if_pos h1] at h; exact absurd h h1
 ·rw [if_neg h1] at h ⊢
  have hr := (check_iff a).1 (Decidable.not_not.1 h1)
  by_cases h2 : nameB name = false
  ·rw [if_pos h2] at h; cases h
  ·rw [if_neg h2] at h ⊢
   by_cases h3 : dictO a.ds n = none
   ·rw [if_pos h3] at h; cases h
   ·rw [if_neg h3] at h ⊢
    obtain ⟨d, hd⟩ := Option.ne_none_iff_exists'.1 h3
    by_cases h4 : 512 < text.length
    ·rw [if_pos h4] at h; cases h
    ·rw [if_neg h4] at h ⊢
     by_cases h5 : 12 < (insF (packedF a.ds name text n) a.fs).length
     ·rw [if_pos h5] at h; cases h
     ·rw [if_neg h5] at h ⊢
      have htx := packed_text (name := name) hd (dictO_len hr.sd hd) (Nat.le_of_not_lt h4)
      refine ⟨hr, ⟨hr.nd, Nat.le_of_not_lt h5, hr.sd, ⟨fun f hf => ?_, insF_asc hr.fr.asc⟩⟩, Nat.le_of_not_lt h4, rfl, htx⟩
      rcases mem_insF hf with rfl | hf
      ·unfold fileB
       rw [htx]
       simpa [packedF] using h2
      ·exact hr.fr.each f hf
theorem get_right {a : Arc} (h : RightA a) (name : Bytes) : get a name = match findF name a.fs with | none => ([], 5) | some f => (textD a.ds f, 0) := by
 unfold get; rw [if_neg (by rw [(check_iff a).2 h]; simp)]
theorem put_get {a : Arc} {name text : Bytes} {n : Int} (h : (put a name text n).2 = 0) : get (put a name text n).1 name = (text, 0) := by
 obtain ⟨h1, h2, h3, h4, h5⟩ := put_right h
 rw [get_right h2, h4]
 have : findF name (insF (packedF a.ds name text n) a.fs) = some (packedF a.ds name text n) := find_insF (packedF a.ds name text n) a.fs
 simp only [this]
 unfold textD; rw [h5]; rfl
theorem put_other {a : Arc} {name text other : Bytes} {n : Int} (h : (put a name text n).2 = 0) (ho : other ≠ name) : get (put a name text n).1 other = get a other := by
 obtain ⟨h1, h2, h3, h4, h5⟩ := put_right h
 rw [get_right h2, get_right h1, h4]
 have : findF other (insF (packedF a.ds name text n) a.fs) = findF other a.fs := find_insF_other (f := packedF a.ds name text n) ho a.fs
 simp only [this]
theorem drop_right {a : Arc} {name : Bytes} (h : (drop a name).2 = 0) : RightA a ∧ RightA (drop a name).1 ∧ (drop a name).1 = ⟨a.ds, a.fs.filter fun f => decide (f.name ≠ name)⟩ := by
 unfold drop at h ⊢
 by_cases h1 : checkA a ≠ 0
 ·rw [if_pos h1] at h; exact absurd h h1
 ·rw [if_neg h1] at h ⊢
  have hr := (check_iff a).1 (Decidable.not_not.1 h1)
  by_cases h2 : findF name a.fs = none
  ·rw [if_pos h2] at h; cases h
  ·rw [if_neg h2] at h ⊢
   exact ⟨hr, ⟨hr.nd, Nat.le_trans (List.length_filter_le _ _) hr.nf, hr.sd, ⟨fun f hf => hr.fr.each f (List.mem_filter.1 hf).1, hr.fr.asc.filter _⟩⟩, rfl⟩
theorem find_filter {name : Bytes} {fs : List Fil} : findF name (fs.filter fun f => decide (f.name ≠ name)) = none := by
 unfold findF
 rw [List.find?_eq_none]
 intro f hf
 have := (List.mem_filter.1 hf).2
 simpa using this
theorem drop_get {a : Arc} {name : Bytes} (h : (drop a name).2 = 0) : get (drop a name).1 name = ([], 5) := by
 obtain ⟨h1, h2, h3⟩ := drop_right h
 rw [get_right h2, h3]
 simp only [find_filter]
theorem find_map {g : Fil → Fil} (hg : ∀ f, (g f).name = f.name) (name : Bytes) : ∀ fs : List Fil, findF name (fs.map g) = (findF name fs).map g
 | [] => rfl
 | x :: r => by
  have ih := find_map hg name r
  unfold findF at ih ⊢
  rw [List.map_cons, List.find?_cons, List.find?_cons, hg]
  split
  ·rfl
  ·exact ih
theorem texts_few {a : Arc} (h : RightA a) : manyB (textsA a) = false := by
 unfold manyB textsA
 rw [Bool.or_eq_false_iff]
 refine ⟨by simp only [List.length_map, decide_eq_false_iff_not]; exact Nat.not_lt.2 h.nf, ?_⟩
 rw [List.any_eq_false]
 intro t ht
 obtain ⟨f, _, rfl⟩ := List.mem_map.1 ht
 have := textD_len (ds := a.ds) (f := f)
 simp only [big, decide_eq_true_eq]
 omega
theorem retrain_right {a : Arc} {size : Int} (h : (retrain a size).2 = 0) :
  RightA a ∧ RightA (retrain a size).1 ∧ (retrain a size).1 = ⟨a.ds ++ [trainD (textsA a) size], a.fs.map fun f => packedF (a.ds ++ [trainD (textsA a) size]) f.name (textD a.ds f) (a.ds.length + 1 : Nat)⟩ ∧
  ∀ f, textO (a.ds ++ [trainD (textsA a) size]) (packedF (a.ds ++ [trainD (textsA a) size]) f.name (textD a.ds f) (a.ds.length + 1 : Nat)) = some (textD a.ds f) := by
 unfold retrain at h ⊢
 by_cases h1 : checkA a ≠ 0
 ·rw [if_pos h1] at h; exact absurd h h1
 ·rw [if_neg h1] at h ⊢
  have hr := (check_iff a).1 (Decidable.not_not.1 h1)
  by_cases h2 : trainE (textsA a) size ≠ 0
  ·rw [if_pos h2] at h; exact absurd h h2
  ·rw [if_neg h2] at h ⊢
   by_cases h3 : 4 ≤ a.ds.length
   ·rw [if_pos h3] at h; cases h
   ·rw [if_neg h3] at h ⊢
    have hdl := trainD_len (textsA a) size
    have hd : dictO (a.ds ++ [trainD (textsA a) size]) (a.ds.length + 1 : Nat) = some (trainD (textsA a) size) := by
     unfold dictO
     rw [if_neg (by omega), if_neg (by simp; omega)]
     congr 1
     rw [List.getD_eq_getElem?_getD, show ((a.ds.length + 1 : Nat) : Int).toNat - 1 = a.ds.length from by omega, List.getElem?_append_right (Nat.le_refl _)]
     simp
    have htx : ∀ f, textO (a.ds ++ [trainD (textsA a) size]) (packedF (a.ds ++ [trainD (textsA a) size]) f.name (textD a.ds f) (a.ds.length + 1 : Nat)) = some (textD a.ds f) := fun f =>
     packed_text hd hdl textD_len
    refine ⟨hr, ⟨by simp; omega, by simpa using hr.nf, fun d hd => ?_, ⟨fun f hf => ?_, ?_⟩⟩, rfl, htx⟩
    ·rcases List.mem_append.1 hd with hd | hd
     ·exact hr.sd d hd
     ·rw [List.mem_singleton.1 hd]; exact hdl
    ·obtain ⟨g, hg, rfl⟩ := List.mem_map.1 hf
     unfold fileB
     rw [htx g]
     simpa [packedF] using fileB_name (hr.fr.each g hg)
    ·rw [List.pairwise_map]
     exact hr.fr.asc
theorem retrain_get {a : Arc} {size : Int} (h : (retrain a size).2 = 0) (name : Bytes) : get (retrain a size).1 name = get a name := by
 obtain ⟨h1, h2, h3, h4⟩ := retrain_right h
 rw [get_right h2, get_right h1, h3]
 simp only
 rw [find_map (g := fun f => packedF (a.ds ++ [trainD (textsA a) size]) f.name (textD a.ds f) (a.ds.length + 1 : Nat)) (fun _ => rfl)]
 cases findF name a.fs with
 | none => rfl
 | some f =>
  simp only [Option.map_some]
  show ((textO (a.ds ++ [trainD (textsA a) size]) (packedF (a.ds ++ [trainD (textsA a) size]) f.name (textD a.ds f) (a.ds.length + 1 : Nat))).getD [], 0) = (textD a.ds f, 0)
  rw [h4 f]
  rfl
theorem used_iff {fs : List Fil} {n : Nat} : usedB fs n = true ↔ ∃ f ∈ fs, f.dict = (n : Int) := by
 unfold usedB; rw [List.any_eq_true]; simp
theorem moved_step (fs : List Fil) (n : Nat) : movedN fs (n + 1) = movedN fs n + if usedB fs (n + 1) = true then 1 else 0 := rfl
theorem moved_mono (fs : List Fil) {m n : Nat} (h : m ≤ n) : movedN fs m ≤ movedN fs n := by
 induction h with
 | refl => exact Nat.le_refl _
 | step _ ih => rw [moved_step]; omega
theorem moved_le (fs : List Fil) : ∀ n, movedN fs n ≤ n
 | 0 => by rw [movedN]; omega
 | n + 1 => by have := moved_le fs n; rw [moved_step]; split <;> omega
theorem keepD_len (fs : List Fil) : ∀ (ds : List Bytes) (i : Nat), (keepD fs i ds).length + movedN fs i = movedN fs (i + ds.length)
 | [], i => by simp [keepD]
 | d :: r, i => by
  have ih := keepD_len fs r (i + 1)
  rw [moved_step] at ih
  rw [keepD, List.length_cons, show i + (r.length + 1) = i + 1 + r.length from by omega, ← ih]
  split
  ·simp; omega
  ·omega
theorem keepD_get (fs : List Fil) : ∀ (ds : List Bytes) (i j : Nat) (d : Bytes), ds[j]? = some d → usedB fs (i + j + 1) = true → (keepD fs i ds)[movedN fs (i + j) - movedN fs i]? = some d
 | [], _, _, _, h, _ => by simp at h
 | x :: r, i, 0, d, h, hu => by
  rw [keepD, if_pos (by simpa using hu)]
  simpa using h
 | x :: r, i, j + 1, d, h, hu => by
  have ih := keepD_get fs r (i + 1) j d (by simpa using h) (by rw [← hu]; congr 1; omega)
  have hm := moved_mono fs (show i + 1 ≤ i + 1 + j from by omega)
  rw [show i + 1 + j = i + (j + 1) from by omega] at ih hm
  have hs := moved_step fs i
  rw [keepD]
  split
  ·rename_i h1
   rw [if_pos h1] at hs
   rw [show movedN fs (i + (j + 1)) - movedN fs i = movedN fs (i + (j + 1)) - movedN fs (i + 1) + 1 from by omega]
   simpa using ih
  ·rename_i h1
   rw [if_neg h1] at hs
   rw [show movedN fs (i + (j + 1)) - movedN fs i = movedN fs (i + (j + 1)) - movedN fs (i + 1) from by omega]
   exact ih
theorem keepD_mem (fs : List Fil) : ∀ (ds : List Bytes) (i : Nat) (d : Bytes), d ∈ keepD fs i ds → d ∈ ds
 | [], _, _, h => h
 | x :: r, i, d, h => by
  rw [keepD] at h
  split at h
  ·rcases List.mem_cons.1 h with rfl | h
   ·simp
   ·exact List.mem_cons_of_mem _ (keepD_mem fs r _ d h)
  ·exact List.mem_cons_of_mem _ (keepD_mem fs r _ d h)
theorem keepD_dict {fs : List Fil} {ds : List Bytes} {f : Fil} {d : Bytes} (hf : f ∈ fs) (h : dictO ds f.dict = some d) : dictO (keepD fs 0 ds) (movedN fs f.dict.toNat : Nat) = some d := by
 unfold dictO at h
 by_cases h0 : f.dict = 0
 ·rw [if_pos h0] at h
  rw [h0]
  exact h
 ·rw [if_neg h0] at h
  by_cases h1 : f.dict < 1 ∨ (ds.length : Int) < f.dict
  ·rw [if_pos h1] at h; cases h
  ·rw [if_neg h1] at h
   obtain ⟨n, hn⟩ : ∃ n, f.dict.toNat = n + 1 := ⟨f.dict.toNat - 1, by omega⟩
   have hu : usedB fs (n + 1) = true := used_iff.2 ⟨f, hf, by omega⟩
   have hlt : n < ds.length := by omega
   have hg := keepD_get fs ds 0 n _ (List.getElem?_eq_getElem hlt) (by simpa using hu)
   have hz : movedN fs 0 = 0 := rfl
   rw [Nat.zero_add, hz, Nat.sub_zero] at hg
   have hlt2 := (List.getElem?_eq_some_iff.1 hg).1
   have hs := moved_step fs n
   rw [if_pos hu] at hs
   rw [hn]
   unfold dictO
   rw [if_neg (by omega), if_neg (by omega), List.getD_eq_getElem?_getD, show ((movedN fs (n + 1) : Nat) : Int).toNat - 1 = movedN fs n from by omega, hg]
   rw [hn, List.getD_eq_getElem?_getD, Nat.add_sub_cancel, List.getElem?_eq_getElem hlt] at h
   simpa using h
theorem keepD_text {fs : List Fil} {ds : List Bytes} {f : Fil} {t : Bytes} (hf : f ∈ fs) (h : textO ds f = some t) : textO (keepD fs 0 ds) (moveF fs f) = some t := by
 unfold textO at h ⊢
 cases hd : dictO ds f.dict with
 | none => rw [hd] at h; cases h
 | some d =>
  rw [hd] at h
  have := keepD_dict hf hd
  unfold moveF
  simp only
  rw [this]
  exact h
theorem compact_right {a : Arc} (h : (compact a).2 = 0) : RightA a ∧ RightA (compact a).1 ∧ (compact a).1 = ⟨keepD a.fs 0 a.ds, a.fs.map (moveF a.fs)⟩ := by
 unfold compact at h ⊢
 by_cases h1 : checkA a ≠ 0
 ·rw [if_pos h1] at h; exact absurd h h1
 ·rw [if_neg h1] at h ⊢
  have hr := (check_iff a).1 (Decidable.not_not.1 h1)
  have hkl := keepD_len a.fs a.ds 0
  have hml := moved_le a.fs (0 + a.ds.length)
  refine ⟨hr, ⟨?_, by simpa using hr.nf, fun d hd => hr.sd d (keepD_mem _ _ _ _ hd), ⟨fun f hf => ?_, ?_⟩⟩, rfl⟩
  ·have := hr.nd
   have hz : movedN a.fs 0 = 0 := rfl
   simp only; omega
  ·obtain ⟨g, hg, rfl⟩ := List.mem_map.1 hf
   have hk := keepD_text hg (fileB_text (hr.fr.each g hg))
   unfold fileB
   simp only [hk]
   simpa [moveF] using fileB_name (hr.fr.each g hg)
  ·rw [List.pairwise_map]
   exact hr.fr.asc
end Pl
end Go.Proofs.YtjpgoeimclipjaaGreat
namespace Go.Proofs.YtjpgoeimclipjaaGreat
namespace Pl
theorem playO_small {d s t : Bytes} (hd : d.length ≤ 256) (h : playO d s = some t) : s.length ≤ 1024 := by
 unfold playO at h
 cases hr : read d s with
 | none => rw [hr] at h; cases h
 | some l =>
  have hw := write_read hd hr
  have hp : (play d l).2 = 0 := by
   by_cases e : (play d l).2 = 0
   ·exact e
   ·unfold write at hw
    rw [if_pos e] at hw
    exact absurd (Prod.ext_iff.1 hw).2 e
  have := toksB_small hp
  unfold write at hw
  rw [if_neg (by omega)] at hw
  have e : toksB l = s := (Prod.ext_iff.1 hw).1
  rw [← e]; exact this
theorem decoded_small {s x : Bytes} (h : decoded s = some x) : s.length ≤ 3900 := by
 unfold decoded at h
 split at h
 ·cases h
 ·rename_i h8
  cases ht : take (s.drop 8) with
  | none => rw [decodeO_none ht] at h; cases h
  | some p =>
   obtain ⟨n, r⟩ := p
   rw [decodeO_some ht] at h
   split at h
   ·rename_i he
    obtain ⟨h1, h2, h3⟩ := code_write_read he
    have hn := (take_some ht)
    have hx := (writeE_parts h1).2.1
    have hR := right_of (unHd_len (b := s) (Nat.le_of_not_lt h8)) (writeE_parts h1).1
    have hl : r.length ≤ 3841 := by
     rw [← h2]
     unfold writeS
     rw [if_pos h1, packB_len]
     have := encK_len hR (nibs (readS (unHd s) r (n : Int)))
     rw [nibs_len] at this
     omega
    have hb := nb_len 4 n (by have := hn.2; unfold maxNum at this; omega)
    have e : (s.drop 8).length = (nb n).length + r.length := by rw [hn.1, List.length_append]
    rw [List.length_drop] at e
    omega
   ·cases h
theorem unpack_small {d b t : Bytes} (hd : d.length ≤ 256) (h : unpackO d b = some t) : b.length ≤ 3901 := by
 cases b with
 | nil => cases h
 | cons k s =>
  rw [unpackO] at h
  rw [List.length_cons]
  split at h
  ·split at h
   ·omega
   ·cases h
  ·split at h
   ·have := playO_small hd h; omega
   ·split at h
    ·cases hx : decoded s with
     | none => rw [hx] at h; cases h
     | some x => have := decoded_small hx; omega
    ·cases h
theorem file_nums {ds : List Bytes} {f : Fil} (hn : ds.length ≤ 4) (hs : ∀ d ∈ ds, d.length ≤ 256) (h : fileB ds f = true) :
  f.name.length ≤ 12 ∧ 0 ≤ f.dict ∧ f.dict ≤ 4 ∧ 0 ≤ f.size ∧ f.size ≤ 512 ∧ 0 ≤ f.sum ∧ f.sum < 65536 ∧ f.block.length ≤ 3901 := by
 have hnm := fileB_name h
 have ht := fileB_text h
 unfold nameB at hnm
 rw [Bool.and_eq_true, decide_eq_true_eq] at hnm
 unfold textO at ht
 cases hd : dictO ds f.dict with
 | none => rw [hd] at ht; cases ht
 | some d =>
  rw [hd] at ht
  simp only [Option.bind_some] at ht
  have hdl := dictO_len hs hd
  have hdi : 0 ≤ f.dict ∧ f.dict ≤ 4 := by
   unfold dictO at hd
   by_cases h0 : f.dict = 0
   ·omega
   ·rw [if_neg h0] at hd
    by_cases h1 : f.dict < 1 ∨ (ds.length : Int) < f.dict
    ·rw [if_pos h1] at hd; cases hd
    ·omega
  unfold sizedO at ht
  cases hu : unpackO d f.block with
  | none => rw [hu] at ht; cases ht
  | some t =>
   rw [hu] at ht
   simp only [Option.bind_some] at ht
   split at ht
   ·rename_i he
    have h1 := unpack_len hu
    have h2 := unpack_small hdl hu
    have h3 : sumOf t < 65536 := Nat.mod_lt _ (by decide)
    omega
   ·cases ht
end Pl
end Go.Proofs.YtjpgoeimclipjaaGreat
namespace Go.Proofs.YtjpgoeimclipjaaGreat
open Go.RowKit Go.Lib
abbrev S (l : List UInt8) : Value := .string ⟨l.toArray⟩
abbrev I (n : Int) : Value := .int .i64 n
abbrev B (b : UInt8) : Value := .int .u8 b.toNat
theorem acc {P : Program} {f : FuncId} {args : Array Value} {w0 W : World} {v : Value} (h : Calls P f args W fun e w' => e = .returned v ∧ Below W.heap.size W w') (hb : Below w0.heap.size w0 W) :
  Calls P f args W fun e w' => e = .returned v ∧ Below w0.heap.size w0 w' :=
 h.mono fun _ _ ⟨he, h1⟩ => ⟨he, hb.trans (h1.mono hb.size)⟩
theorem hide {p : Prop} (h : p) : Hid p := h
theorem unhide {p : Prop} (h : Hid p) : p := h
theorem info_u8 : (Tryz.prog.info? 5).map (fun i => (i.zero, i.size, i.bytes)) = some (some (.int .u8 0), 1, 1) := by kernel_rfl
theorem ext_list (l : List UInt8) (a b : Nat) : (⟨l.toArray⟩ : ByteArray).extract a b = ⟨(Pl.slice l a b).toArray⟩ := by
 apply ByteArray.ext
 simp [Pl.slice, ByteArray.data_extract, List.extract_toArray, List.extract_eq_take_drop, List.drop_take]
theorem app_list (a b : List UInt8) : (⟨a.toArray⟩ : ByteArray) ++ (⟨b.toArray⟩ : ByteArray) = ⟨(a ++ b).toArray⟩ := by
 apply ByteArray.ext; simp
theorem wpList_push {P : Program} {w : World} {ops : Array Oper} {rest : List Oper} {o : Oper} {a : Act} {Q : Exit → Act → World → Prop} (hgd : o.guard = none) (s x : Operand) (t : TypeId)
  (ho : o.op = .call { callee := .builtin .append, args := #[s, x], argTypes := #[t, t] })
  (base : Nat) (e : TypeId) (i : TypeInfo) (z : Value) (bytes : Nat) (ht : P.underlying t = some (.slice e)) (hi : P.info? e = some i) (hz : i.zero = some z)
  (hsize : i.size = 1) (hby : i.bytes = bytes) (hzs : z.cells.size = 1)
  (v : Value) (n : Nat) (xs : List Value) (hs : a.eval s = v) (hown : w.ownsRow base e 1 v n xs) (u : Value) (te : TypeId)
  (hx : a.eval x = .slice (some ⟨w.heap.size, 0, none⟩) 1 1) (h1 : u.oneCell' = true)
  (h63 : n + 1 ≤ maxLen) (hbytes : (n + 1) * bytes ≤ 140737488355328) (hbase : base ≤ w.heap.size)
  (h : ∀ v' w', w'.ownsRow base e 1 v' (n + 1) (xs ++ [u]) → Below base w w' → (w.alloc (.cells #[u] te)).grownBy w' v.ownBlock → wpList P ops Q rest (a.put o.dst v') w') :
  wpList P ops Q (o :: rest) a (w.alloc (.cells #[u] te)) := by
 refine wpList_append_own _ hgd s x t ho base e i z 1 bytes ht hi hz hsize hby hzs (by decide) v n xs hs (hown.alloc _) ⟨w.heap.size, 0, none⟩ 1 1 [u] hx rfl (cell_one_new _ _ _) ?_ h63 hbytes ?_ ?_
 ·intro y hy; simp at hy; subst hy; exact h1
 ·simp; omega
 ·intro v' w' hown' hg _
  refine h v' w' hown' ?_ hg
  exact ((Below.refl _ _).alloc hbase _).grown hg (by simp; omega) (fun k hk => (hown.lt k hk).1)
theorem run_str_own {P : Program} {w : World} {base e : Nat} {v : Value} {n : Nat} {l : List UInt8} (h : w.ownsRow base e 1 v n (l.map B)) (src dst : TypeId)
  (hs : P.underlying src = some (.slice e)) (he : P.underlying e = some (.int .u8)) (hd : P.underlying dst = some .string) :
  (convert src dst v).run P w = .ok (S l) w := by
 have hn : l.length = n := by have := h.1; simpa using this
 rcases h.2 with ⟨rfl, h0⟩ | ⟨g, cap, cur, rfl, _⟩
 ·subst h0
  have : l = [] := List.eq_nil_of_length_eq_zero hn
  subst this
  exact run_convert_nil_bytes w src dst e 0 hs he hd
 ·subst hn
  refine run_convert_bytes_back w src dst e _ cap l hs he hd ?_
  intro j hj
  refine h.cells (g := g) rfl j _ ?_
  simp [hj]
theorem own_byte {w : World} {base e : Nat} {v : Value} {n : Nat} {l : List UInt8} {x : Int} (b : UInt8) (h : w.ownsRow base e 1 v n (l.map B ++ [.int .u8 x])) (hb : (b.toNat : Int) = x) :
  w.ownsRow base e 1 v n ((l ++ [b]).map B) := by
 subst hb; simpa using h
theorem byte_of (k : Nat) (h : k < 256) : ∃ b : UInt8, b = UInt8.ofNat k ∧ (b.toNat : Int) = k := ⟨_, rfl, by simp [UInt8.toNat_ofNat']; omega⟩
theorem ofNat_toNat {k : Nat} (h : k < 256) : ((UInt8.ofNat k).toNat : Int) = k := by
 simp [UInt8.toNat_ofNat']; omega
theorem run_conv1 {P : Program} (w : World) (g : Nat) {x : Int} (b : UInt8) (hx : (b.toNat : Int) = x) (hc : w.cell? ⟨g, 0, none⟩ = some (.int .u8 x)) (src dst e : TypeId)
  (hs : P.underlying src = some (.slice e)) (he : P.underlying e = some (.int .u8)) (hd : P.underlying dst = some .string) :
  (convert src dst (.slice (some ⟨g, 0, none⟩) 1 1)).run P w = .ok (S [b]) w := by
 subst hx
 refine run_convert_bytes_back w src dst e _ 1 [b] hs he hd ?_
 intro j hj
 have hj0 : j = 0 := by simp at hj; omega
 subst hj0
 simpa [Addr.add] using hc
theorem run_conv1_new {P : Program} (w : World) {x : Int} (b : UInt8) (hx : (b.toNat : Int) = x) (t src dst e : TypeId)
  (hs : P.underlying src = some (.slice e)) (he : P.underlying e = some (.int .u8)) (hd : P.underlying dst = some .string) :
  (convert src dst (.slice (some ⟨w.heap.size, 0, none⟩) 1 1)).run P (w.alloc (.cells #[.int .u8 x] t)) = .ok (S [b]) (w.alloc (.cells #[.int .u8 x] t)) :=
 run_conv1 _ _ b hx (by simp) src dst e hs he hd
theorem run_conv1_drew {P : Program} (w : World) {x : Int} (b : UInt8) (hx : (b.toNat : Int) = x) (t src dst e : TypeId)
  (hs : P.underlying src = some (.slice e)) (he : P.underlying e = some (.int .u8)) (hd : P.underlying dst = some .string) :
  (convert src dst (.slice (some ⟨w.heap.size, 0, none⟩) 1 1)).run P (w.alloc (.cells #[.int .u8 x] t)).drew = .ok (S [b]) (w.alloc (.cells #[.int .u8 x] t)).drew :=
 run_conv1 _ _ b hx (by show (w.alloc (.cells #[.int .u8 x] t)).cell? _ = _; simp) src dst e hs he hd
theorem run_conv1_later_drew {P : Program} {w w' : World} {t : TypeId} {x : Int} (b : UInt8) (hx : (b.toNat : Int) = x) (hb : Below (w.alloc (.cells #[.int .u8 x] t)).drew.heap.size (w.alloc (.cells #[.int .u8 x] t)).drew w') (src dst e : TypeId)
  (hs : P.underlying src = some (.slice e)) (he : P.underlying e = some (.int .u8)) (hd : P.underlying dst = some .string) :
  (convert src dst (.slice (some ⟨w.heap.size, 0, none⟩) 1 1)).run P w' = .ok (S [b]) w' :=
 run_conv1 _ _ b hx (cell_later hb (by show (w.alloc (.cells #[.int .u8 x] t)).cell? _ = _; simp)) src dst e hs he hd
theorem or128 (x : Int) (h0 : 0 ≤ x) (h1 : x < 256) : bits .or .u8 x 128 = 128 + x % 128 := by
 have h : ∀ y : Fin 256, bits .or .u8 (y.val : Int) 128 = 128 + (y.val : Int) % 128 := by decide +kernel
 have := h ⟨x.toNat, by omega⟩
 have e : ((x.toNat : Nat) : Int) = x := by omega
 rw [e] at this; exact this
theorem and127 (c : UInt8) : bits .and .u8 (c.toNat : Int) 127 = ((c.toNat % 128 : Nat) : Int) := by
 have h : ∀ y : Fin 256, bits .and .u8 (y.val : Int) 127 = ((y.val % 128 : Nat) : Int) := by decide +kernel
 exact h ⟨c.toNat, c.toNat_lt⟩
theorem ofInt_i64 (a : Nat) (ha : a < 9223372036854775808) : (BitVec.ofInt 64 (a : Int)).toNat = a := by
 rw [BitVec.ofInt_natCast, BitVec.toNat_ofNat]; exact Nat.mod_eq_of_lt (by omega)
theorem i64_and_nat (a b : Nat) (ha : a < 9223372036854775808) (hb : b < 9223372036854775808) : bits .and .i64 (a : Int) (b : Int) = ((a &&& b : Nat) : Int) := by
 have hx : a &&& b < 2 ^ 63 := Nat.and_lt_two_pow _ (by omega)
 show IntKind.i64.wrap ((BitVec.ofInt 64 (a : Int) &&& BitVec.ofInt 64 (b : Int)).toNat : Int) = _
 rw [BitVec.toNat_and, ofInt_i64 a ha, ofInt_i64 b hb, IntKind.wrap_i64]
 omega
theorem i64_or_nat (a b : Nat) (ha : a < 9223372036854775808) (hb : b < 9223372036854775808) : bits .or .i64 (a : Int) (b : Int) = ((a ||| b : Nat) : Int) := by
 have hx : a ||| b < 2 ^ 63 := Nat.or_lt_two_pow (by omega) (by omega)
 show IntKind.i64.wrap ((BitVec.ofInt 64 (a : Int) ||| BitVec.ofInt 64 (b : Int)).toNat : Int) = _
 rw [BitVec.toNat_or, ofInt_i64 a ha, ofInt_i64 b hb, IntKind.wrap_i64]
 omega
theorem or7 (acc x k : Nat) (ha : acc < 128 ^ k) (hx : x < 128) (hk : k < 5) : bits .or .i64 (acc : Int) (wrap64 ((x : Int) * 2 ^ (7 * k))) = ((acc + x * 128 ^ k : Nat) : Int) := by
 have e : (2 : Int) ^ (7 * k) = ((128 ^ k : Nat) : Int) := by
  have : (128 : Nat) ^ k = 2 ^ (7 * k) := by rw [Nat.pow_mul]
  rw [this]; norm_cast
 have hp : (128 : Nat) ^ k ≤ 128 ^ 4 := Nat.pow_le_pow_right (by omega) (by omega)
 have hm : x * 128 ^ k ≤ 127 * 128 ^ 4 := Nat.mul_le_mul (by omega) hp
 rw [e, ← Int.natCast_mul]
 have hw : wrap64 ((x * 128 ^ k : Nat) : Int) = ((x * 128 ^ k : Nat) : Int) := IntWalk.wrap64_in _ ⟨by omega, by omega⟩
 rw [hw, i64_or_nat _ _ (by omega) (by omega)]
 congr 1
 have e2 : x * 128 ^ k = x <<< (7 * k) := by
  rw [Nat.shiftLeft_eq]; congr 1; rw [Nat.pow_mul]
 rw [e2, Nat.or_comm, ← Nat.shiftLeft_add_eq_or_of_lt (by rw [Nat.pow_mul]; exact ha)]
 omega
end Go.Proofs.YtjpgoeimclipjaaGreat
