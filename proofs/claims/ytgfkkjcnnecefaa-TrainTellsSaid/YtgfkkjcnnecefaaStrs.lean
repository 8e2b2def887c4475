/- A slice of strings that reads as a list; does a piece stand in a text. -/
import Derived.Test.YtgfkkjcnnecefaaWords
import Derived.Test.YtgfkkjcnnecefaaMaker
import Derived.Test.YtgfkkjcnnecefaaShelf
import Derived.Test.YtgfkkjcnnecefaaPureTrain
import Derived.Lib.IndexMore
namespace Go.Proofs.Ytgfkkjcnnecefaa
open Go.RowKit Go.Lib Pl
attribute [local go_sem] ext_list app_list

/-- The slice of address A and length n reads as the list l, below block Bd. -/
def StrsAt (w : World) (Bd : Nat) (A : Option Addr) (n : Nat) (l : List Bytes) : Prop :=
  l.length = n ∧ (0 < n → ∃ b off, A = some ⟨b, off, none⟩ ∧ b < Bd ∧ ∀ i t, l[i]? = some t → w.cell? ⟨b, off + i, none⟩ = some (S t))
theorem StrsAt.keep {w w' : World} {Bd n : Nat} {A : Option Addr} {l : List Bytes} (h : StrsAt w Bd A n l) (hk : ∀ p : Addr, p.block < Bd → w'.cell? p = w.cell? p) : StrsAt w' Bd A n l :=
  ⟨h.1, fun hn => by
    obtain ⟨b, off, e, hb, hc⟩ := h.2 hn
    exact ⟨b, off, e, hb, fun i t hi => (hk _ hb).trans (hc i t hi)⟩⟩
theorem StrsAt.below {w w' : World} {Bd n : Nat} {A : Option Addr} {l : List Bytes} (h : StrsAt w Bd A n l) (hb : Below Bd w w') : StrsAt w' Bd A n l := h.keep fun _ hp => hb.cell hp
theorem StrsAt.up {w w' : World} {n : Nat} {A : Option Addr} {l : List Bytes} (h : StrsAt w w.heap.size A n l) (hb : Below w.heap.size w w') : StrsAt w' w'.heap.size A n l := by
  have h1 := h.below hb
  exact ⟨h1.1, fun hn => by obtain ⟨b, off, e, hlt, hc⟩ := h1.2 hn; exact ⟨b, off, e, Nat.lt_of_lt_of_le hlt hb.size, hc⟩⟩
theorem StrsAt.at_ {w : World} {Bd n k : Nat} {A : Option Addr} {l : List Bytes} (h : StrsAt w Bd A n l) (hk : k < n) : ∃ b off t, A = some ⟨b, off, none⟩ ∧ b < Bd ∧ l[k]? = some t ∧ w.cell? ⟨b, off + k, none⟩ = some (S t) := by
  obtain ⟨b, off, e, hb, hc⟩ := h.2 (by omega)
  have hl : k < l.length := by have := h.1; omega
  exact ⟨b, off, l[k], e, hb, List.getElem?_eq_getElem hl, hc k _ (List.getElem?_eq_getElem hl)⟩

/-- what the library's variable holds is a number -/
def MaxLenIs (w : World) : Prop := ∃ m : Int, w.cell? ⟨0, 0, none⟩ = some (.int .i64 m)
theorem MaxLenIs.up {w w' : World} (h : MaxLenIs w) (hb : Below w.heap.size w w') : MaxLenIs w' := by
  obtain ⟨m, hm⟩ := h
  have hlt : 0 < w.heap.size := by
    rcases Nat.lt_or_ge 0 w.heap.size with h | h
    · exact h
    · simp [World.cell?, Array.getElem?_eq_none h] at hm
  exact ⟨m, (hb.cell (p := ⟨0, 0, none⟩) hlt).trans hm⟩
theorem MaxLenIs.cells {w w' : World} (h : MaxLenIs w) (hb : w'.heap[0]? = w.heap[0]?) : MaxLenIs w' := by
  obtain ⟨m, hm⟩ := h
  exact ⟨m, by rw [← hm]; unfold World.cell?; rw [hb]⟩

theorem index_stands (p : Bytes) : ∀ t : Bytes, 0 ≤ Lib.index t p ↔ stands p t = true
  | [] => by
    rcases Lib.index_spec [] p with ⟨h1, h2⟩ | ⟨i, h1, h2, h3, _⟩
    · have := h2 0 (Nat.zero_le _)
      rw [h1]
      unfold stands
      cases p with
      | nil => simp [Lib.occAt] at this
      | cons a p => simp
    · rw [h1]
      have hi : i = 0 := by simpa using h2
      subst hi
      cases p with
      | nil => simp [stands]
      | cons a p => simp [Lib.occAt] at h3
  | c :: t => by
    rw [Lib.index, stands]
    by_cases h : p.isPrefixOf (c :: t) = true
    · rw [if_pos h, h]; simp
    · rw [if_neg h]
      have h' : p.isPrefixOf (c :: t) = false := Bool.eq_false_iff.2 h
      rw [h', Bool.false_or, ← index_stands p t]
      rcases Lib.index_spec t p with ⟨h1, _⟩ | ⟨i, h1, _⟩
      · rw [h1]; decide
      · rw [h1]
        have : ((i : Int) == -1) = false := by rw [beq_eq_false_iff_ne]; omega
        simp [this]; omega
theorem contains_stands (p t : Bytes) : Lib.contains t p = stands p t := by
  unfold Lib.contains
  rw [Bool.eq_iff_iff, decide_eq_true_eq]
  exact index_stands p t

/-- strings.Contains -/
theorem contains_any (t p : Bytes) (w : World) (hm : MaxLenIs w) (ht : t.length < 4294967281) :
    Calls Try.prog 62 #[S t, S p] w fun e w' => e = .returned (.bool (stands p t)) ∧ w = w' := by
  obtain ⟨m, hm⟩ := hm
  refine (Try.strings_Contains ⟨t.toArray⟩ ⟨p.toArray⟩ m w ht hm).mono ?_
  rintro e w' ⟨rfl, rfl⟩
  refine ⟨?_, rfl⟩
  rw [← contains_stands]

theorem stands_short {p t : Bytes} (h : t.length < p.length) : stands p t = false := by
  rw [Bool.eq_false_iff]
  intro hs
  obtain ⟨a, b, rfl⟩ := (stands_iff p t).1 hs
  simp at h; omega
theorem stands_at {p t : Bytes} {i : Nat} (h : i + p.length ≤ t.length) (he : slice t i (i + p.length) = p) : stands p (t.drop i) = true := by
  rw [stands_iff]
  refine ⟨[], t.drop (i + p.length), ?_⟩
  rw [List.nil_append]
  have := slice_split (t := t) (a := i) (b := i + p.length) (by omega)
  rw [he] at this
  have hl : (t.take i).length = i := by rw [List.length_take]; omega
  conv => lhs; rw [this]
  rw [List.append_assoc, List.drop_left' hl]
theorem stands_next {p t : Bytes} {i : Nat} (h : i + p.length ≤ t.length) (he : slice t i (i + p.length) ≠ p) : i < t.length ∧ stands p (t.drop i) = stands p (t.drop (i + 1)) := by
  have hi : i < t.length := by
    rcases Nat.lt_or_ge i t.length with h1 | h1
    · exact h1
    · exfalso
      apply he
      have hp : p = [] := List.eq_nil_of_length_eq_zero (by omega)
      rw [hp]
      apply List.eq_nil_of_length_eq_zero
      rw [slice_len]; simp; omega
  refine ⟨hi, ?_⟩
  rw [List.drop_eq_getElem_cons hi, stands]
  have : p.isPrefixOf (t[i] :: t.drop (i + 1)) = false := by
    rw [Bool.eq_false_iff]
    intro hx
    rw [List.isPrefixOf_iff_prefix, ← List.drop_eq_getElem_cons hi] at hx
    obtain ⟨r, hr⟩ := hx
    apply he
    unfold slice
    rw [List.drop_take, ← hr]
    have : i + p.length - i = p.length := by omega
    rw [this, List.take_left' rfl]
  rw [this, Bool.false_or]

set_option maxHeartbeats 1000000 in
set_option maxRecDepth 100000 in
/-- the reference's own -/
theorem standsR_any (p t : Bytes) (w : World) (hp : p.length ≤ 1000000000) (ht : t.length ≤ 1000000000) :
    Calls Try.prog 64 #[S p, S t] w fun e w' => e = .returned (.bool (stands p t)) ∧ w = w' := by
  go_enter Try.func64, Try.ntmps64
  go_wp2_with fail
  go_loop [5] (fun i => ∃ k : Nat, k ≤ t.length ∧ i = .int .i64 k ∧ stands p t = stands p (t.drop k)) (fun i => t.length - (intOf i).toNat)
  case atStart => exact ⟨0, Nat.zero_le _, rfl, by simp⟩
  case round =>
    obtain ⟨k, hk, rfl, hs⟩ := hrel
    have HS := hide hs
    clear hs
    by_cases h1 : k + p.length ≤ t.length
    · have h2 : (k : Int) + (p.length : Int) ≤ (t.length : Int) := by omega
      have e1 : IntKind.i64.wrap ((k : Int) + (p.length : Int)) = (k : Int) + (p.length : Int) := IntWalk.i64_in _ ⟨by omega, by omega⟩
      have e2 : (0 : Int) ≤ (k : Int) + (p.length : Int) := by omega
      have e3 : ((k : Int) + (p.length : Int)).toNat = k + p.length := by omega
      have e4 : k ≤ k + p.length := by omega
      by_cases he : slice t k (k + p.length) = p
      · have hr : stands p t = true := by rw [unhide HS]; exact stands_at h1 he
        have q1 : (slice t k (k + p.length) == p) = true := by simpa using he
        have HR := hide hr
        clear hr he
        go_wp2_with fail
        go_ret
        exact ⟨by rw [unhide HR]; rfl, rfl⟩
      · obtain ⟨h3, h4⟩ := stands_next h1 he
        have q1 : (slice t k (k + p.length) == p) = false := by simpa using he
        have H4 := hide h4
        clear h4 he
        go_wp2_with fail
        go_round
        case rel => exact ⟨k + 1, by omega, by go_num, by rw [unhide HS, unhide H4]⟩
        case measure => simp [intOf]; omega
    · have h2 : (t.length : Int) < (k : Int) + (p.length : Int) := by omega
      have hr : stands p t = false := by rw [unhide HS]; exact stands_short (by simp; omega)
      have HR := hide hr
      clear hr
      go_wp2_with fail
      go_ret
      exact ⟨by rw [unhide HR]; rfl, rfl⟩

end Go.Proofs.Ytgfkkjcnnecefaa
