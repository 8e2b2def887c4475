/- Plain mathematics of chapter 5: training. No program in sight. -/
import Derived.Test.YtgfkkjcnnecefabBkG3
import Derived.Test.YtgfkkjcnnecefabShelf
import Derived.Lib.IndexMore
import Derived.Maps.OwnOps
import Derived.Maps.Views
import Derived.Maps.RangeWalk
import Derived.Shelf.SlSortCmp.WholeK
import Derived.Test.YtgfkkjcnnecefabShelfB
import Derived.Deep.RegionHeld3
import Derived.Shelf.SlSortCmp.NoneTotal
import Derived.RegionTactic
import Derived.Deep.RegionWith
import Derived.Deep.QuietTactic
import Derived.BigQuiet
import Derived.Deep.WholeRow
import Derived.Laws.CopyOwn
import Derived.OneCell

namespace Go.Proofs.Ytgfkkjcnnecefab
namespace Pl

/-- does a piece stand in a text? -/
def stands (p : Bytes) : Bytes → Bool
  | [] => p.isEmpty
  | c :: t => p.isPrefixOf (c :: t) || stands p t

theorem stands_iff (p : Bytes) : ∀ t : Bytes, stands p t = true ↔ ∃ a b, t = a ++ p ++ b
  | [] => by
    simp only [stands, List.isEmpty_iff]
    constructor
    · rintro rfl; exact ⟨[], [], rfl⟩
    · rintro ⟨a, b, h⟩
      have := congrArg List.length h
      simp at this
      exact List.eq_nil_of_length_eq_zero (by omega)
  | c :: t => by
    simp only [stands, Bool.or_eq_true, List.isPrefixOf_iff_prefix]
    rw [stands_iff p t]
    constructor
    · rintro (⟨b, h⟩ | ⟨a, b, h⟩)
      · exact ⟨[], b, by simp [h]⟩
      · exact ⟨c :: a, b, by simp [h]⟩
    · rintro ⟨a, b, h⟩
      cases a with
      | nil => exact .inl ⟨b, by simpa using h.symm⟩
      | cons d a =>
        simp at h
        exact .inr ⟨a, b, by simp [h.2]⟩
theorem stands_app {p t : Bytes} (x : Bytes) (h : stands p t = true) : stands p (x ++ t) = true := by
  obtain ⟨a, b, rfl⟩ := (stands_iff p t).1 h
  exact (stands_iff p _).2 ⟨x ++ a, b, by simp⟩
theorem stands_head (p t : Bytes) : stands p (p ++ t) = true := (stands_iff p _).2 ⟨[], t, by simp⟩

/-- the pieces of a text, in their order -/
def piece (t : Bytes) (k : Nat) : Bytes := slice t k (k + 4)
def piecesOf (t : Bytes) : List Bytes := (List.range (t.length - 3)).map (piece t)
theorem piece_len {t : Bytes} {k : Nat} (h : k < t.length - 3) : (piece t k).length = 4 := by unfold piece; rw [slice_len]; omega
theorem piecesOf_get {t : Bytes} {k : Nat} (h : k < t.length - 3) : (piecesOf t)[k]? = some (piece t k) := by unfold piecesOf; rw [List.getElem?_map, List.getElem?_range h]; rfl
theorem piecesOf_len (t : Bytes) : (piecesOf t).length = t.length - 3 := by simp [piecesOf]

theorem slice_split {t : Bytes} {a b : Nat} (h : a ≤ b) : t = t.take a ++ slice t a b ++ t.drop b := by
  unfold slice
  have h1 : t.take a ++ (t.take b).drop a = t.take b := by
    have : t.take a = (t.take b).take a := by rw [List.take_take, Nat.min_eq_left h]
    rw [this, List.take_append_drop]
  rw [h1, List.take_append_drop]
theorem mem_piecesOf {p t : Bytes} (hp : p.length = 4) : p ∈ piecesOf t ↔ stands p t = true := by
  rw [stands_iff]
  unfold piecesOf
  simp only [List.mem_map, List.mem_range]
  constructor
  · rintro ⟨k, hk, rfl⟩
    exact ⟨t.take k, t.drop (k + 4), slice_split (by omega)⟩
  · rintro ⟨a, b, rfl⟩
    refine ⟨a.length, by simp; omega, ?_⟩
    unfold piece slice
    have : a.length + 4 = (a ++ p).length := by simp [hp]
    rw [this, List.take_left' rfl, List.drop_left' rfl]
theorem mem_piecesOf_len {p t : Bytes} (h : p ∈ piecesOf t) : p.length = 4 := by
  unfold piecesOf at h
  simp only [List.mem_map, List.mem_range] at h
  obtain ⟨k, hk, rfl⟩ := h
  exact piece_len hk

/-- in how many texts a piece stands -/
def cnt (l : List Bytes) (p : Bytes) : Nat := (l.filter (stands p)).length
def allPieces (l : List Bytes) : List Bytes := l.flatMap piecesOf
theorem cnt_pos {l : List Bytes} {p : Bytes} (hp : p.length = 4) : 0 < cnt l p ↔ p ∈ allPieces l := by
  unfold cnt allPieces
  rw [List.length_pos_iff_exists_mem]
  simp only [List.mem_filter, List.mem_flatMap]
  constructor
  · rintro ⟨t, h1, h2⟩; exact ⟨t, h1, (mem_piecesOf hp).2 h2⟩
  · rintro ⟨t, h1, h2⟩; exact ⟨t, h1, (mem_piecesOf hp).1 h2⟩
theorem cnt_le (l : List Bytes) (p : Bytes) : cnt l p ≤ l.length := List.length_filter_le _ _
theorem allPieces_len {l : List Bytes} {p : Bytes} (h : p ∈ allPieces l) : p.length = 4 := by
  unfold allPieces at h
  obtain ⟨t, _, ht⟩ := List.mem_flatMap.1 h
  exact mem_piecesOf_len ht

/-- bytes, one before the other -/
def lessB : Bytes → Bytes → Bool
  | _, [] => false
  | [], _ :: _ => true
  | a :: x, b :: y => a < b || (a == b && lessB x y)
theorem lessB_irrefl : ∀ a : Bytes, lessB a a = false
  | [] => rfl
  | a :: x => by
    have : ¬ a < a := by rw [UInt8.lt_iff_toNat_lt]; omega
    simp [lessB, lessB_irrefl x, this]
theorem lessB_trans : ∀ {a b c : Bytes}, lessB a b = true → lessB b c = true → lessB a c = true
  | _, _, [], _, h2 => by cases ‹Bytes› <;> simp [lessB] at h2
  | _, [], _ :: _, h1, _ => by cases ‹Bytes› <;> simp [lessB] at h1
  | [], _ :: _, _ :: _, _, _ => rfl
  | a :: x, b :: y, c :: z, h1, h2 => by
    simp only [lessB, Bool.or_eq_true, decide_eq_true_eq, Bool.and_eq_true, beq_iff_eq] at h1 h2 ⊢
    simp only [UInt8.lt_iff_toNat_lt] at h1 h2 ⊢
    rcases h1 with h1 | ⟨rfl, h1⟩
    · rcases h2 with h2 | ⟨rfl, h2⟩
      · exact .inl (by omega)
      · exact .inl h1
    · rcases h2 with h2 | ⟨rfl, h2⟩
      · exact .inl h2
      · exact .inr ⟨rfl, lessB_trans h1 h2⟩
theorem lessB_total : ∀ {a b : Bytes}, lessB a b = false → lessB b a = false → a = b
  | [], [], _, _ => rfl
  | [], _ :: _, h, _ => by simp [lessB] at h
  | _ :: _, [], _, h => by simp [lessB] at h
  | a :: x, b :: y, h1, h2 => by
    simp only [lessB, Bool.or_eq_false_iff, decide_eq_false_iff_not, Bool.and_eq_false_iff] at h1 h2
    simp only [UInt8.lt_iff_toNat_lt] at h1 h2
    obtain ⟨h1, h3⟩ := h1
    obtain ⟨h2, h4⟩ := h2
    have e : a = b := by apply UInt8.toNat_inj.1; omega
    subst e
    rcases h3 with h3 | h3
    · simp at h3
    · rcases h4 with h4 | h4
      · simp at h4
      · rw [lessB_total h3 h4]

/-- the better piece comes first -/
def better (a b : Bytes × Nat) : Bool := decide (b.2 < a.2) || (a.2 == b.2 && lessB a.1 b.1)
theorem better_irrefl (a : Bytes × Nat) : better a a = false := by simp [better, lessB_irrefl]
theorem better_trans {a b c : Bytes × Nat} (h1 : better a b = true) (h2 : better b c = true) : better a c = true := by
  simp only [better, Bool.or_eq_true, decide_eq_true_eq, Bool.and_eq_true, beq_iff_eq] at h1 h2 ⊢
  rcases h1 with h1 | ⟨e1, h1⟩
  · rcases h2 with h2 | ⟨e2, h2⟩
    · exact .inl (by omega)
    · exact .inl (by omega)
  · rcases h2 with h2 | ⟨e2, h2⟩
    · exact .inl (by omega)
    · exact .inr ⟨by omega, lessB_trans h1 h2⟩
theorem better_total {a b : Bytes × Nat} (h1 : better a b = false) (h2 : better b a = false) : a = b := by
  simp only [better, Bool.or_eq_false_iff, decide_eq_false_iff_not, Bool.and_eq_false_iff] at h1 h2
  obtain ⟨x, n⟩ := a
  obtain ⟨y, m⟩ := b
  simp only at h1 h2
  have e : n = m := by omega
  subst e
  have h3 : lessB x y = false := by rcases h1.2 with h | h; simp at h; exact h
  have h4 : lessB y x = false := by rcases h2.2 with h | h; simp at h; exact h
  rw [lessB_total h3 h4]

/-- what is taken of the pieces, the best one first -/
def greedy (size : Nat) : Bytes → List Bytes → Bytes
  | dict, [] => dict
  | dict, p :: c => if size < dict.length + 4 then dict else if stands p dict then greedy size dict c else greedy size (p ++ dict) c

/-- C is the pieces that stand in two texts at least, each once, the best one first. -/
structure Cands (l : List Bytes) (c : List Bytes) : Prop where
  mem : ∀ p, p ∈ c ↔ p ∈ allPieces l ∧ 1 < cnt l p
  sorted : c.Pairwise fun a b => better (a, cnt l a) (b, cnt l b) = true
theorem cands_unique {l c d : List Bytes} (hc : Cands l c) (hd : Cands l d) : c = d := by
  have key : ∀ (c d : List Bytes), c.Pairwise (fun a b => better (a, cnt l a) (b, cnt l b) = true) → d.Pairwise (fun a b => better (a, cnt l a) (b, cnt l b) = true) → (∀ p, p ∈ c ↔ p ∈ d) → c = d := by
    intro c
    induction c with
    | nil => intro d _ _ h; cases d with
      | nil => rfl
      | cons x d => exact absurd ((h x).2 (by simp)) (by simp)
    | cons x c ih =>
      intro d h1 h2 h
      cases d with
      | nil => exact absurd ((h x).1 (by simp)) (by simp)
      | cons y d =>
        rw [List.pairwise_cons] at h1 h2
        have e : x = y := by
          have hx := (h x).1 (by simp)
          have hy := (h y).2 (by simp)
          rcases List.mem_cons.1 hx with e | hx
          · exact e
          · rcases List.mem_cons.1 hy with e | hy
            · exact e.symm
            · have a := h1.1 y hy
              have b := h2.1 x hx
              have := better_trans a b
              rw [better_irrefl] at this; cases this
        subst e
        have nx : ∀ {z : List Bytes}, (∀ a ∈ z, better (x, cnt l x) (a, cnt l a) = true) → x ∉ z := fun hz hx => by
          have := hz x hx
          rw [better_irrefl] at this; cases this
        rw [ih d h1.2 h2.2 fun p => ?_]
        constructor
        · intro hp
          have := (h p).1 (by simp [hp])
          rcases List.mem_cons.1 this with e | this
          · subst e; exact absurd hp (nx h1.1)
          · exact this
        · intro hp
          have := (h p).2 (by simp [hp])
          rcases List.mem_cons.1 this with e | this
          · subst e; exact absurd hp (nx h2.1)
          · exact this
  exact key c d hc.sorted hd.sorted fun p => by rw [hc.mem, hd.mem]

/-- the reference's own: the best of some pieces that does not stand in the dictionary yet -/
def bestStep (l : List Bytes) (dict : Bytes) (b : Bytes × Nat) (p : Bytes) : Bytes × Nat :=
  if ((b.2 < cnt l p) ∨ (cnt l p = b.2 ∧ 1 < cnt l p ∧ lessB p b.1 = true)) ∧ stands p dict = false then (p, cnt l p) else b
def bestOf (l : List Bytes) (dict : Bytes) (ps : List Bytes) : Bytes × Nat := ps.foldl (bestStep l dict) ([], 1)
def trainR (l : List Bytes) (size : Nat) : Nat → Bytes → Bytes
  | 0, dict => dict
  | f + 1, dict => if dict.length + 4 ≤ size then (if (bestOf l dict (allPieces l)).1 = [] then dict else trainR l size f ((bestOf l dict (allPieces l)).1 ++ dict)) else dict

/-- what the best of some pieces is -/
def IsBest (l : List Bytes) (dict : Bytes) (ps : List Bytes) (b : Bytes × Nat) : Prop :=
  (b = ([], 1) ∧ ∀ q ∈ ps, 1 < cnt l q → stands q dict = true) ∨
  (b.1 ∈ ps ∧ b.2 = cnt l b.1 ∧ 1 < b.2 ∧ stands b.1 dict = false ∧ ∀ q ∈ ps, 1 < cnt l q → stands q dict = false → q = b.1 ∨ better b (q, cnt l q) = true)
theorem isBest_step {l : List Bytes} {dict : Bytes} {ps : List Bytes} {b : Bytes × Nat} (h : IsBest l dict ps b) (p : Bytes) (hne : p ≠ []) : IsBest l dict (ps ++ [p]) (bestStep l dict b p) := by
  unfold bestStep
  by_cases hc : ((b.2 < cnt l p) ∨ (cnt l p = b.2 ∧ 1 < cnt l p ∧ lessB p b.1 = true)) ∧ stands p dict = false
  · rw [if_pos hc]
    obtain ⟨hc, hs⟩ := hc
    right
    rcases h with ⟨rfl, h⟩ | ⟨h1, h2, h3, h4, h5⟩
    · have hp : 1 < cnt l p := by rcases hc with hc | hc <;> simp at hc <;> omega
      refine ⟨by simp, rfl, hp, hs, fun q hq hq1 hq2 => ?_⟩
      rcases List.mem_append.1 hq with hq | hq
      · rw [h q hq hq1] at hq2; cases hq2
      · exact .inl (by simpa using hq)
    · have hp : 1 < cnt l p := by rcases hc with hc | hc <;> omega
      have hb : better (p, cnt l p) b = true := by
        simp only [better, Bool.or_eq_true, decide_eq_true_eq, Bool.and_eq_true, beq_iff_eq]
        rcases hc with hc | ⟨hc, _, hl⟩
        · exact .inl hc
        · exact .inr ⟨hc, hl⟩
      refine ⟨by simp, rfl, hp, hs, fun q hq hq1 hq2 => ?_⟩
      rcases List.mem_append.1 hq with hq | hq
      · rcases h5 q hq hq1 hq2 with e | h6
        · right; rw [e]
          have : (b.1, cnt l b.1) = b := by rw [← h2]
          rw [this]; exact hb
        · exact .inr (better_trans hb h6)
      · exact .inl (by simpa using hq)
  · rw [if_neg hc]
    rcases h with ⟨rfl, h⟩ | ⟨h1, h2, h3, h4, h5⟩
    · left
      refine ⟨rfl, fun q hq hq1 => ?_⟩
      rcases List.mem_append.1 hq with hq | hq
      · exact h q hq hq1
      · have hq : q = p := by simpa using hq
        subst hq
        cases hs : stands q dict with
        | true => rfl
        | false => exact absurd ⟨.inl hq1, hs⟩ hc
    · right
      refine ⟨by simp [h1], h2, h3, h4, fun q hq hq1 hq2 => ?_⟩
      rcases List.mem_append.1 hq with hq | hq
      · exact h5 q hq hq1 hq2
      · have hq : q = p := by simpa using hq
        subst hq
        by_cases e : q = b.1
        · exact .inl e
        · right
          have hn : ¬ (b.2 < cnt l q ∨ (cnt l q = b.2 ∧ 1 < cnt l q ∧ lessB q b.1 = true)) := fun h => hc ⟨h, hq2⟩
          simp only [not_or, not_and] at hn
          simp only [better, Bool.or_eq_true, decide_eq_true_eq, Bool.and_eq_true, beq_iff_eq]
          by_cases h6 : cnt l q < b.2
          · exact .inl h6
          · have h7 : b.2 = cnt l q := by omega
            refine .inr ⟨h7, ?_⟩
            have h8 := hn.2 h7.symm hq1
            cases h9 : lessB b.1 q with
            | true => rfl
            | false => exact absurd (lessB_total (by simpa using h8) h9) e
theorem bestOf_is (l : List Bytes) (dict : Bytes) (ps : List Bytes) (hne : ∀ p ∈ ps, p ≠ []) : IsBest l dict ps (bestOf l dict ps) := by
  have key : ∀ (ps done : List Bytes) (b : Bytes × Nat), (∀ p ∈ ps, p ≠ []) → IsBest l dict done b → IsBest l dict (done ++ ps) (ps.foldl (bestStep l dict) b) := by
    intro ps
    induction ps with
    | nil => intro done b _ h; simpa using h
    | cons p ps ih =>
      intro done b hn h
      have := ih (done ++ [p]) _ (fun q hq => hn q (by simp [hq])) (isBest_step h p (hn p (by simp)))
      simpa using this
  have := key ps [] ([], 1) hne (.inl ⟨rfl, by simp⟩)
  unfold bestOf
  simpa using this

theorem trainR_greedy {l c : List Bytes} (size : Nat) (hc : Cands l c) : ∀ (f : Nat) (dict : Bytes) (done rest : List Bytes), c = done ++ rest → (∀ p ∈ done, stands p dict = true) → size < dict.length + 4 + 4 * f →
    trainR l size f dict = greedy size dict rest := by
  intro f
  induction f with
  | zero =>
    intro dict done rest h1 h2 h3
    rw [trainR]
    cases rest with
    | nil => rfl
    | cons p rest => rw [greedy, if_pos (by omega)]
  | succ f ih =>
    intro dict done rest
    induction rest generalizing done with
    | nil =>
      intro h1 h2 h3
      rw [trainR, greedy]
      have hb := bestOf_is l dict (allPieces l) (fun p hp e => by have := allPieces_len hp; rw [e] at this; simp at this)
      rcases hb with ⟨hb, _⟩ | ⟨h4, h5, h6, h7, _⟩
      · rw [hb]; simp
      · have hm := (hc.mem (bestOf l dict (allPieces l)).1).2 ⟨h4, by omega⟩
        rw [h1, List.append_nil] at hm
        rw [h2 _ hm] at h7; cases h7
    | cons p rest ih2 =>
      intro h1 h2 h3
      by_cases hz : size < dict.length + 4
      · rw [trainR, greedy, if_pos hz, if_neg (by omega)]
      · by_cases hs : stands p dict = true
        · rw [greedy, if_neg hz, if_pos hs]
          exact ih2 (done ++ [p]) (by rw [h1]; simp) (fun q hq => by
            rcases List.mem_append.1 hq with hq | hq
            · exact h2 q hq
            · have : q = p := by simpa using hq
              rw [this]; exact hs) h3
        · rw [greedy, if_neg hz, if_neg hs, trainR, if_pos (by omega)]
          have hs : stands p dict = false := by simpa using hs
          have hpc := (hc.mem p).1 (by rw [h1]; simp)
          have hpl := allPieces_len hpc.1
          have hb := bestOf_is l dict (allPieces l) (fun p hp e => by have := allPieces_len hp; rw [e] at this; simp at this)
          have hbe : (bestOf l dict (allPieces l)).1 = p := by
            rcases hb with ⟨_, h4⟩ | ⟨h4, h5, h6, h7, h8⟩
            · rw [h4 p hpc.1 hpc.2] at hs; cases hs
            · have hm := (hc.mem (bestOf l dict (allPieces l)).1).2 ⟨h4, by omega⟩
              rw [h1] at hm
              rcases List.mem_append.1 hm with hm | hm
              · rw [h2 _ hm] at h7; cases h7
              · rcases List.mem_cons.1 hm with hm | hm
                · exact hm
                · have hsrt := hc.sorted
                  rw [h1, List.pairwise_append, List.pairwise_cons] at hsrt
                  have h9 := hsrt.2.1.1 _ hm
                  rcases h8 p hpc.1 hpc.2 hs with e | h10
                  · exact e.symm
                  · rw [← h5] at h9
                    have := better_trans h9 h10
                    rw [better_irrefl] at this; cases this
          rw [hbe, if_neg (by intro e; rw [e] at hpl; simp at hpl)]
          exact ih (p ++ dict) (done ++ [p]) rest (by rw [h1]; simp) (fun q hq => by
            rcases List.mem_append.1 hq with hq | hq
            · exact stands_app p (h2 q hq)
            · have : q = p := by simpa using hq
              rw [this]; exact stands_head p dict) (by simp [hpl]; omega)
/-- E2: the reference's dictionary is what is taken of the pieces -/
theorem trainR_eq {l c : List Bytes} {size f : Nat} (hc : Cands l c) (hf : size < 4 + 4 * f) : trainR l size f [] = greedy size [] c :=
  trainR_greedy size hc f [] [] c rfl (by simp) (by simpa using hf)

/-- E3: what is known of the dictionary: its pieces, each once, the last one first -/
def chunks : List Bytes → Bytes
  | [] => []
  | p :: c => p ++ chunks c
theorem greedy_chunks {size : Nat} : ∀ (c : List Bytes) (ds : List Bytes), (∀ p ∈ c, p.length = 4) → (∀ p ∈ ds, p.length = 4) → ds.Nodup → (chunks ds).length ≤ size →
    ∃ es, greedy size (chunks ds) c = chunks es ∧ (∀ p ∈ es, p.length = 4) ∧ es.Nodup ∧ (chunks es).length ≤ size ∧ ∀ p ∈ es, p ∈ ds ∨ p ∈ c
  | [], ds, _, h2, h3, h4 => ⟨ds, rfl, h2, h3, h4, fun p hp => .inl hp⟩
  | p :: c, ds, h1, h2, h3, h4 => by
    rw [greedy]
    by_cases hz : size < (chunks ds).length + 4
    · rw [if_pos hz]; exact ⟨ds, rfl, h2, h3, h4, fun p hp => .inl hp⟩
    · rw [if_neg hz]
      by_cases hs : stands p (chunks ds) = true
      · rw [if_pos hs]
        obtain ⟨es, a, b, d, e, g⟩ := greedy_chunks (size := size) c ds (fun q hq => h1 q (by simp [hq])) h2 h3 h4
        exact ⟨es, a, b, d, e, fun q hq => (g q hq).imp id (by simp +contextual)⟩
      · rw [if_neg hs]
        have hp4 := h1 p (by simp)
        have hn : p ∉ ds := by
          intro hm
          apply hs
          rw [stands_iff]
          have : ∀ ds : List Bytes, p ∈ ds → ∃ a b, chunks ds = a ++ p ++ b := by
            intro ds
            induction ds with
            | nil => intro h; cases h
            | cons x ds ih =>
              intro h
              rcases List.mem_cons.1 h with e | h
              · subst e; exact ⟨[], chunks ds, by simp [chunks]⟩
              · obtain ⟨a, b, e⟩ := ih h
                exact ⟨x ++ a, b, by simp [chunks, e]⟩
          exact this ds hm
        obtain ⟨es, a, b, d, e, g⟩ := greedy_chunks (size := size) c (p :: ds) (fun q hq => h1 q (by simp [hq])) (by simpa [hp4] using h2) (List.nodup_cons.2 ⟨hn, h3⟩) (by rw [chunks, List.length_append, hp4]; omega)
        refine ⟨es, a, b, d, e, fun q hq => ?_⟩
        rcases g q hq with h | h
        · rcases List.mem_cons.1 h with e | h
          · exact .inr (by simp [e])
          · exact .inl h
        · exact .inr (by simp [h])
theorem chunks_len : ∀ (es : List Bytes), (∀ p ∈ es, p.length = 4) → (chunks es).length = 4 * es.length
  | [], _ => rfl
  | p :: es, h => by simp [chunks, chunks_len es (fun q hq => h q (by simp [hq])), h p (by simp)]; omega
theorem chunks_get : ∀ (es : List Bytes) (i : Nat), (∀ p ∈ es, p.length = 4) → i < es.length → slice (chunks es) (4 * i) (4 * i + 4) = es.getD i []
  | [], i, _, h => by simp at h
  | p :: es, 0, h, _ => by
    have hp := h p (by simp)
    unfold slice
    simp [chunks, ← hp]
  | p :: es, i + 1, h, hi => by
    have hp := h p (by simp)
    have ih := chunks_get es i (fun q hq => h q (by simp [hq])) (by simpa using hi)
    unfold slice at ih ⊢
    have e1 : 4 * (i + 1) + 4 = p.length + (4 * i + 4) := by omega
    have e2 : 4 * (i + 1) = p.length + 4 * i := by omega
    rw [chunks, e1, e2, List.take_length_add_append, List.drop_length_add_append]
    simpa using ih

/-- E1 -/
def big (t : Bytes) : Bool := decide (512 < t.length)
def manyB (l : List Bytes) : Bool := decide (12 < l.length) || l.any big
theorem manyB_no {l : List Bytes} (h : manyB l = false) : l.length ≤ 12 ∧ ∀ t ∈ l, t.length ≤ 512 := by
  simp only [manyB, Bool.or_eq_false_iff, decide_eq_false_iff_not, List.any_eq_false] at h
  refine ⟨by omega, fun t ht => ?_⟩
  have := h.2 t ht
  simp only [big, decide_eq_true_eq] at this
  omega
/-- E2 -/
def trainOf (l : List Bytes) (size : Nat) : Bytes := trainR l size 64 []
def trainE (l : List Bytes) (size : Int) : Nat := if manyB l = true then 2 else if size < 0 ∨ 256 < size then 3 else 0
def trainD (l : List Bytes) (size : Int) : Bytes := if manyB l = true then [] else if size < 0 ∨ 256 < size then [] else trainOf l size.toNat
theorem trainOf_eq {l c : List Bytes} {size : Nat} (hc : Cands l c) (hs : size ≤ 256) : trainOf l size = greedy size [] c := trainR_eq hc (by omega)
theorem trainR_len (l : List Bytes) (size : Nat) : ∀ (f : Nat) (dict : Bytes), dict.length ≤ size → (trainR l size f dict).length ≤ size
  | 0, dict, h => by rw [trainR]; exact h
  | f + 1, dict, h => by
    rw [trainR]
    split
    · split
      · exact h
      · rename_i h1 h2
        refine trainR_len l size f _ ?_
        have hb : (bestOf l dict (allPieces l)).1.length = 4 := by
          rcases bestOf_is l dict (allPieces l) (fun p hp e => by have := allPieces_len hp; rw [e] at this; simp at this) with h3 | h3
          · exact absurd (by rw [h3.1]) h2
          · exact allPieces_len h3.1
        rw [List.length_append, hb]; omega
    · exact h
theorem trainOf_len (l : List Bytes) (size : Nat) : (trainOf l size).length ≤ size := trainR_len l size 64 [] (Nat.zero_le _)
theorem trainD_len (l : List Bytes) (size : Int) : (trainD l size).length ≤ 256 := by
  unfold trainD
  split
  · simp
  · split
    · simp
    · have := trainOf_len l size.toNat
      omega

end Pl
end Go.Proofs.Ytgfkkjcnnecefab

/- A slice of strings that reads as a list; does a piece stand in a text. -/
namespace Go.Proofs.Ytgfkkjcnnecefab
open Go.RowKit Go.Lib Pl
attribute [local go_sem] ext_list app_list

/-- The slice of address A and length n reads as the list l, below block Bd. -/
def StrsAt (w : World) (Bd : Nat) (A : Option Addr) (n : Nat) (l : List Bytes) : Prop :=
  l.length = n ∧ (0 < n → ∃ b off, A = some ⟨b, off, none⟩ ∧ b < Bd ∧ ∀ i t, l[i]? = some t → w.cell? ⟨b, off + i, none⟩ = some (S t))
theorem StrsAt.keep {w w' : World} {Bd n : Nat} {A : Option Addr} {l : List Bytes} (h : StrsAt w Bd A n l) (hk : ∀ p : Addr, p.block < Bd → w'.cell? p = w.cell? p) : StrsAt w' Bd A n l :=
  ⟨h.1, fun hn => by
    obtain ⟨b, off, e, hb, hc⟩ := h.2 hn
    exact ⟨b, off, e, hb, fun i t hi => (hk _ hb).trans (hc i t hi)⟩⟩
theorem StrsAt.below {w w' : World} {Bd n : Nat} {A : Option Addr} {l : List Bytes} (h : StrsAt w Bd A n l) (hb : Below Bd w w') : StrsAt w' Bd A n l := h.keep fun _ hp => hb.cell hp
theorem StrsAt.up {w w' : World} {n : Nat} {A : Option Addr} {l : List Bytes} (h : StrsAt w w.heap.size A n l) (hb : Below w.heap.size w w') : StrsAt w' w'.heap.size A n l := by
  have h1 := h.below hb
  exact ⟨h1.1, fun hn => by obtain ⟨b, off, e, hlt, hc⟩ := h1.2 hn; exact ⟨b, off, e, Nat.lt_of_lt_of_le hlt hb.size, hc⟩⟩
theorem StrsAt.at_ {w : World} {Bd n k : Nat} {A : Option Addr} {l : List Bytes} (h : StrsAt w Bd A n l) (hk : k < n) : ∃ b off t, A = some ⟨b, off, none⟩ ∧ b < Bd ∧ l[k]? = some t ∧ w.cell? ⟨b, off + k, none⟩ = some (S t) := by
  obtain ⟨b, off, e, hb, hc⟩ := h.2 (by omega)
  have hl : k < l.length := by have := h.1; omega
  exact ⟨b, off, l[k], e, hb, List.getElem?_eq_getElem hl, hc k _ (List.getElem?_eq_getElem hl)⟩

theorem index_stands (p : Bytes) : ∀ t : Bytes, 0 ≤ Lib.index t p ↔ stands p t = true
  | [] => by
    rcases Lib.index_spec [] p with ⟨h1, h2⟩ | ⟨i, h1, h2, h3, _⟩
    · have := h2 0 (Nat.zero_le _)
      rw [h1]
      unfold stands
      cases p with
      | nil => simp [Lib.occAt] at this
      | cons a p => simp
    · rw [h1]
      have hi : i = 0 := by simpa using h2
      subst hi
      cases p with
      | nil => simp [stands]
      | cons a p => simp [Lib.occAt] at h3
  | c :: t => by
    rw [Lib.index, stands]
    by_cases h : p.isPrefixOf (c :: t) = true
    · rw [if_pos h, h]; simp
    · rw [if_neg h]
      have h' : p.isPrefixOf (c :: t) = false := Bool.eq_false_iff.2 h
      rw [h', Bool.false_or, ← index_stands p t]
      rcases Lib.index_spec t p with ⟨h1, _⟩ | ⟨i, h1, _⟩
      · rw [h1]; decide
      · rw [h1]
        have : ((i : Int) == -1) = false := by rw [beq_eq_false_iff_ne]; omega
        simp [this]; omega
theorem contains_stands (p t : Bytes) : Lib.contains t p = stands p t := by
  unfold Lib.contains
  rw [Bool.eq_iff_iff, decide_eq_true_eq]
  exact index_stands p t

theorem stands_short {p t : Bytes} (h : t.length < p.length) : stands p t = false := by
  rw [Bool.eq_false_iff]
  intro hs
  obtain ⟨a, b, rfl⟩ := (stands_iff p t).1 hs
  simp at h; omega
theorem stands_at {p t : Bytes} {i : Nat} (h : i + p.length ≤ t.length) (he : slice t i (i + p.length) = p) : stands p (t.drop i) = true := by
  rw [stands_iff]
  refine ⟨[], t.drop (i + p.length), ?_⟩
  rw [List.nil_append]
  have := slice_split (t := t) (a := i) (b := i + p.length) (by omega)
  rw [he] at this
  have hl : (t.take i).length = i := by rw [List.length_take]; omega
  conv => lhs; rw [this]
  rw [List.append_assoc, List.drop_left' hl]
theorem stands_next {p t : Bytes} {i : Nat} (h : i + p.length ≤ t.length) (he : slice t i (i + p.length) ≠ p) : i < t.length ∧ stands p (t.drop i) = stands p (t.drop (i + 1)) := by
  have hi : i < t.length := by
    rcases Nat.lt_or_ge i t.length with h1 | h1
    · exact h1
    · exfalso
      apply he
      have hp : p = [] := List.eq_nil_of_length_eq_zero (by omega)
      rw [hp]
      apply List.eq_nil_of_length_eq_zero
      rw [slice_len]; simp; omega
  refine ⟨hi, ?_⟩
  rw [List.drop_eq_getElem_cons hi, stands]
  have : p.isPrefixOf (t[i] :: t.drop (i + 1)) = false := by
    rw [Bool.eq_false_iff]
    intro hx
    rw [List.isPrefixOf_iff_prefix, ← List.drop_eq_getElem_cons hi] at hx
    obtain ⟨r, hr⟩ := hx
    apply he
    unfold slice
    rw [List.drop_take, ← hr]
    have : i + p.length - i = p.length := by omega
    rw [this, List.take_left' rfl]
  rw [this, Bool.false_or]

end Go.Proofs.Ytgfkkjcnnecefab

/- A map of the call's own from strings to numbers, as a function. -/
namespace Go.Proofs.Ytgfkkjcnnecefab
open Go.RowKit Go.Lib Pl Go.ChangeMaps Go.MapKept Go.ChangeShapes
open Go.WideElems (Fit)
open Go.Maps (Keyed string_keyed IsMap atKey_put_same atKey_put_other)

theorem keyedS : Keyed Try.prog 9 := string_keyed Try.underlying9
theorem zero_int (w : World) : (zeroValue 3).run Try.prog w = .ok (.int .i64 0) w := by kernel_rfl
theorem keyS {kb : Bytes} (h : kb.length ≤ 1000000000) : keyOf Try.prog 9 (S kb) = some (.string kb) := by
  have hsz : (⟨kb.toArray⟩ : ByteArray).size ≤ maxLen := by show kb.length ≤ _; unfold maxLen; omega
  have := WideMaps.keyOf_string_mk Try.underlying9 hsz
  have hkl : (⟨kb.toArray⟩ : ByteArray).data.toList = kb := by simp
  rw [hkl] at this; exact this

/-- Block b is a map of at most n entries that reads as f. -/
def NatMap (w : World) (b n : Nat) (f : Bytes → Nat) : Prop :=
  ∃ D : DataW Unit, w.ownsMap Try.prog 9 (plainElem Try.prog 3) b n D ∧ IsMap D ∧ ∀ kb : Bytes, D.atKey (.string kb) (.lit (.int .i64 0)) = .lit (.int .i64 (f kb))

theorem NatMap.made (w : World) : NatMap (w.alloc (.map #[] 0)) w.heap.size 0 fun _ => 0 :=
  ⟨.map [], World.ownsMap_made _ _ _ _, Go.Maps.isMap_empty, fun _ => rfl⟩
theorem NatMap.kept {w w' : World} {b n : Nat} {f : Bytes → Nat} {row : Option Nat} (h : NatMap w b n f) (hg : w.grownBy w' row) (hne : some b ≠ row) : NatMap w' b n f := by
  obtain ⟨D, ho, r⟩ := h
  exact ⟨D, ho.kept hg hne, r⟩
theorem NatMap.alloc {w : World} {b n : Nat} {f : Bytes → Nat} (h : NatMap w b n f) (o : Obj) : NatMap (w.alloc o) b n f := h.kept (World.grownBy_alloc w o none) (by simp)
theorem NatMap.lt {w : World} {b n : Nat} {f : Bytes → Nat} (h : NatMap w b n f) : b < w.heap.size := by
  obtain ⟨D, ho, r⟩ := h
  exact ho.lt
theorem NatMap.below {w w' : World} {b n : Nat} {f : Bytes → Nat} (h : NatMap w b n f) (hb : Below w.heap.size w w') : NatMap w' b n f := by
  have hlt := h.lt
  obtain ⟨D, ⟨es, clock, h1, r⟩, r2⟩ := h
  exact ⟨D, ⟨es, clock, (hb.block b hlt).trans h1, r⟩, r2⟩

set_option maxRecDepth 100000 in
/-- the step of a range over such a map -/
theorem wpList_next_nat {w : World} {ops : Array Oper} {rest : List Oper} {o : Oper} {a : Act} {Q : Exit → Act → World → Prop}
    (hg : o.guard = none) (it : Operand) (hop : o.op = Op.next it false) (b r n : Nat) (D : DataW Unit) (f : Bytes → Nat) (hr : ∀ kb : Bytes, D.atKey (.string kb) (.lit (.int .i64 0)) = .lit (.int .i64 (f kb)))
    (left : Lit → Bool) (cnt : Nat) (hit : a.eval it = .pointer (some ⟨r, 0, none⟩)) (h : w.ranges Try.prog 9 (plainElem Try.prog 3) b r n D left cnt)
    (hDone : cnt = 0 → (∀ kl, left kl = false) → wpList Try.prog ops Q rest (a.put o.dst (.tuple #[.bool false])) w)
    (hMore : ∀ (kb : Bytes) (w' : World) (cnt' : Nat), left (.string kb) = true → w'.ranges Try.prog 9 (plainElem Try.prog 3) b r n D (fun z => left z && !z.sameKey (.string kb)) cnt' → cnt' < cnt →
      w.grownBy w' (some r) → w'.heap.size = w.heap.size → (Instr.entry (.pointer (some ⟨r, 0, none⟩))).run Try.prog w' = .ok (.tuple #[S kb, I (f kb)]) w' → wpList Try.prog ops Q rest (a.put o.dst (.tuple #[.bool true, S kb, I (f kb)])) w') :
    wpList Try.prog ops Q (o :: rest) a w := by
  refine wpList_next_ranges w hg it hop 9 keyedS (plainElem Try.prog 3) Value.string (Value.int .i64) (fun key kl hk => ?_) (fun v y hv => ?_) b r n D left cnt hit h hDone ?_
  · obtain ⟨s, hs, _⟩ := WideMaps.string_of_keyOf Try.underlying9 hk
    exact ⟨s, hs⟩
  · obtain ⟨c, hc, _⟩ := plainElem_int_inv Try.underlying3 hv
    exact ⟨c, hc⟩
  · intro s c kl y w' cnt' hkey hlk hv hat hrg hlt hgr hsz hen
    obtain ⟨s', hs, hkl, _⟩ := WideMaps.string_of_keyOf Try.underlying9 hkey
    injection hs with hs
    subst hs
    subst hkl
    obtain ⟨c', hc, hy, _⟩ := plainElem_int_inv Try.underlying3 hv
    injection hc with _ hc
    subst hc
    have hcf : c = (f s.data.toList : Nat) := by
      have h1 := (hr s.data.toList).symm.trans (hat (.lit (.int .i64 0)))
      rw [hy] at h1
      exact (Lit.int.inj (DataW.lit.inj h1)).2.symm
    subst hcf
    have hss : (Value.string s) = S s.data.toList := by simp
    rw [hss] at hen ⊢
    exact hMore _ w' cnt' hlk hrg hlt hgr hsz hen

theorem size_le {w : World} {b n : Nat} {D : DataW Unit} (h : w.ownsMap Try.prog 9 (plainElem Try.prog 3) b n D) : Go.Maps.size D ≤ n := by
  obtain ⟨es, clock, hb, F, hs, rfl⟩ := h
  simpa [Go.Maps.size, length_sorted] using hs

end Go.Proofs.Ytgfkkjcnnecefab

/- The walks of train.many, train.Count, and the reference's TextsError and CountOf. -/
namespace Go.Proofs.Ytgfkkjcnnecefab
open Go.RowKit Go.Lib Pl
attribute [local go_sem] ext_list app_list


def IdxRes (l : List Bytes) (e : Ending) : Prop := ∃ r : Int, e = .returned (.int .i64 r) ∧ ((0 ≤ r ∧ l.any big = true) ∨ (r = -1 ∧ l.any big = false))

theorem any_drop {l : List Bytes} {k : Nat} {t : Bytes} (h : l[k]? = some t) : (l.drop k).any big = (big t || (l.drop (k + 1)).any big) := by
  have hk : k < l.length := (List.getElem?_eq_some_iff.1 h).1
  rw [List.drop_eq_getElem_cons hk, List.any_cons]
  rw [List.getElem?_eq_getElem hk] at h
  injection h with h
  rw [h]

/-- E1: the error of the texts -/
def textsE (l : List Bytes) : Nat := if manyB l = true then 2 else 0

theorem cnt_take {l : List Bytes} {k : Nat} {t p : Bytes} (h : l[k]? = some t) : cnt (l.take (k + 1)) p = cnt (l.take k) p + (if stands p t = true then 1 else 0) := by
  unfold cnt
  rw [List.take_add_one, h, List.filter_append, List.length_append]
  by_cases hs : stands p t = true
  · simp [hs]
  · simp [hs]

/-- Count: the number, and the error -/
def countE (l : List Bytes) (p : Bytes) : Nat := if manyB l = true then 2 else if p.length = 4 then 0 else 3
def countN (l : List Bytes) (p : Bytes) : Nat := if manyB l = true then 0 else if p.length = 4 then cnt l p else 0

end Go.Proofs.Ytgfkkjcnnecefab

/- The walk of train.pieces: counting. -/
namespace Go.Proofs.Ytgfkkjcnnecefab
open Go.RowKit Go.Lib Pl
attribute [local go_sem] ext_list app_list

/-- in how many texts a piece stands: by the pieces themselves -/
def cntP (l : List Bytes) (p : Bytes) : Nat := (l.filter fun t => decide (p ∈ piecesOf t)).length
theorem cntP_eq {l : List Bytes} {p : Bytes} (hp : p.length = 4) : cntP l p = cnt l p := by
  unfold cntP cnt
  congr 2
  funext t
  rw [Bool.eq_iff_iff, decide_eq_true_eq]
  exact mem_piecesOf hp
theorem cntP_le (l : List Bytes) (p : Bytes) : cntP l p ≤ l.length := List.length_filter_le _ _
theorem cntP_take {l : List Bytes} {k : Nat} {t p : Bytes} (h : l[k]? = some t) : cntP (l.take (k + 1)) p = cntP (l.take k) p + (if p ∈ piecesOf t then 1 else 0) := by
  unfold cntP
  rw [List.take_add_one, h, List.filter_append, List.length_append]
  by_cases hs : p ∈ piecesOf t
  · simp [hs]
  · simp [hs]
/-- the counts, and the last texts, behind i texts and k pieces of the next -/
def fC (l : List Bytes) (i : Nat) (t : Bytes) (k : Nat) (p : Bytes) : Nat := cntP (l.take i) p + (if p ∈ (piecesOf t).take k then 1 else 0)

def Seen (i : Nat) (t : Bytes) (k : Nat) (g : Bytes → Nat) : Prop := ∀ p, g p ≤ i + 1 ∧ (g p = i + 1 ↔ p ∈ (piecesOf t).take k)
theorem mem_take_succ {t : Bytes} {k : Nat} (h : k < t.length - 3) (p : Bytes) : p ∈ (piecesOf t).take (k + 1) ↔ p ∈ (piecesOf t).take k ∨ p = piece t k := by
  rw [List.take_add_one, piecesOf_get h]
  simp

def pcCells (x : Bytes × Nat) : List Value := [S x.1, I x.2]
theorem pcCells_len (l : List (Bytes × Nat)) : (l.flatMap pcCells).length = l.length * 2 := by
  induction l with
  | nil => rfl
  | cons x l ih => simp [pcCells] at ih ⊢; omega
theorem pcCells_get : ∀ (l : List (Bytes × Nat)) (i : Nat) (x : Bytes × Nat), l[i]? = some x → (l.flatMap pcCells)[i * 2]? = some (S x.1) ∧ (l.flatMap pcCells)[i * 2 + 1]? = some (I x.2)
  | [], i, x, h => by simp at h
  | u :: l, 0, x, h => by simp at h; subst h; simp [pcCells]
  | u :: l, i + 1, x, h => by
    have h' : l[i]? = some x := by simpa using h
    obtain ⟨a, b⟩ := pcCells_get l i x h'
    have e : (u :: l).flatMap pcCells = pcCells u ++ l.flatMap pcCells := by simp
    have hl : (pcCells u).length = 2 := rfl
    rw [e]
    refine ⟨?_, ?_⟩
    · rw [List.getElem?_append_right (by omega), hl, show (i + 1) * 2 - 2 = i * 2 from by omega]; exact a
    · rw [List.getElem?_append_right (by omega), hl, show (i + 1) * 2 + 1 - 2 = i * 2 + 1 from by omega]; exact b
theorem own_slice' {w : World} {base e size n : Nat} {v : Value} {xs : List Value} (h : w.ownsRow base e size v n xs) : ∃ A cap, v = .slice A n cap := by
  rcases h.2 with ⟨rfl, rfl⟩ | ⟨g, cap, cur, rfl, _⟩
  · exact ⟨_, _, rfl⟩
  · exact ⟨_, _, rfl⟩
theorem cells2_new (w : World) (x y : Value) (t : TypeId) : ∀ j u, [x, y][j]? = some u → (w.alloc (.cells #[x, y] t)).cell? ((⟨w.heap.size, 0, none⟩ : Addr).add j) = some u := by
  intro j u hj
  have e : (⟨w.heap.size, 0, none⟩ : Addr).add j = ⟨w.heap.size, j, none⟩ := by unfold Addr.add; split <;> simp_all
  rw [e, World.cell?_alloc_new]
  simpa using hj

/-- what has been collected -/
structure Col (l : List Bytes) (left : Lit → Bool) (o : List (Bytes × Nat)) : Prop where
  mem : ∀ x ∈ o, 1 < x.2 ∧ x.2 = cntP l x.1 ∧ left (.string x.1) = false
  nodup : (o.map (·.1)).Nodup
  all : ∀ p, 1 < cntP l p → left (.string p) = true ∨ (p, cntP l p) ∈ o

theorem str_same (a b : Bytes) : (Lit.string a).sameKey (.string b) = decide (a = b) := by
  by_cases h : a = b
  · subst h; simp [Lit.sameKey]
  · simp [Lit.sameKey, h]
theorem Col.skip {l : List Bytes} {left : Lit → Bool} {o : List (Bytes × Nat)} (h : Col l left o) (kb : Bytes) (hc : ¬ 1 < cntP l kb) : Col l (fun z => left z && !z.sameKey (.string kb)) o := by
  refine ⟨fun x hx => ?_, h.nodup, fun p hp => ?_⟩
  · obtain ⟨a, b, c⟩ := h.mem x hx
    exact ⟨a, b, by simp [c]⟩
  · rcases h.all p hp with h1 | h1
    · left
      have hne : p ≠ kb := fun e => hc (e ▸ hp)
      simp [h1, str_same, hne]
    · exact .inr h1
theorem Col.push {l : List Bytes} {left : Lit → Bool} {o : List (Bytes × Nat)} (h : Col l left o) (kb : Bytes) (hk : left (.string kb) = true) (hc : 1 < cntP l kb) : Col l (fun z => left z && !z.sameKey (.string kb)) (o ++ [(kb, cntP l kb)]) := by
  refine ⟨fun x hx => ?_, ?_, fun p hp => ?_⟩
  · rcases List.mem_append.1 hx with hx | hx
    · obtain ⟨a, b, c⟩ := h.mem x hx
      exact ⟨a, b, by simp [c]⟩
    · have : x = (kb, cntP l kb) := by simpa using hx
      subst this
      exact ⟨hc, rfl, by simp [str_same]⟩
  · rw [List.map_append, List.nodup_append]
    refine ⟨h.nodup, by simp, fun a ha b hb => ?_⟩
    have hb : b = kb := by simpa using hb
    subst hb
    rintro rfl
    obtain ⟨x, hx, rfl⟩ := List.mem_map.1 ha
    have := (h.mem x hx).2.2
    rw [hk] at this; cases this
  · by_cases e : p = kb
    · subst e; exact .inr (by simp)
    · rcases h.all p hp with h1 | h1
      · left; simp [h1, str_same, e]
      · exact .inr (by simp [h1])

theorem col_cands {l : List Bytes} {left : Lit → Bool} {o o' : List (Bytes × Nat)} (h : Col l left o) (hleft : ∀ kl, left kl = false) (hp : o'.Perm o) (hs : o'.Pairwise (fun a b => better b a = false)) :
    Cands l (o'.map (·.1)) ∧ o' = (o'.map (·.1)).map fun p => (p, cnt l p) := by
  have h4 : ∀ p, 1 < cntP l p → p.length = 4 := by
    intro p hp
    have : 0 < cntP l p := by omega
    unfold cntP at this
    rw [List.length_pos_iff_exists_mem] at this
    obtain ⟨t, ht⟩ := this
    rw [List.mem_filter, decide_eq_true_eq] at ht
    exact mem_piecesOf_len ht.2
  have hm : ∀ x ∈ o', 1 < x.2 ∧ x.2 = cnt l x.1 := fun x hx => by
    obtain ⟨a, b, _⟩ := h.mem x (hp.mem_iff.1 hx)
    exact ⟨a, by rw [b]; exact cntP_eq (h4 _ (by omega))⟩
  have hmap : o' = (o'.map (·.1)).map fun p => (p, cnt l p) := by
    rw [List.map_map]
    conv => lhs; rw [← List.map_id o']
    refine List.map_congr_left fun x hx => ?_
    obtain ⟨_, b⟩ := hm x hx
    show x = (x.1, cnt l x.1)
    rw [← b]
  refine ⟨⟨fun p => ?_, ?_⟩, hmap⟩
  · constructor
    · intro hpm
      obtain ⟨x, hx, rfl⟩ := List.mem_map.1 hpm
      obtain ⟨a, b⟩ := hm x hx
      obtain ⟨_, b2, _⟩ := h.mem x (hp.mem_iff.1 hx)
      exact ⟨(cnt_pos (h4 _ (by omega))).1 (by omega), by omega⟩
    · rintro ⟨ha, hc⟩
      have hl4 := allPieces_len ha
      rw [← cntP_eq hl4] at hc
      rcases h.all p hc with h1 | h1
      · rw [hleft] at h1; cases h1
      · exact List.mem_map.2 ⟨_, hp.mem_iff.2 h1, rfl⟩
  · rw [List.pairwise_map]
    have hnd : (o'.map (·.1)).Nodup := (hp.map _).nodup_iff.2 h.nodup
    rw [List.nodup_iff_pairwise_ne, List.pairwise_map] at hnd
    have hmm : o'.Pairwise (fun a b => (1 < a.2 ∧ a.2 = cnt l a.1) ∧ (1 < b.2 ∧ b.2 = cnt l b.1)) := List.pairwise_of_forall_mem_list fun a ha b hb => ⟨hm a ha, hm b hb⟩
    refine (List.Pairwise.and (hs.and hnd) hmm).imp ?_
    rintro a b ⟨⟨h1, h2⟩, ⟨_, ha⟩, _, hb⟩
    have ea : (a.1, cnt l a.1) = a := by rw [← ha]
    have eb : (b.1, cnt l b.1) = b := by rw [← hb]
    rw [ea, eb]
    cases hab : better a b with
    | true => rfl
    | false => exact absurd (congrArg Prod.fst (better_total hab h1)) h2

/-- a slice of pieces that reads as a list -/
def PcAt (w : World) (A : Option Addr) (n : Nat) (o : List (Bytes × Nat)) : Prop :=
  o.length = n ∧ (0 < n → ∃ b off, A = some ⟨b, off, none⟩ ∧ b < w.heap.size ∧ ∀ i x, o[i]? = some x → w.cell? ⟨b, off + i * 2, none⟩ = some (S x.1) ∧ w.cell? ⟨b, off + i * 2 + 1, none⟩ = some (I x.2))
def PiecesRes (l : List Bytes) (w' : World) (e : Ending) : Prop := ∃ A n cap c, e = .returned (.slice A n cap) ∧ Cands l c ∧ PcAt w' A n (c.map fun p => (p, cnt l p)) ∧ n ≤ 1000000
end Go.Proofs.Ytgfkkjcnnecefab

/- The library's sort over a row of the call's own: what the row holds before and behind it. -/
namespace Go.Proofs.Ytgfkkjcnnecefab
open Go.RowKit Go.Lib Go.Sort

section
variable {α : Type} [Inhabited α] (enc : α → List Value) (k : Nat)
theorem flatMap_get (hk : ∀ x, (enc x).length = k) (h0 : 0 < k) : ∀ (l : List α) (t : Nat), t < l.length * k → (l.flatMap enc)[t]? = some (enc (l.toArray[t / k]!))[t % k]!
  | [], t, h => by simp at h
  | a :: l, t, h => by
    rw [List.flatMap_cons]
    by_cases ht : t < k
    · have e1 : t / k = 0 := Nat.div_eq_of_lt ht
      have e2 : t % k = t := Nat.mod_eq_of_lt ht
      have hl : t < (enc a).length := by rw [hk]; exact ht
      rw [List.getElem?_append_left hl, e1, e2, List.getElem?_eq_getElem hl]
      simp [hl]
    · have e1 : t / k = (t - k) / k + 1 := by
        conv => lhs; rw [show t = (t - k) + k from by omega, Nat.add_div_right _ h0]
      have e2 : t % k = (t - k) % k := by
        conv => lhs; rw [show t = (t - k) + k from by omega, Nat.add_mod_right]
      have hh : t - k < l.length * k := by
        simp only [List.length_cons, Nat.add_mul, Nat.one_mul] at h; omega
      rw [List.getElem?_append_right (by rw [hk]; omega), hk, flatMap_get hk h0 l (t - k) hh, e1, e2]
      simp
theorem flatK_list (hk : ∀ x, (enc x).length = k) (h0 : 0 < k) (l : List α) : (flatK enc k l.toArray).toList = l.flatMap enc := by
  have hlen : (l.flatMap enc).length = l.length * k := by
    induction l with
    | nil => simp
    | cons a l ih => simp [hk, Nat.add_mul] at ih ⊢; omega
  apply List.ext_getElem?
  intro t
  by_cases ht : t < l.length * k
  · rw [flatMap_get enc k hk h0 l t ht]
    have hs : t < (flatK enc k l.toArray).size := by rw [size_flatK]; simpa using ht
    have := get_flatK enc k l.toArray t (by simpa using ht)
    rw [← this, Array.getElem?_toList, Array.getElem?_eq_getElem hs, getElem!_pos _ t hs]
  · rw [List.getElem?_eq_none (by rw [Array.length_toList, size_flatK]; simp; omega), List.getElem?_eq_none (by omega)]

theorem holdsK_own {w : World} {base e n g cap : Nat} {o : List α} (hk : ∀ x, (enc x).length = k) (h0 : 0 < k) (h : w.ownsRow base e k (.slice (some ⟨g, 0, none⟩) n cap) n (o.flatMap enc)) : HoldsK enc k w g 0 o.toArray ∧ g < w.heap.size ∧ o.length = n ∧ base ≤ g := by
  rcases h.2 with ⟨hv, _⟩ | ⟨g', cap', cur, hv, hb, hg, hn, hc, hs, ht⟩
  · cases hv
  · injection hv with ha _ hcap
    injection ha with ha
    injection ha with ha
    subst ha
    have hlen : o.length = n := by
      have h1 := h.1
      have h2 := congrArg List.length (flatK_list enc k hk h0 o)
      rw [Array.length_toList, size_flatK] at h2
      rw [← h2] at h1
      exact Nat.eq_of_mul_eq_mul_right h0 (by simpa using h1)
    refine ⟨fun j hj => ?_, (Array.getElem?_eq_some_iff.1 hg).1, hlen, hb⟩
    rw [Nat.zero_add, cell_of_row w g j _ _ _ hg]
    refine ⟨?_, by simp [World.frozen?, hg]⟩
    have hj' : j < o.length * k := by rw [size_flatK] at hj; simpa using hj
    have h3 : (flatK enc k o.toArray).toList[j]? = some (flatK enc k o.toArray)[j]! := by
      rw [Array.getElem?_toList, Array.getElem?_eq_getElem hj, getElem!_pos _ j hj]
    rw [flatK_list enc k hk h0, ← ht, List.getElem?_take, if_pos (by rw [← hlen]; exact hj'), Array.getElem?_toList] at h3
    exact h3

theorem sortWorld_own {w : World} {base e n g cap : Nat} {o o' : List α} {m : Nat} {os : Array Obj} (hk : ∀ x, (enc x).length = k) (h0 : 0 < k) (h : w.ownsRow base e k (.slice (some ⟨g, 0, none⟩) n cap) n (o.flatMap enc)) (hp : o'.length = o.length) :
    (sortWorldK enc k w g 0 m o'.toArray os).ownsRow base e k (.slice (some ⟨g, 0, none⟩) n cap) n (o'.flatMap enc) ∧ Below base w (sortWorldK enc k w g 0 m o'.toArray os) := by
  obtain ⟨_, hgl, hlen, hbg⟩ := holdsK_own enc k hk h0 h
  rcases h.2 with ⟨hv, _⟩ | ⟨g', cap', cur, hv, hb, hg, hn, hc, hs, ht⟩
  · cases hv
  · injection hv with ha _ hcap
    injection ha with ha
    injection ha with ha
    subst ha
    subst hcap
    have hfl := congrArg List.length (flatK_list enc k hk h0 o')
    rw [Array.length_toList, size_flatK] at hfl
    have hsz : (flatK enc k o'.toArray).size = n * k := by rw [size_flatK]; simp [hp, hlen]
    have hcur : n * k ≤ cur.size := by rw [hs]; exact Nat.mul_le_mul_right k hn
    have hh : (sortWorldK enc k w g 0 m o'.toArray os).heap[g]? = some (.cells (putCells id 0 (flatK enc k o'.toArray) cur) e (0, 0)) := by
      unfold sortWorldK putRowK putRow
      have hg2 : (Sort.ahead w m).heap[g]? = some (.cells cur e (0, 0)) := hg
      rw [heap_grow_old _ _ (by show g < (mapBlock _ _ _).heap.size; unfold mapBlock; simpa using hgl)]
      unfold mapBlock
      simp only [Array.getElem?_modify]
      rw [if_pos trivial, hg2]
      rfl
    refine ⟨⟨?_, .inr ⟨g, cap, _, rfl, hb, hh, hn, hc, ?_, ?_⟩⟩, rfl, rfl, rfl, ?_, fun i hi => ?_⟩
    · rw [← hfl, List.size_toArray, hp, hlen]
    · unfold putCells; simpa using hs
    · rw [← flatK_list enc k hk h0]
      apply List.ext_getElem?
      intro t
      rw [List.getElem?_take]
      by_cases htn : t < n * k
      · rw [if_pos htn, Array.getElem?_toList, Array.getElem?_toList]
        unfold putCells
        rw [Array.getElem?_mapIdx, Array.getElem?_eq_getElem (by omega)]
        simp only [Option.map_some]
        rw [if_pos (by omega), Nat.sub_zero, Array.getElem?_eq_getElem (by omega), getElem!_pos _ t (by omega)]
        rfl
      · rw [if_neg htn, List.getElem?_eq_none (by rw [Array.length_toList, hsz]; omega)]
    · unfold sortWorldK putRowK putRow mapBlock; simp [Sort.ahead]
    · unfold sortWorldK putRowK putRow
      rw [heap_grow_old _ _ (by show i < (mapBlock _ _ _).heap.size; unfold mapBlock; simp [Sort.ahead]; omega)]
      unfold mapBlock
      simp only [Array.getElem?_modify]
      rw [if_neg (by omega)]
      rfl
end

theorem perm_of {α : Type} [Inhabited α] {o : List α} {d' : Array α} (h : PermIn 0 o.toArray.size o.toArray d') : d'.toList.Perm o ∧ d'.toList.length = o.length := by
  obtain ⟨hs, _, hp⟩ := h
  have e1 : (o.toArray.extract 0 o.toArray.size) = o.toArray := by simp
  have e2 : (d'.extract 0 o.toArray.size) = d' := by rw [← hs]; simp
  rw [e1, e2] at hp
  exact ⟨by simpa using hp, by simpa using hs⟩
theorem sorted_of {α : Type} [Inhabited α] {lt : α → α → Bool} {d' : Array α} {n : Nat} (hn : d'.size = n) (h : SortedIn lt 0 n d') : d'.toList.Pairwise (fun a b => lt b a = false) := by
  rw [List.pairwise_iff_getElem]
  intro i j hi hj hij
  have hi' : i < d'.size := by simpa using hi
  have hj' : j < d'.size := by simpa using hj
  have := h i j (Nat.zero_le _) hij (by omega)
  rw [getElem!_pos d' i hi', getElem!_pos d' j hj'] at this
  simpa using this

end Go.Proofs.Ytgfkkjcnnecefab

/- The library's sort at pieces, by the program's own order. -/
namespace Go.Proofs.Ytgfkkjcnnecefab
open Go.RowKit Go.Lib Pl Go.Sort
attribute [local go_sem] ext_list app_list

/-- cmp.Compare at strings -/
def cmpS (a b : Bytes) : Int := if lessB a b = true then -1 else if a = b then 0 else 1
theorem less_model : ∀ a b : Bytes, Op.bytesLess a b = lessB a b
  | _, [] => by cases ‹Bytes› <;> rfl
  | [], _ :: _ => rfl
  | a :: x, b :: y => by rw [Op.bytesLess, lessB, less_model x y]

def orI (a b : Int) : Int := if a = 0 then b else a

set_option maxHeartbeats 1000000 in
theorem cmpOr2_any (g : Nat) (a b : Int) (w : World) (h0 : w.cell? ⟨g, 0, none⟩ = some (.int .i64 a)) (h1 : w.cell? ⟨g, 1, none⟩ = some (.int .i64 b)) :
    Calls Try.prog 33 #[.slice (some ⟨g, 0, none⟩) 2 2] w fun e w' => e = .returned (.int .i64 (orI a b)) ∧ w = w' := by
  by_cases ha : a = 0
  · subst ha
    by_cases hb : b = 0
    · subst hb
      have e : orI 0 0 = 0 := rfl
      rw [e]
      clear e
      go_enter Try.func33, Try.ntmps33
      go_wp2_with fail
      go_loop [5, 8] (fun _ i => ∃ k : Nat, k ≤ 2 ∧ i = .int .i64 k) (fun _ i => 2 - (intOf i).toNat)
      case atStart => exact ⟨0, by omega, rfl⟩
      case round =>
        obtain ⟨k, hk, rfl⟩ := hrel
        match k, hk with
        | 0, _ =>
          go_wp2_with fail
          go_round
          case rel => exact ⟨1, by omega, rfl⟩
          case measure => simp [intOf]
        | 1, _ =>
          go_wp2_with fail
          go_round
          case rel => exact ⟨2, by omega, rfl⟩
          case measure => simp [intOf]
        | 2, _ =>
          go_wp2_with fail
          go_ret
          exact ⟨rfl, rfl⟩
    · have e : orI 0 b = b := rfl
      rw [e]
      have z1 : (b == 0) = false := beq_eq_false_iff_ne.2 hb
      have z2 : (b != 0) = true := bne_iff_ne.2 hb
      clear e hb
      go_enter Try.func33, Try.ntmps33
      go_wp2_with fail
      go_loop [5, 8] (fun _ i => ∃ k : Nat, k ≤ 1 ∧ i = .int .i64 k) (fun _ i => 1 - (intOf i).toNat)
      case atStart => exact ⟨0, by omega, rfl⟩
      case round =>
        obtain ⟨k, hk, rfl⟩ := hrel
        match k, hk with
        | 0, _ =>
          go_wp2_with fail
          go_round
          case rel => exact ⟨1, by omega, rfl⟩
          case measure => simp [intOf]
        | 1, _ =>
          go_wp2_with fail
          go_ret
          exact ⟨rfl, rfl⟩
  · have e : orI a b = a := by unfold orI; rw [if_neg ha]
    rw [e]
    have z1 : (a == 0) = false := beq_eq_false_iff_ne.2 ha
    have z2 : (a != 0) = true := bne_iff_ne.2 ha
    clear e ha
    go_enter Try.func33, Try.ntmps33
    go_wp2_with fail
    go_loop [5, 8] (fun _ i => i = .int .i64 0) (fun _ _ => 0)
    case atStart => rfl
    case round =>
      subst hrel
      go_wp2_with fail
      go_ret
      exact ⟨rfl, rfl⟩

theorem cell_new_at {W : World} {cs : Array Value} {t : TypeId} {H : Nat} (i : Nat) (h : W.heap.size = H) : (W.alloc (.cells cs t)).cell? ⟨H, i, none⟩ = cs[i]? := by
  subst h; exact World.cell?_alloc_new _ _ _ _

/-- the program's own order of pieces -/
def cmpP (x y : Bytes × Nat) : Int := orI (Lib.compareInt y.2 x.2) (cmpS x.1 y.1)
theorem cmpP_lt (x y : Bytes × Nat) : ltOf cmpP x y = better x y := by
  obtain ⟨a, n⟩ := x
  obtain ⟨b, m⟩ := y
  unfold ltOf cmpP better orI Lib.compareInt cmpS
  simp only
  by_cases h1 : (m : Int) < (n : Int)
  · rw [if_pos h1]
    have : m < n := by omega
    simp [this]
  · rw [if_neg h1]
    by_cases h2 : (m : Int) > (n : Int)
    · rw [if_pos h2]
      have h3 : ¬ m < n := by omega
      have h4 : (n == m) = false := by rw [beq_eq_false_iff_ne]; omega
      simp [h3, h4]
    · rw [if_neg h2]
      have h3 : n = m := by omega
      subst h3
      by_cases h4 : lessB a b = true
      · simp [h4]
      · by_cases h5 : a = b
        · subst h5; simp [h4]
        · simp [h4, h5]
theorem swoP : SWO (ltOf cmpP) where
  irrefl x := by rw [cmpP_lt]; exact better_irrefl x
  trans x y z h1 h2 := by rw [cmpP_lt] at *; exact better_trans h1 h2
  ntrans x y z h1 h2 := by
    rw [cmpP_lt] at *
    rw [Bool.eq_false_iff] at *
    intro h3
    cases h4 : better y x with
    | true => exact h2 (better_trans h4 h3)
    | false =>
      have := better_total (by simpa using h1) h4
      subst this
      exact h2 h3

end Go.Proofs.Ytgfkkjcnnecefab

/- The program's row of trees in memory, wherever it begins in its block, and the signs of each tree. -/
namespace Go.Proofs.Ytgfkkjcnnecefab
open Go.RowKit Go.Lib Pl Go.Sort

/-- a tree of the program: its weight, its signs and where these lie -/
structure El where
  w : Nat
  g : Nat
  cap : Nat
  s : List Nat
instance : Inhabited El := ⟨⟨0, 0, 0, []⟩⟩
def El.tr (e : El) : Tr := (e.w, e.s)
abbrev SgV (e : El) : Value := .slice (some ⟨e.g, 0, none⟩) e.s.length e.cap
def elCells (e : El) : List Value := [I (e.w : Int), SgV e]
theorem elCells_len (e : El) : (elCells e).length = 2 := rfl
def natI (i : Nat) : Value := I (i : Int)
def SgOK (w : World) (base : Nat) (e : El) : Prop := w.ownsRow base 3 1 (SgV e) e.s.length (e.s.map natI)
theorem elsLen (l : List El) : (l.flatMap elCells).length = l.length * 2 := by
  induction l with
  | nil => rfl
  | cons x l ih => simp [elCells] at ih ⊢; omega
theorem els_get : ∀ (l : List El) (i : Nat) (x : El), l[i]? = some x → (l.flatMap elCells)[i * 2]? = some (I (x.w : Int)) ∧ (l.flatMap elCells)[i * 2 + 1]? = some (SgV x)
  | [], i, x, h => by simp at h
  | u :: l, 0, x, h => by simp at h; subst h; simp [elCells]
  | u :: l, i + 1, x, h => by
    have h' : l[i]? = some x := by simpa using h
    obtain ⟨a, b⟩ := els_get l i x h'
    have e : (u :: l).flatMap elCells = elCells u ++ l.flatMap elCells := by simp
    have hl : (elCells u).length = 2 := rfl
    rw [e]
    refine ⟨?_, ?_⟩
    · rw [List.getElem?_append_right (by omega), hl, show (i + 1) * 2 - 2 = i * 2 from by omega]; exact a
    · rw [List.getElem?_append_right (by omega), hl, show (i + 1) * 2 + 1 - 2 = i * 2 + 1 from by omega]; exact b

/-- a row of trees that begins at a place of its block -/
def QAt (w : World) (base g off cap : Nat) (l : List El) : Prop :=
  base ≤ g ∧ ∃ cur, w.heap[g]? = some (.cells cur 50 (0, 0)) ∧ l.length ≤ cap ∧ cap ≤ maxLen ∧ off + cap * 2 ≤ cur.size ∧ (cur.toList.drop off).take (l.length * 2) = l.flatMap elCells

theorem QAt.kept {w w' : World} {base g off cap : Nat} {l : List El} (h : QAt w base g off cap l) (hg : w'.heap[g]? = w.heap[g]?) : QAt w' base g off cap l := by
  obtain ⟨hb, cur, h1, h2⟩ := h
  exact ⟨hb, cur, hg.trans h1, h2⟩
theorem QAt.lt {w : World} {base g off cap : Nat} {l : List El} (h : QAt w base g off cap l) : g < w.heap.size := by
  obtain ⟨hb, cur, h1, h2⟩ := h
  exact (Array.getElem?_eq_some_iff.1 h1).1
theorem QAt.of_own {w : World} {base g n cap : Nat} {l : List El} (h : w.ownsRow base 50 2 (.slice (some ⟨g, 0, none⟩) n cap) n (l.flatMap elCells)) : QAt w base g 0 cap l ∧ l.length = n := by
  have hl : l.length = n := by have := h.1; rw [elsLen] at this; omega
  rcases h.2 with ⟨hv, _⟩ | ⟨g', cap', cur, hv, hb, hg, hn, hc, hs, ht⟩
  · cases hv
  · injection hv with ha _ hcap
    injection ha with ha
    injection ha with ha
    subst ha
    subst hcap
    exact ⟨⟨hb, cur, hg, by omega, hc, by omega, by rw [List.drop_zero, hl]; exact ht⟩, hl⟩
theorem QAt.row {w : World} {base g off cap : Nat} {l : List El} (h : QAt w base g off cap l) {j : Nat} {u : Value} (hu : (l.flatMap elCells)[j]? = some u) : w.cell? ⟨g, off + j, none⟩ = some u ∧ w.frozen? ⟨g, off + j, none⟩ = false := by
  obtain ⟨hb, cur, h1, h2, h3, h4, h5⟩ := h
  refine ⟨?_, by simp [World.frozen?, h1]⟩
  rw [cell_of_row w g (off + j) cur _ _ h1]
  rw [← h5, List.getElem?_take] at hu
  split at hu
  · rw [List.getElem?_drop] at hu; simpa using hu
  · cases hu
theorem QAt.get {w : World} {base g off cap : Nat} {l : List El} (h : QAt w base g off cap l) {k : Nat} {x : El} (hx : l[k]? = some x) : w.cell? ⟨g, off + k * 2, none⟩ = some (I (x.w : Int)) ∧ w.cell? ⟨g, off + (k * 2 + 1), none⟩ = some (SgV x) := by
  obtain ⟨h1, h2⟩ := els_get l k x hx
  exact ⟨(h.row h1).1, (h.row h2).1⟩
theorem QAt.cut {w : World} {base g off cap : Nat} {a b : El} {l : List El} (h : QAt w base g off cap (a :: b :: l)) : QAt w base g (off + 4) (cap - 2) l ∧ 2 ≤ cap := by
  obtain ⟨hb, cur, h1, h2, h3, h4, h5⟩ := h
  simp only [List.length_cons] at h2 h5
  refine ⟨⟨hb, cur, h1, by omega, by omega, by omega, ?_⟩, by omega⟩
  have e := congrArg (List.drop 4) h5
  rw [List.drop_take, List.drop_drop] at e
  have e2 : (a :: b :: l).flatMap elCells = [I (a.w : Int), SgV a, I (b.w : Int), SgV b] ++ l.flatMap elCells := by simp [elCells]
  rw [e2] at e
  have e3 : (l.length + 1 + 1) * 2 - 4 = l.length * 2 := by omega
  rw [e3] at e
  rw [e]
  rfl
theorem QAt.holdsK {w : World} {base g off cap : Nat} {l : List El} (h : QAt w base g off cap l) {α : Type} [Inhabited α] (enc : α → List Value) (d : Array α) (hd : (Go.Sort.flatK enc 2 d).toList = l.flatMap elCells) : Go.Sort.HoldsK enc 2 w g off d := by
  intro j hj
  have hu : (l.flatMap elCells)[j]? = some (Go.Sort.flatK enc 2 d)[j]! := by
    rw [← hd, Array.getElem?_toList, Array.getElem?_eq_getElem hj, getElem!_pos _ j hj]
  exact h.row hu

/-- what the library's sort leaves -/
theorem QAt.sorted {w : World} {base g off cap m : Nat} {l l' : List El} {os : Array Obj} (h : QAt w base g off cap l) {α : Type} [Inhabited α] (enc : α → List Value) (d : Array α) (hd : (Go.Sort.flatK enc 2 d).toList = l'.flatMap elCells) (hp : l'.length = l.length) :
    QAt (Go.Proofs.sortWorldK enc 2 w g off m d os) base g off cap l' ∧ w.grownBy (Go.Proofs.sortWorldK enc 2 w g off m d os) (some g) := by
  have hgl := h.lt
  obtain ⟨hb, cur, h1, h2, h3, h4, h5⟩ := h
  have hsz : (Go.Sort.flatK enc 2 d).size = l.length * 2 := by
    rw [← Array.length_toList, hd, elsLen, hp]
  have hcur : off + l.length * 2 ≤ cur.size := by omega
  have hh : (Go.Proofs.sortWorldK enc 2 w g off m d os).heap[g]? = some (.cells (Go.Sort.putCells id off (Go.Sort.flatK enc 2 d) cur) 50 (0, 0)) := by
    unfold Go.Proofs.sortWorldK Go.Sort.putRowK Go.Sort.putRow
    have hg2 : (Go.Sort.ahead w m).heap[g]? = some (.cells cur 50 (0, 0)) := h1
    rw [heap_grow_old _ _ (by show g < (mapBlock _ _ _).heap.size; unfold mapBlock; simpa using hgl)]
    unfold mapBlock
    simp only [Array.getElem?_modify]
    rw [if_pos trivial, hg2]
    rfl
  refine ⟨⟨hb, _, hh, by omega, h3, ?_, ?_⟩, rfl, rfl, rfl, ?_, fun i hi hne => ?_⟩
  · unfold putCells; simpa using h4
  · rw [hp, ← hd]
    apply List.ext_getElem?
    intro t
    rw [List.getElem?_take]
    by_cases htn : t < l.length * 2
    · rw [if_pos htn, List.getElem?_drop, Array.getElem?_toList, Array.getElem?_toList]
      unfold putCells
      rw [Array.getElem?_mapIdx, Array.getElem?_eq_getElem (by omega)]
      simp only [Option.map_some]
      rw [if_pos (by omega), show off + t - off = t from by omega, Array.getElem?_eq_getElem (by omega), getElem!_pos _ t (by omega)]
      rfl
    · rw [if_neg htn, List.getElem?_eq_none (by rw [Array.length_toList, hsz]; omega)]
  · unfold sortWorldK putRowK putRow mapBlock; simp [Sort.ahead]
  · unfold sortWorldK putRowK putRow
    rw [heap_grow_old _ _ (by show i < (mapBlock _ _ _).heap.size; unfold mapBlock; simp [Sort.ahead]; omega)]
    unfold mapBlock
    simp only [Array.getElem?_modify]
    rw [if_neg (by intro e; exact hne (by rw [e]))]
    rfl

theorem info_tree : (Try.prog.info? 50).map (fun i => (i.zero, i.size, i.bytes)) = some (some (.agg #[.int .i64 0, .slice none 0 0]), 2, 32) := by kernel_rfl

/-- append(l, tree{..}) where l may begin anywhere in its block -/
theorem run_append_Q {w : World} {base g off cap : Nat} {l : List El} (ty : TypeId) (hq : QAt w base g off cap l) (x : El) (a : Addr) (c : Nat) (hx : ∀ j u, (elCells x)[j]? = some u → w.cell? (a.add j) = some u) (hn : l.length ≤ 1000) (hbase : base ≤ w.heap.size) :
    ∃ g' off' cap' w', (Builtin.append_ #[47, 47] ty #[.slice (some ⟨g, off, none⟩) l.length cap, .slice (some a) 1 c]).run Try.prog w = .ok (.slice (some ⟨g', off', none⟩) (l.length + 1) cap') w' ∧
      QAt w' base g' off' cap' (l ++ [x]) ∧ w.grownBy w' (some g) ∧ (g' = g ∨ g' = w.heap.size) := by
  obtain ⟨i0, hi, hz0, hz1, hz2⟩ := info_parts info_tree
  have ht := Try.underlying47
  have hgl := hq.lt
  have hq0 := hq
  obtain ⟨hb, cur, h1, h2, h3, h4, h5⟩ := hq
  have hlen : ((l ++ [x]).flatMap elCells).length = (l.length + 1) * 2 := by rw [elsLen]; simp
  have h1c : ∀ u ∈ elCells x, u.oneCell' = true := by
    intro u hu
    simp [elCells] at hu
    rcases hu with rfl | rfl <;> rfl
  by_cases hroom : l.length + 1 ≤ cap
  · have hf := run_firstCells_some (P := Try.prog) w i0.size 1 a 1 c (elCells x) (by rw [hz1]; rfl) hx
    have hst := run_storeCells_at Try.prog g (off + l.length * 2) 50 (elCells x) 0 cur w h1 (by simp [elCells]; omega) h1c
    simp only [Nat.add_zero] at hst
    refine ⟨g, off, cap, w.setRow g (cur.toList.take (off + l.length * 2) ++ elCells x ++ cur.toList.drop (off + l.length * 2 + (elCells x).length)).toArray, ?_, ⟨hb, _, setRow_heap w g cur _ _ _ h1, by simp; omega, h3, ?_, ?_⟩, ⟨rfl, rfl, rfl, by simp, fun k _ hk => setRow_other w g k _ (fun e => hk (by simp [e]))⟩, .inl rfl⟩
    · rw [hz1] at hf
      simp [Builtin.append_, run_underlying ht, sizeOf, typeInfo, hi, hz1, Builtin.lenOf, hroom, hf, Addr.add_lit, hst]
    · simp only [List.size_toArray, List.length_append, List.length_take, List.length_drop, Array.length_toList]
      simp [elCells]; omega
    · simp only [List.toList_toArray]
      have e1 : (cur.toList.take (off + l.length * 2) ++ elCells x ++ cur.toList.drop (off + l.length * 2 + (elCells x).length)).drop off = l.flatMap elCells ++ elCells x ++ cur.toList.drop (off + l.length * 2 + (elCells x).length) := by
        have e0 : (cur.toList.take (off + l.length * 2)).drop off = l.flatMap elCells := by
          rw [List.drop_take, ← h5, show off + l.length * 2 - off = l.length * 2 from by omega]
        rw [List.append_assoc, List.drop_append_of_le_length (by simp; omega), e0, List.append_assoc]
      rw [e1, List.flatMap_append, List.take_append_of_le_length (by simp only [List.length_append, elsLen]; simp [elCells]; try omega)]
      rw [List.take_of_length_le (by simp only [List.length_append, elsLen]; simp [elCells]; try omega)]
      simp
  · have hfit := growslice_fits (need := l.length + 1) (old := cap) (bytes := 32) (by omega) (by omega)
    have hr := run_append_grow (P := Try.prog) w 47 ty 50 i0 _ ht hi hz0 ⟨g, off, none⟩ l.length cap (l.flatMap elCells) (by rw [elsLen, hz1]) (fun j u hu => by rw [Addr.add_lit]; exact (hq0.row hu).1) a 1 c (elCells x) (by rw [hz1]; rfl) hx (by omega) (by omega) (by rw [hz2]; exact hfit)
    have hge := grownCap_ge w (l.length + 1) cap 50
    refine ⟨w.heap.size, 0, grownCap w (l.length + 1) cap 50, _, hr, ⟨hbase, _, heap_alloc_new w.drew _, by simpa using hge, grownCap_le_maxLen w _ _ _ (by unfold maxLen; omega), ?_, ?_⟩, ⟨rfl, rfl, rfl, by simp, fun k hk _ => Below.heap_alloc w.drew _ k hk⟩, .inr rfl⟩
    · have hz : (Value.agg #[Value.int IntKind.i64 0, Value.slice none 0 0]).cells.size = 2 := rfl
      simp only [Array.size_append, List.size_toArray, size_zeroCells, elsLen, hz]
      have : (elCells x).length = 2 := rfl
      have h9 : (grownCap w (l.length + 1) cap 50 - (l.length + 1)) * 2 + (l.length + 1) * 2 = grownCap w (l.length + 1) cap 50 * 2 := by omega
      omega
    · simp only [Array.toList_append, List.drop_zero, List.toList_toArray]
      rw [List.flatMap_append, List.take_append_of_le_length (by simp only [List.length_append, elsLen]; simp [elCells]; try omega)]
      rw [List.take_of_length_le (by simp only [List.length_append, elsLen]; simp [elCells]; try omega)]
      simp

/-- .. for the walk -/
theorem wpList_push_Q {w : World} {ops : Array Oper} {rest : List Oper} {o : Oper} {a : Act} {Q : Exit → Act → World → Prop} (hgd : o.guard = none) (s x : Operand)
    (ho : o.op = .call { callee := .builtin .append, args := #[s, x], argTypes := #[47, 47] })
    (base g off cap n : Nat) (l : List El) (hln : l.length = n) (hs : a.eval s = .slice (some ⟨g, off, none⟩) n cap) (hq : QAt w base g off cap l) (e : El)
    (H : Nat) (hH : w.heap.size = H) (hx : a.eval x = .slice (some ⟨H, 0, none⟩) 1 1)
    (hn : n ≤ 1000) (hbase : base ≤ w.heap.size)
    (h : ∀ g' off' cap' w', QAt w' base g' off' cap' (l ++ [e]) → (w.alloc (.cells #[I (e.w : Int), SgV e] 50)).grownBy w' (some g) → (g' = g ∨ g' = H + 1) → wpList Try.prog ops Q rest (a.put o.dst (.slice (some ⟨g', off', none⟩) (n + 1) cap')) w') :
    wpList Try.prog ops Q (o :: rest) a (w.alloc (.cells #[I (e.w : Int), SgV e] 50)) := by
  subst hH
  subst hln
  refine wpList_plain hgd fun K hK => ?_
  obtain ⟨g', off', cap', w', hr, h2, h3, h4⟩ := run_append_Q (w := w.alloc (.cells #[I (e.w : Int), SgV e] 50)) o.type (hq.kept (Below.heap_alloc w _ g hq.lt)) e ⟨w.heap.size, 0, none⟩ 1 (cells2_new _ _ _ _) hn (by simp; omega)
  unfold Oper.wp execOp
  simp only [ho, resolve, invoke, builtin, Sem.run_bind, Sem.run_pure, Result.andThen_ok, List.map_toArray, List.map_cons, List.map_nil, hs, hx, hr]
  refine hK _ _ (h _ _ _ _ h2 h3 ?_)
  rcases h4 with h4 | h4
  · exact .inl h4
  · right; simpa using h4

/-- .. at a step of a region that draws its order -/
theorem step_push_Q {w : World} {ops : Array Oper} {o : Oper} {a : Act} {K : Act → World → Prop} {Q : Exit → Act → World → Prop} {E : Prop} (hgd : o.guard = none) (s x : Operand)
    (ho : o.op = .call { callee := .builtin .append, args := #[s, x], argTypes := #[47, 47] })
    (base g off cap n : Nat) (l : List El) (hln : l.length = n) (hs : a.eval s = .slice (some ⟨g, off, none⟩) n cap) (hq : QAt w base g off cap l) (e : El)
    (H : Nat) (hx : a.eval x = .slice (some ⟨H, 0, none⟩) 1 1) (c0 : w.cell? ⟨H, 0, none⟩ = some (I (e.w : Int))) (c1 : w.cell? ⟨H, 1, none⟩ = some (SgV e))
    (hn : n ≤ 1000) (hbase : base ≤ w.heap.size)
    (h : ∀ g' off' cap' w', QAt w' base g' off' cap' (l ++ [e]) → w.grownBy w' (some g) → (g' = g ∨ g' = w.heap.size) → K (a.put o.dst (.slice (some ⟨g', off', none⟩) (n + 1) cap')) w') :
    if Region.wanted o (yielded ops a.tmps) = true then Oper.wp Try.prog o a w K Q else E := by
  have hw : Region.wanted o (yielded ops a.tmps) = true := by simp [Region.wanted, hgd]
  rw [if_pos hw]
  subst hln
  obtain ⟨g', off', cap', w', hr, h2, h3, h4⟩ := run_append_Q (w := w) o.type hq e ⟨H, 0, none⟩ 1 (by
    intro j u hu
    match j, hu with
    | 0, hu => simp [elCells] at hu; subst hu; rw [Addr.add_lit]; exact c0
    | 1, hu => simp [elCells] at hu; subst hu; rw [Addr.add_lit]; exact c1
    | j + 2, hu => simp [elCells] at hu) hn hbase
  unfold Oper.wp execOp
  simp only [ho, resolve, invoke, builtin, Sem.run_bind, Sem.run_pure, Result.andThen_ok, List.map_toArray, List.map_cons, List.map_nil, hs, hx, hr]
  exact h _ _ _ _ h2 h3 h4

end Go.Proofs.Ytgfkkjcnnecefab

/- The library's sort at trees, by the program's own order. -/
namespace Go.Proofs.Ytgfkkjcnnecefab
open Go.RowKit Go.Lib Pl Go.Sort

/-- what order reads -/
structure OrdAt (W : World) (B : Nat) (wx wy hx hy : Int) (gx cx nx gy cy ny : Nat) : Prop where
  a : W.cell? ⟨B, 0, none⟩ = some (I wx)
  b : W.cell? ⟨B, 1, none⟩ = some (.slice (some ⟨gx, 0, none⟩) nx cx)
  c : W.cell? ⟨B + 1, 0, none⟩ = some (I wy)
  d : W.cell? ⟨B + 1, 1, none⟩ = some (.slice (some ⟨gy, 0, none⟩) ny cy)
  e : W.cell? ⟨gx, 0, none⟩ = some (.int .i64 hx)
  f : W.cell? ⟨gy, 0, none⟩ = some (.int .i64 hy)
section
variable {W : World} {B : Nat} {wx wy hx hy : Int} {gx cx nx gy cy ny : Nat}
theorem OrdAt.drew (h : OrdAt W B wx wy hx hy gx cx nx gy cy ny) : OrdAt W.drew B wx wy hx hy gx cx nx gy cy ny := ⟨h.a, h.b, h.c, h.d, h.e, h.f⟩
theorem cell_alloc {p : Addr} {v : Value} (o : Obj) (h : W.cell? p = some v) : (W.alloc o).cell? p = some v := (((Below.refl W.heap.size W).alloc (Nat.le_refl _) o).cell (block_lt_of_cell h)).trans h
theorem OrdAt.alloc (h : OrdAt W B wx wy hx hy gx cx nx gy cy ny) (o : Obj) : OrdAt (W.alloc o) B wx wy hx hy gx cx nx gy cy ny := ⟨cell_alloc o h.a, cell_alloc o h.b, cell_alloc o h.c, cell_alloc o h.d, cell_alloc o h.e, cell_alloc o h.f⟩
end

set_option maxHeartbeats 2000000 in
set_option maxRecDepth 100000 in
theorem order_raw (wx wy hx hy : Int) (gx cx nx gy cy ny : Nat) (w : World) (h1 : w.cell? ⟨gx, 0, none⟩ = some (.int .i64 hx)) (h2 : w.cell? ⟨gy, 0, none⟩ = some (.int .i64 hy)) (p1 : 0 < nx) (p2 : 0 < ny) :
    Calls Try.prog 19 #[.agg #[I wx, .slice (some ⟨gx, 0, none⟩) nx cx], .agg #[I wy, .slice (some ⟨gy, 0, none⟩) ny cy]] w fun e w' => e = .returned (.int .i64 (orI (Lib.compareInt wx wy) (Lib.compareInt hx hy))) ∧ ∃ q os', w' = grow (w.drewN q) os' := by
  obtain ⟨c1, hc1⟩ : ∃ c, c = Lib.compareInt wx wy := ⟨_, rfl⟩
  obtain ⟨c2, hc2⟩ : ∃ c, c = Lib.compareInt hx hy := ⟨_, rfl⟩
  have K1 := fun (W : World) => Try.cmp_Compare_int wx wy W
  have K2 := fun (W : World) => Try.cmp_Compare_int hx hy W
  rw [← hc1, ← hc2]
  rw [← hc1] at K1
  rw [← hc2] at K2
  have K1 := hide K1
  have K2 := hide K2
  have K3 := hide (fun (g : Nat) (W : World) => cmpOr2_any g c1 c2 W)
  clear hc1 hc2
  obtain ⟨B, hB⟩ : ∃ B, B = w.heap.size := ⟨_, rfl⟩
  obtain ⟨w0, hw0⟩ : ∃ w0, w0 = (w.alloc (.cells #[I wx, .slice (some ⟨gx, 0, none⟩) nx cx] 50)).alloc (.cells #[I wy, .slice (some ⟨gy, 0, none⟩) ny cy] 50) := ⟨_, rfl⟩
  have h0 : OrdAt w0 B wx wy hx hy gx cx nx gy cy ny := by
    have e1 : (w.alloc (.cells #[I wx, .slice (some ⟨gx, 0, none⟩) nx cx] 50)).heap.size = w.heap.size + 1 := by simp
    rw [hw0, hB]
    refine ⟨cell_alloc _ (World.cell?_alloc_new _ _ _ _), cell_alloc _ (World.cell?_alloc_new _ _ _ _), ?_, ?_, cell_alloc _ (cell_alloc _ h1), cell_alloc _ (cell_alloc _ h2)⟩
    · rw [← e1]; exact World.cell?_alloc_new _ _ _ _
    · rw [← e1]; exact World.cell?_alloc_new _ _ _ _
  have hs0 : w0.heap.size = B + 2 := by rw [hw0, hB]; simp
  have H0 := hide h0
  have HS0 := hide hs0
  have HB := hide hB
  have HW0 := hide hw0
  clear h0 h1 h2 hs0 hB
  obtain ⟨r1, r2, r3, r4, r5, r6⟩ : (∀ W : World, OrdAt W B wx wy hx hy gx cx nx gy cy ny → W.cell? ⟨B, 0, none⟩ = some (I wx)) ∧ (∀ W : World, OrdAt W B wx wy hx hy gx cx nx gy cy ny → W.cell? ⟨B, 1, none⟩ = some (.slice (some ⟨gx, 0, none⟩) nx cx)) ∧ (∀ W : World, OrdAt W B wx wy hx hy gx cx nx gy cy ny → W.cell? ⟨B + 1, 0, none⟩ = some (I wy)) ∧ (∀ W : World, OrdAt W B wx wy hx hy gx cx nx gy cy ny → W.cell? ⟨B + 1, 1, none⟩ = some (.slice (some ⟨gy, 0, none⟩) ny cy)) ∧ (∀ W : World, OrdAt W B wx wy hx hy gx cx nx gy cy ny → W.cell? ⟨gx, 0, none⟩ = some (.int .i64 hx)) ∧ (∀ W : World, OrdAt W B wx wy hx hy gx cx nx gy cy ny → W.cell? ⟨gy, 0, none⟩ = some (.int .i64 hy)) := ⟨fun _ h => h.a, fun _ h => h.b, fun _ h => h.c, fun _ h => h.d, fun _ h => h.e, fun _ h => h.f⟩
  go_enter Try.func19, Try.ntmps19
  go_upto_region 1 with fail
  rw [← hw0, ← unhide HB]
  clear hw0
  go_region_held3 (fun w' => OrdAt w' B wx wy hx hy gx cx nx gy cy ny) (first | exact (unhide H0).drew | assumption | exact OrdAt.drew (by assumption) | exact OrdAt.alloc (by assumption) _ | exact (OrdAt.alloc (by assumption) _).drew)
    ((first
      | (go_at_call 28; (with_reducible refine (unhide K1 _).mono ?_); rintro e w1 ⟨rfl, rfl⟩)
      | (go_at_call 28; (with_reducible refine (unhide K2 _).mono ?_); rintro e w1 ⟨rfl, rfl⟩)
      | (go_at_call 33; refine (unhide K3 _ _ (by exact (cell_new_at 0 (by simp)).trans rfl) (by exact (cell_new_at 1 (by simp)).trans rfl)).mono ?_; rintro e w1 ⟨rfl, rfl⟩)))
  all_goals
    go_wp2_with fail
    go_ret
    refine ⟨rfl, 1, #[.cells #[I wx, .slice (some ⟨gx, 0, none⟩) nx cx] 50, .cells #[I wy, .slice (some ⟨gy, 0, none⟩) ny cy] 50, .cells #[.int .i64 c1, .int .i64 c2] 3], ?_⟩
    rw [unhide HW0, alloc_eq_grow, alloc_eq_grow, alloc_eq_grow, grow_grow, grow_grow]
    rfl

def cmpE (x y : El) : Int := orI (Lib.compareInt x.w y.w) (Lib.compareInt (hd x.tr : Nat) (hd y.tr : Nat))
theorem cmpE_lt (x y : El) : decide (cmpE x y < 0) = keyLt x.tr y.tr := by
  have hk := keyLt_iff x.tr y.tr
  have e1 : x.tr.1 = x.w := rfl
  have e2 : y.tr.1 = y.w := rfl
  rw [e1, e2] at hk
  unfold cmpE orI Lib.compareInt
  rw [Bool.eq_iff_iff, decide_eq_true_eq, hk]
  repeat' split
  all_goals omega
theorem SgOK.head {w : World} {base : Nat} {e : El} (h : SgOK w base e) (hv : VT e.tr) : w.cell? ⟨e.g, 0, none⟩ = some (I (hd e.tr : Int)) ∧ 0 < e.s.length := by
  have hne : e.s ≠ [] := hv.ne
  have hp : 0 < e.s.length := List.length_pos_iff.2 hne
  refine ⟨?_, hp⟩
  have := h.cells (g := e.g) rfl 0 (natI (hd e.tr)) (by
    show (e.s.map natI)[0]? = _
    cases hs : e.s with
    | nil => exact absurd hs hne
    | cons a r => unfold hd El.tr; rw [hs]; rfl)
  rwa [Addr.add_lit] at this
theorem SgOK.kept {w w' : World} {base : Nat} {e : El} (h : SgOK w base e) (hg : w'.heap[e.g]? = w.heap[e.g]?) : SgOK w' base e := by
  refine ⟨h.1, ?_⟩
  rcases h.2 with ⟨hv, _⟩ | ⟨g', cap', cur, hv, hb, hg', rest⟩
  · cases hv
  · refine .inr ⟨g', cap', cur, hv, hb, ?_, rest⟩
    injection hv with ha
    injection ha with ha
    injection ha with ha
    rw [← ha] at hg' ⊢
    exact hg.trans hg'
theorem SgOK.ne {w : World} {base base' g off cap : Nat} {e : El} {l : List El} (h : SgOK w base e) (hq : QAt w base' g off cap l) : e.g ≠ g := by
  intro heq
  rcases h.2 with ⟨hv, _⟩ | ⟨g', cap', cur, hv, hb, hg', rest⟩
  · cases hv
  · injection hv with ha
    injection ha with ha
    injection ha with ha
    obtain ⟨_, cur2, h2, _⟩ := hq
    rw [← ha, heq, h2] at hg'
    injection hg' with hg'
    injection hg' with _ hg'
    exact absurd hg' (by decide)
theorem SgOK.lt {w : World} {base : Nat} {e : El} (h : SgOK w base e) : base ≤ e.g ∧ e.g < w.heap.size := World.ownsRow.lt h e.g rfl

theorem sortTree_any {w : World} {base g off cap : Nat} {l : List El} (hq : QAt w base g off cap l) (hs : ∀ e ∈ l, SgOK w base e) (hf : Forest (l.map El.tr)) (hn : l.length ≤ 1000) (h0 : 0 < l.length) :
    Calls Try.prog 18 #[.slice (some ⟨g, off, none⟩) l.length cap, .func (.func 19) #[] #[]] w fun e w' =>
      e = .returned (.tuple #[]) ∧ ∃ l', l'.Perm l ∧ Srt (l'.map El.tr) ∧ QAt w' base g off cap l' ∧ w.grownBy w' (some g) := by
  obtain ⟨n, hnl⟩ : ∃ n, n = l.length := ⟨_, rfl⟩
  have h0' : 0 < n := by omega
  haveI : Inhabited (Fin n) := ⟨⟨0, h0'⟩⟩
  obtain ⟨el, hel⟩ : ∃ el : Fin n → El, el = fun i => l[i.val]'(by have := i.isLt; omega) := ⟨_, rfl⟩
  have hmem : ∀ i, el i ∈ l := fun i => by rw [hel]; exact List.getElem_mem _
  have hmap : (List.finRange n).map el = l := by
    apply List.ext_getElem
    · simp [hnl]
    · intro i h1 h2
      simp [hel]
  have hfl : ∀ d : List (Fin n), (Go.Sort.flatK (fun i => elCells (el i)) 2 d.toArray).toList = (d.map el).flatMap elCells := fun d => by
    rw [flatK_list (fun i => elCells (el i)) 2 (fun _ => rfl) (by omega), List.flatMap_map]
  obtain ⟨d, hd⟩ : ∃ d, d = (List.finRange n).toArray := ⟨_, rfl⟩
  have hdn : d.size = n := by rw [hd]; simp
  have hH : Go.Sort.HoldsK (fun i => elCells (el i)) 2 w g off d := hq.holdsK _ _ (by rw [hd, hfl, hmap])
  have eg : ∀ args w, (callFunc 19 args).run Try.prog w = .ok (.enter 19 args) w := enters_of Try.func19 (by kernel_rfl) rfl
  have hvt : ∀ i, VT (el i).tr := fun i => hf.vt _ (List.mem_map_of_mem (hmem i))
  have hcmp : Go.Proofs.CmpLays Try.prog 19 #[] (fun i => elCells (el i)) 2 (fun i j => cmpE (el i) (el j)) g off d.size w := by
    intro m os dk hdk x y
    have keep : ∀ k, k ≠ g → k < w.heap.size → (Go.Proofs.sortWorldK (fun i => elCells (el i)) 2 w g off m dk os).heap[k]? = w.heap[k]? := by
      intro k hk hlt
      have e : (dk.toList.map el).length = l.length := by simp [hdk, hdn, hnl]
      exact ((hq.sorted (m := m) (os := os) (fun i => elCells (el i)) dk (by rw [← hfl, Array.toArray_toList]) e).2).block k hlt (fun e => hk (by injection e))
    have sx := hs _ (hmem x)
    have sy := hs _ (hmem y)
    obtain ⟨a1, a2⟩ := (sx.kept (keep _ (sx.ne hq) sx.lt.2)).head (hvt x)
    obtain ⟨b1, b2⟩ := (sy.kept (keep _ (sy.ne hq) sy.lt.2)).head (hvt y)
    exact order_raw _ _ _ _ _ _ _ _ _ _ _ a1 b1 a2 b2
  have hlt : ∀ i j : Fin n, Go.Proofs.ltOf (fun i j => cmpE (el i) (el j)) i j = keyLt (el i).tr (el j).tr := fun i j => cmpE_lt (el i) (el j)
  have hO : SWO (Go.Proofs.ltOf fun (i j : Fin n) => cmpE (el i) (el j)) := by
    refine ⟨fun x => ?_, fun x y z h1 h2 => ?_, fun x y z h1 h2 => ?_⟩
    · rw [hlt, Bool.eq_false_iff]; intro h; have := (keyLt_iff _ _).1 h; omega
    · rw [hlt] at *
      rw [keyLt_iff] at *
      omega
    · rw [hlt] at *
      rw [Bool.eq_false_iff] at *
      intro h
      rw [ne_eq, keyLt_iff] at h1 h2
      rw [keyLt_iff] at h
      omega
  have hcon := Go.Proofs.AnyQ.slices_SortFunc Try.sortTree 2 Try.isAgg50 Try.sizeOf50 (fun i => elCells (el i)) (fun _ => rfl) (fun x v hv => by simp [elCells] at hv; rcases hv with rfl | rfl <;> rfl) (fun i j => cmpE (el i) (el j)) hO 19 #[] g off cap d w eg hcmp hH hq.lt (by omega)
  change Calls Try.prog 18 _ _ _ at hcon
  rw [hdn] at hcon
  rw [← hnl]
  refine hcon.mono ?_
  rintro e w' ⟨rfl, d', m, os, hp, hss, rfl⟩
  have hp' : PermIn 0 (List.finRange n).toArray.size (List.finRange n).toArray d' := by
    rw [← hd, hdn]; exact hp
  obtain ⟨hp1, hp2⟩ := perm_of hp'
  have hpl : (d'.toList.map el).Perm l := by
    have := hp1.map el
    rwa [hmap] at this
  have hsrt := sorted_of (n := n) (by simpa using hp2) hss
  obtain ⟨r1, r2⟩ := hq.sorted (m := m) (os := os) (fun i => elCells (el i)) d' (l' := d'.toList.map el) (by rw [← hfl, Array.toArray_toList]) hpl.length_eq
  refine ⟨rfl, d'.toList.map el, hpl, ?_, r1, r2⟩
  have hkd : KD ((d'.toList.map el).map El.tr) := hf.kd.perm (hpl.map El.tr).symm
  unfold Srt
  unfold KD at hkd
  rw [List.map_map, List.pairwise_map] at hkd ⊢
  refine (hsrt.and hkd).imp ?_
  rintro a b ⟨h1, h2⟩
  rw [hlt, Bool.eq_false_iff, ne_eq, keyLt_iff] at h1
  rw [keyLt_iff]
  simp only [Function.comp] at h2 ⊢
  omega

end Go.Proofs.Ytgfkkjcnnecefab

/- The walks of the references of chapter 1. -/
namespace Go.Proofs.Ytgfkkjcnnecefab
open Go.RowKit Pl
attribute [local go_sem] ext_list app_list

end Go.Proofs.Ytgfkkjcnnecefab

/- The walk of the reference's TokBytes. -/
namespace Go.Proofs.Ytgfkkjcnnecefab
open Go.RowKit Go.Lib Pl
attribute [local go_sem] ext_list app_list

theorem concat_list (x y : List UInt8) (h : x.length + y.length ≤ 9223372036854775807) : Op.stringOp .add ⟨x.toArray⟩ ⟨y.toArray⟩ = (pure (S (x ++ y)) : Sem Value) := by
  unfold Op.stringOp
  have hx : (⟨x.toArray⟩ : ByteArray).size = x.length := rfl
  have hy : (⟨y.toArray⟩ : ByteArray).size = y.length := rfl
  have hm : IntKind.i64.max = 9223372036854775807 := rfl
  simp only [hx, hy, hm]
  rw [if_neg (by omega), app_list]

theorem toksB_snoc (l : List Tok) (t : Tok) : toksB (l ++ [t]) = toksB l ++ tokB t := by
  induction l with
  | nil => simp [toksB]
  | cons u l ih => simp [toksB, ih]
theorem toksB_take {l : List Tok} {k : Nat} {t : Tok} (h : l[k]? = some t) : toksB (l.take (k + 1)) = toksB (l.take k) ++ tokB t := by
  rw [List.take_add_one, h]; exact toksB_snoc _ _

/-- a tok of some sizes -/
def Small (t : Tok) : Prop := t.lit.length ≤ 512 ∧ 0 ≤ t.len ∧ t.len ≤ 64 ∧ 0 ≤ t.far ∧ t.far ≤ 1000

theorem nb_len5 {n : Nat} (h : n ≤ 2000) : (nb n).length ≤ 5 := by
  have := nb_len 4 n (by omega)
  omega
theorem tokB_small {t : Tok} (h : Small t) : (tokB t).length ≤ 1000 := by
  obtain ⟨h1, h2, h3, h4, h5⟩ := h
  have a := nb_len5 (n := 2 * t.lit.length) (by omega)
  have b := nb_len5 (n := 2 * t.len.toNat + 1) (by omega)
  have c := nb_len5 (n := t.far.toNat) (by omega)
  unfold tokB
  split <;> simp <;> omega
theorem toksB_small : ∀ (l : List Tok), (∀ t ∈ l, Small t) → (toksB l).length ≤ 1000 * l.length
  | [], _ => by simp [toksB]
  | t :: l, h => by
    have a := tokB_small (h t (by simp))
    have b := toksB_small l (fun u hu => h u (by simp [hu]))
    simp [toksB]; omega

end Go.Proofs.Ytgfkkjcnnecefab

/- The walk of the reference's bits. -/
namespace Go.Proofs.Ytgfkkjcnnecefab
open Go.RowKit Go.Lib Pl
attribute [local go_sem] ext_list app_list

def bch (b : Bool) : UInt8 := if b then 49 else 48
def bstr (l : List Bool) : Bytes := l.map bch
theorem bstr_len (l : List Bool) : (bstr l).length = l.length := List.length_map ..
theorem bstr_app (a b : List Bool) : bstr (a ++ b) = bstr a ++ bstr b := List.map_append ..
theorem bstr_inj {a b : List Bool} (h : bstr a = bstr b) : a = b := by
  induction a generalizing b with
  | nil => cases b with
    | nil => rfl
    | cons y b => simp [bstr] at h
  | cons x a ih => cases b with
    | nil => simp [bstr] at h
    | cons y b =>
      simp only [bstr, List.map_cons, List.cons.injEq] at h
      rw [ih h.2]
      congr 1
      have h1 := h.1
      cases x <;> cases y <;> first | rfl | (exact absurd h1 (by decide))

end Go.Proofs.Ytgfkkjcnnecefab

/- The walk of the reference's words. -/
namespace Go.Proofs.Ytgfkkjcnnecefab
open Go.RowKit Go.Lib Pl

/-- an array of sixteen strings -/
abbrev cellsS (o : Nat → Bytes) : Array Value := ((List.range 16).map fun j => S (o j)).toArray
abbrev AS (o : Nat → Bytes) : Value := .agg (cellsS o)
theorem cellsS_get (o : Nat → Bytes) (k : Nat) (hk : k < 16) : (cellsS o)[k]? = some (S (o k)) := by simp [cellsS, hk]
theorem cellsS_set (o : Nat → Bytes) (k : Nat) (b : Bytes) (hk : k < 16) : (cellsS o).setIfInBounds k (S b) = cellsS fun j => if j = k then b else o j := by
  apply Array.ext_getElem?
  intro j
  rw [Array.getElem?_setIfInBounds]
  by_cases hj : j < 16
  · rw [cellsS_get _ j hj]
    by_cases e : k = j
    · subst e; simp [hj]
    · rw [if_neg e, cellsS_get _ j hj, if_neg (fun h => e h.symm)]
  · have e1 : ∀ o, (cellsS o)[j]? = none := fun o => by simp [cellsS]; omega
    rw [e1, e1]
    split
    · split
      · rename_i h1 h2; subst h1; simp [cellsS] at h2; omega
      · rfl
    · rfl
theorem cellsS_congr {o o' : Nat → Bytes} (h : ∀ j, j < 16 → o j = o' j) : cellsS o = cellsS o' := by
  apply Array.ext_getElem?
  intro j
  by_cases hj : j < 16
  · rw [cellsS_get _ j hj, cellsS_get _ j hj, h j hj]
  · have e1 : ∀ o, (cellsS o)[j]? = none := fun o => by simp [cellsS]; omega
    rw [e1, e1]
theorem cellsS_one (o : Nat → Bytes) : (cellsS o).all (·.oneCell') = true := by
  rw [Array.all_eq_true_iff_forall_mem]
  intro v hv
  simp only [cellsS, List.mem_toArray, List.mem_map] at hv
  obtain ⟨j, _, rfl⟩ := hv
  rfl
theorem cellsS_size (o : Nat → Bytes) : (cellsS o).size = 16 := by simp [cellsS]

/-- what lies there when the words of the earlier ones are written -/
def outW (l : List Int) (s i : Nat) (j : Nat) : Bytes := if Pl.early l s i j = true then bstr (wordB l j) else []
/-- where the reference stands -/
structure RefAt (l : List Int) (s i n q : Nat) : Prop where
  le : q ≤ s
  q15 : q ≤ 15
  val : n * pw q = preS l s i
theorem RefAt.small {l : List Int} {s i n q : Nat} (h : RefAt l s i n q) (hr : Right l) : n ≤ 32768 := by
  have h1 := Nat.le_trans (preS_le l s i) hr.sum
  rw [← h.val] at h1
  exact Nat.le_trans (Nat.le_mul_of_pos_right n (pw_pos q)) h1
theorem RefAt.start (l : List Int) : RefAt l 1 0 0 0 := ⟨by omega, by omega, by rw [preS_zero]; omega⟩
theorem RefAt.skip {l : List Int} {s i n q : Nat} (h : RefAt l s i n q) (hn : ln l i ≠ s) : RefAt l s (i + 1) n q := ⟨h.le, h.q15, by rw [preS_skip hn]; exact h.val⟩
theorem RefAt.row {l : List Int} {s n q : Nat} (h : RefAt l s 16 n q) : RefAt l (s + 1) 0 n q := ⟨by have := h.le; omega, h.q15, by rw [preS_row]; exact h.val⟩
theorem RefAt.number {l : List Int} {s i n q : Nat} (h : RefAt l s i n q) (hs : s ≤ 15) (hn : ln l i = s) : wv l i = n * 2 ^ (s - q) := by
  have h1 := wv_mul l i
  rw [hn, ← h.val, pw_split h.le hs, ← Nat.mul_assoc] at h1
  exact Nat.eq_of_mul_eq_mul_right (pw_pos s) h1
theorem RefAt.hit {l : List Int} {s i n q : Nat} (_h : RefAt l s i n q) (hs : s ≤ 15) (h0 : 0 < s) (hi : i < 16) (hn : ln l i = s) : RefAt l s (i + 1) (wv l i + 1) s := by
  refine ⟨Nat.le_refl _, hs, ?_⟩
  have h1 := wv_mul l i
  rw [hn] at h1
  rw [preS_hit hn h0 hi, Nat.add_mul, h1, Nat.one_mul]
theorem outW_start (l : List Int) : outW l 1 0 = fun _ => [] := by
  funext j
  unfold outW
  rw [if_neg]
  rw [early_iff]; omega
theorem outW_skip {l : List Int} {s i : Nat} (hn : ln l i ≠ s) : outW l s (i + 1) = outW l s i := by
  funext j
  unfold outW
  rw [early_skip hn]
theorem outW_hit {l : List Int} {s i : Nat} (hn : ln l i = s) (h0 : 0 < s) : outW l s (i + 1) = fun j => if j = i then bstr (bt (wv l i) s) else outW l s i j := by
  funext j
  unfold outW
  rw [early_hit hn h0]
  by_cases e : j = i
  · subst e; simp [wordB, hn]
  · simp [e]
theorem outW_row (l : List Int) (s : Nat) : cellsS (outW l s 16) = cellsS (outW l (s + 1) 0) :=
  cellsS_congr fun j hj => by unfold outW; rw [early_row hj]
theorem outW_end {l : List Int} (hr : Right l) : cellsS (outW l 16 0) = cellsS fun j => bstr (wordB l j) :=
  cellsS_congr fun j _ => by
    unfold outW
    by_cases e : Pl.early l 16 0 j = true
    · rw [if_pos e]
    · rw [if_neg e]
      rw [early_iff] at e
      have := hr.one j
      have h0 : ln l j = 0 := by omega
      unfold wordB
      rw [h0]; rfl
theorem ln_get {l : List Int} (hr : Right l) {i : Nat} (hi : i < 16) : l[i]? = some (ln l i : Int) := by
  have hl := hr.len
  have h1 : l[i]? = some l[i] := List.getElem?_eq_getElem (by omega)
  have h2 := hr.nn _ (List.getElem_mem (show i < l.length by omega))
  rw [h1]
  unfold ln
  rw [List.getD_eq_getElem?_getD, h1]
  simp; omega

theorem shl_fact {x d v : Nat} (h : v = x * 2 ^ d) (hd : d ≤ 64) (hv : v ≤ 100000) : wrap64 ((x : Int) * 2 ^ min d 64) = (v : Int) := by
  have e : (x : Int) * 2 ^ d = ((x * 2 ^ d : Nat) : Int) := by norm_cast
  rw [Nat.min_eq_left hd, e, ← h]
  clear e h
  exact IntWalk.wrap64_in _ ⟨by omega, by omega⟩

end Go.Proofs.Ytgfkkjcnnecefab

/- The walk of the reference's front. -/
namespace Go.Proofs.Ytgfkkjcnnecefab
open Go.RowKit Go.Lib Pl
attribute [local go_sem] ext_list app_list

def frontI (l : List Int) (b : List Bool) : Int := match frontP l b with
  | none => -1
  | some i => (i : Int)
theorem slice0 (x : Bytes) (m : Nat) : slice x 0 m = x.take m := by unfold slice; simp
/-- the test, in the reference's words -/
theorem hit_str (l : List Int) (b : List Bool) (k : Nat) : hitB l b k = true ↔ 0 < ln l k ∧ ln l k ≤ (bstr b).length ∧ slice (bstr b) 0 (ln l k) = bstr (wordB l k) := by
  rw [hit_iff, slice0, bstr_len, bstr, ← List.map_take]
  constructor
  · rintro ⟨h1, t, ht⟩
    have hl := congrArg List.length ht
    rw [List.length_append, wordB_len] at hl
    refine ⟨h1, by omega, ?_⟩
    rw [← ht, List.take_append_of_le_length (by rw [wordB_len]; omega), List.take_of_length_le (by rw [wordB_len]; omega)]; rfl
  · rintro ⟨h1, h2, h3⟩
    refine ⟨h1, ?_⟩
    have : b.take (ln l k) = wordB l k := bstr_inj h3
    rw [← this]; exact List.take_prefix _ _

end Go.Proofs.Ytgfkkjcnnecefab

/- The walk of the reference's WriteCode. -/
namespace Go.Proofs.Ytgfkkjcnnecefab
open Go.RowKit Go.Lib Pl
attribute [local go_sem] ext_list app_list

/-- the array in its variable -/
structure BoxAt (l : List Int) (w wr : World) (B : Nat) : Prop where
  a : wr.heap[B]? = some (.cells (cells16 l) 22 (0, 0))
  bel : Below B w wr
theorem BoxAt.below {l : List Int} {w wr w1 : World} {B : Nat} (h : BoxAt l w wr B) (hb : Below wr.heap.size wr w1) : BoxAt l w w1 B := by
  have s1 := (Array.getElem?_eq_some_iff.1 h.a).1
  exact ⟨(hb.block B s1).trans h.a, h.bel.trans (hb.mono (by omega))⟩
theorem BoxAt.boxed (l : List Int) (w : World) : BoxAt l w (w.alloc (.cells (cells16 l) 22)) w.heap.size := ⟨heap_alloc_new w _, (Below.refl _ _).alloc (Nat.le_refl _) _⟩
theorem writeE_code {l : List Int} {s : Bytes} (h : checkE l ≠ 0) : writeE l s = checkE l ∧ writeS l s = [] := by
  have : writeE l s = checkE l := by unfold writeE; rw [if_pos h]
  exact ⟨this, by unfold writeS; rw [if_neg (by omega)]⟩
theorem writeE_many {l : List Int} {s : Bytes} (h : checkE l = 0) (h2 : 1024 < s.length) : writeE l s = 2 ∧ writeS l s = [] := by
  have : writeE l s = 2 := by unfold writeE; rw [if_neg (by omega), if_pos h2]
  exact ⟨this, by unfold writeS; rw [if_neg (by omega)]⟩
theorem writeE_none {l : List Int} {s : Bytes} (h : checkE l = 0) (h2 : ¬ 1024 < s.length) (h3 : lacks l (nibs s) = true) : writeE l s = 5 ∧ writeS l s = [] := by
  have : writeE l s = 5 := by unfold writeE; rw [if_neg (by omega), if_neg h2, if_pos h3]
  exact ⟨this, by unfold writeS; rw [if_neg (by omega)]⟩
theorem writeE_ok {l : List Int} {s : Bytes} (h : checkE l = 0) (h2 : ¬ 1024 < s.length) (h3 : lacks l (nibs s) = false) : writeE l s = 0 ∧ writeS l s = packB (encK l (nibs s)) := by
  have : writeE l s = 0 := by unfold writeE; rw [if_neg (by omega), if_neg h2, h3]; rfl
  exact ⟨this, by unfold writeS; rw [if_pos this]⟩

def strLenB : Value → Nat
  | .string s => s.size
  | _ => 0
/-- so much of the text is written -/
structure WAt (l : List Int) (s : Bytes) (k : Nat) (X : List Bool) : Prop where
  bits : X = encK l (nibs (s.take k))
  fine : lacks l (nibs (s.take k)) = false
theorem WAt.start (l : List Int) (s : Bytes) : WAt l s 0 [] := ⟨rfl, rfl⟩
theorem WAt.len {l : List Int} {s : Bytes} {k : Nat} {X : List Bool} (h : WAt l s k X) (hr : Right l) (hk : k ≤ s.length) : X.length ≤ 30 * k := by
  have h1 := encK_len hr (nibs (s.take k))
  rw [nibs_len, List.length_take] at h1
  rw [h.bits]; omega
theorem nibs_take {s : Bytes} {k : Nat} {c : UInt8} (h : s[k]? = some c) : nibs (s.take (k + 1)) = nibs (s.take k) ++ [c.toNat / 16, c.toNat % 16] := by
  rw [List.take_add_one, h, nibs_app]; rfl
theorem WAt.step {l : List Int} {s : Bytes} {k : Nat} {X : List Bool} {c : UInt8} (h : WAt l s k X) (hc : s[k]? = some c) (h1 : ln l (c.toNat / 16) ≠ 0) (h2 : ln l (c.toNat % 16) ≠ 0) :
    WAt l s (k + 1) (X ++ wordB l (c.toNat / 16) ++ wordB l (c.toNat % 16)) := by
  refine ⟨?_, ?_⟩
  · rw [nibs_take hc, encK_app, ← h.bits, List.append_assoc]; simp [encK]
  · have h3 := h.fine
    unfold lacks at h3 ⊢
    rw [nibs_take hc, List.any_append, h3]
    simp [h1, h2]
theorem WAt.lack {l : List Int} {s : Bytes} {k : Nat} {c : UInt8} (hc : s[k]? = some c) (h1 : ln l (c.toNat / 16) = 0 ∨ ln l (c.toNat % 16) = 0) : lacks l (nibs s) = true := by
  have : lacks l (nibs (s.take (k + 1))) = true := by
    unfold lacks
    rw [nibs_take hc, List.any_append]
    rcases h1 with h | h <;> simp [h]
  rw [← List.take_append_drop (k + 1) s, nibs_app]
  unfold lacks at this ⊢
  rw [List.any_append, this]; rfl

end Go.Proofs.Ytgfkkjcnnecefab

/- Arrays of sixteen words; the signs that have words, in order. -/
namespace Go.Proofs.Ytgfkkjcnnecefab
open Go.RowKit Go.Lib Pl

/-- an array of sixteen words -/
abbrev cellsP (f : Nat → Nat × Nat) : Array Value := ((List.range 32).map fun j => if j % 2 = 0 then I (f (j / 2)).1 else I (f (j / 2)).2).toArray
abbrev AP (f : Nat → Nat × Nat) : Value := .agg (cellsP f)
theorem info16w : (Try.prog.info? 39).map (fun i => (i.zero, i.size)) = some (some (AP fun _ => (0, 0)), 32) := by kernel_rfl
theorem size16w : (Try.prog.info? 39).map (·.size) = some 32 := (zero_of_info info16w).2
theorem zero16w (w : World) : (zeroValue 39).run Try.prog w = .ok (AP fun _ => (0, 0)) w := (zero_of_info info16w).1 w
theorem cellsP_size (f : Nat → Nat × Nat) : (cellsP f).size = 32 := by simp [cellsP]
theorem cellsP_one (f : Nat → Nat × Nat) : (cellsP f).all (·.oneCell') = true := by
  rw [Array.all_eq_true_iff_forall_mem]
  intro v hv
  simp only [cellsP, List.mem_toArray, List.mem_map] at hv
  obtain ⟨j, _, rfl⟩ := hv
  split <;> rfl
theorem cellsP_get (f : Nat → Nat × Nat) (j : Nat) (hj : j < 32) : (cellsP f)[j]? = some (if j % 2 = 0 then I (f (j / 2)).1 else I (f (j / 2)).2) := by simp [cellsP, hj]
theorem cellsP_get0 (f : Nat → Nat × Nat) (k : Nat) (hk : k < 16) : (cellsP f)[k * 2]? = some (I (f k).1) := by
  rw [cellsP_get f _ (by omega), if_pos (by omega), show k * 2 / 2 = k from by omega]
theorem cellsP_get1 (f : Nat → Nat × Nat) (k : Nat) (hk : k < 16) : (cellsP f)[k * 2 + 1]? = some (I (f k).2) := by
  rw [cellsP_get f _ (by omega), if_neg (by omega), show (k * 2 + 1) / 2 = k from by omega]
theorem cellsP_none (f : Nat → Nat × Nat) (j : Nat) (hj : ¬ j < 32) : (cellsP f)[j]? = none := by simp [cellsP]; omega
theorem cellsP_set (f : Nat → Nat × Nat) (k : Nat) (a b : Nat) (hk : k < 16) : ((cellsP f).setIfInBounds (k * 2) (I a)).setIfInBounds (k * 2 + 1) (I b) = cellsP fun j => if j = k then (a, b) else f j := by
  apply Array.ext_getElem?
  intro j
  rw [Array.getElem?_setIfInBounds, Array.getElem?_setIfInBounds]
  simp only [Array.size_setIfInBounds, cellsP_size]
  by_cases hj : j < 32
  · rw [cellsP_get _ j hj]
    by_cases e1 : k * 2 + 1 = j
    · rw [if_pos e1, if_pos (by omega), cellsP_get _ j hj, if_neg (by omega), show j / 2 = k from by omega]; simp
    · rw [if_neg e1]
      by_cases e2 : k * 2 = j
      · rw [if_pos e2, if_pos (by omega), cellsP_get _ j hj, if_pos (by omega), show j / 2 = k from by omega]; simp
      · rw [if_neg e2, cellsP_get _ j hj]
        have : ¬ j / 2 = k := by omega
        simp [this]
  · rw [cellsP_none _ j hj, cellsP_none _ j hj, if_neg (by omega), if_neg (by omega)]
theorem cellsP_congr {f f' : Nat → Nat × Nat} (h : ∀ j, j < 16 → f j = f' j) : cellsP f = cellsP f' := by
  apply Array.ext_getElem?
  intro j
  by_cases hj : j < 32
  · rw [cellsP_get _ j hj, cellsP_get _ j hj, h (j / 2) (by omega)]
  · rw [cellsP_none _ j hj, cellsP_none _ j hj]

/-- the signs that have words, of the first so many -/
def used (l : List Int) : Nat → List (Fin 16)
  | 0 => []
  | k + 1 => used l k ++ (if h : k < 16 ∧ 0 < ln l k then [⟨k, h.1⟩] else [])
theorem used_mem (l : List Int) : ∀ (k : Nat) (i : Fin 16), i ∈ used l k ↔ i.val < k ∧ 0 < ln l i
  | 0, i => by simp [used]
  | k + 1, i => by
    rw [used, List.mem_append, used_mem l k i]
    by_cases h : k < 16 ∧ 0 < ln l k
    · rw [dif_pos h, List.mem_singleton]
      constructor
      · rintro (⟨h1, h2⟩ | rfl)
        · exact ⟨by omega, h2⟩
        · exact ⟨by simp, h.2⟩
      · rintro ⟨h1, h2⟩
        by_cases e : i.val = k
        · exact .inr (Fin.ext e)
        · exact .inl ⟨by omega, h2⟩
    · rw [dif_neg h]
      simp only [List.not_mem_nil, or_false]
      constructor
      · rintro ⟨h1, h2⟩; exact ⟨by omega, h2⟩
      · rintro ⟨h1, h2⟩
        refine ⟨?_, h2⟩
        by_cases e : i.val = k
        · exfalso
          apply h
          rw [← e]; exact ⟨i.isLt, h2⟩
        · omega
theorem used_lt (l : List Int) : ∀ k, (used l k).Pairwise (· < ·)
  | 0 => List.Pairwise.nil
  | k + 1 => by
    rw [used]
    refine List.pairwise_append.2 ⟨used_lt l k, ?_, ?_⟩
    · split <;> simp
    · intro a ha b hb
      have h1 := (used_mem l k a).1 ha
      split at hb
      · rw [List.mem_singleton] at hb
        subst hb
        rw [Fin.lt_def]; exact h1.1
      · simp at hb
theorem used_len (l : List Int) : ∀ k, (used l k).length ≤ k
  | 0 => Nat.le_refl _
  | k + 1 => by
    have := used_len l k
    rw [used, List.length_append]
    split <;> simp <;> omega
/-- the room of some signs -/
def sumP (l : List Int) (p : List (Fin 16)) : Nat := (p.map fun i : Fin 16 => pw (ln l i)).sum
theorem sumP_app (l : List Int) (a b : List (Fin 16)) : sumP l (a ++ b) = sumP l a + sumP l b := by unfold sumP; rw [List.map_append, List.sum_append]
theorem sumP_perm (l : List Int) {a b : List (Fin 16)} (h : a.Perm b) : sumP l a = sumP l b := (h.map _).sum_nat
theorem sumP_used (l : List Int) (q : Nat → Bool) (hq : ∀ j, q j = true → 0 < ln l j) : ∀ k, k ≤ 16 → sumP l ((used l k).filter fun i : Fin 16 => q i) = sumN (fun j => if q j = true then pw (ln l j) else 0) k
  | 0, _ => rfl
  | k + 1, hk => by
    rw [used, List.filter_append, sumP_app, sumP_used l q hq k (by omega), sumN]
    congr 1
    by_cases h : k < 16 ∧ 0 < ln l k
    · rw [dif_pos h]
      by_cases e : q k = true
      · rw [if_pos e]; simp [sumP, e]
      · rw [if_neg e]; simp [sumP, e]
    · rw [dif_neg h, if_neg (fun e => h ⟨by omega, hq k e⟩)]; rfl
def Lex (l : List Int) (a b : Fin 16) : Prop := ln l a < ln l b ∨ (ln l a = ln l b ∧ a < b)
theorem take_filter (l : List Int) {p : List (Fin 16)} (hp : p.Pairwise (Lex l)) (hu : ∀ i ∈ p, 0 < ln l i) {k : Nat} {x : Fin 16} (hk : p[k]? = some x) : p.filter (fun i : Fin 16 => Pl.early l (ln l x) x i) = p.take k := by
  obtain ⟨hlt, hx⟩ := List.getElem?_eq_some_iff.1 hk
  have hsp : p = p.take k ++ x :: p.drop (k + 1) := by
    rw [← hx, ← List.drop_eq_getElem_cons hlt, List.take_append_drop]
  have hp2 := hp
  rw [hsp] at hp2
  obtain ⟨_, h2, h3⟩ := List.pairwise_append.1 hp2
  have h4 := List.pairwise_cons.1 h2
  conv => lhs; rw [hsp]
  rw [List.filter_append]
  have e1 : (p.take k).filter (fun i : Fin 16 => Pl.early l (ln l x) x i) = p.take k := by
    rw [List.filter_eq_self]
    intro a ha
    rw [early_iff]
    have := h3 a ha x (by simp)
    unfold Lex at this
    rw [Fin.lt_def] at this
    exact ⟨hu a (List.mem_of_mem_take ha), this⟩
  have e2 : (x :: p.drop (k + 1)).filter (fun i : Fin 16 => Pl.early l (ln l x) x i) = [] := by
    rw [List.filter_eq_nil_iff]
    intro a ha
    rw [early_iff]
    rcases List.mem_cons.1 ha with rfl | ha
    · omega
    · have := h4.1 a ha
      unfold Lex at this
      rw [Fin.lt_def] at this
      omega
  rw [e1, e2, List.append_nil]
/-- the program's number is the room of the earlier ones -/
theorem sum_take (l : List Int) {p : List (Fin 16)} (hpm : p.Perm (used l 16)) (hp : p.Pairwise (Lex l)) {k : Nat} {x : Fin 16} (hk : p[k]? = some x) : sumP l (p.take k) = preS l (ln l x) x := by
  rw [← take_filter l hp (fun i hi => ((used_mem l 16 i).1 (hpm.mem_iff.1 hi)).2) hk, sumP_perm l (hpm.filter _)]
  rw [sumP_used l (fun j => Pl.early l (ln l x) x j) (fun j hj => ((early_iff _ _ _ _).1 hj).1) 16 (Nat.le_refl _)]
  rfl

theorem used_some {l : List Int} (hr : Right l) : used l 16 ≠ [] := by
  intro e
  have h1 := hr.some
  have : krS l = 0 := sumN_zero 16 fun j hj => by
    rw [if_neg]
    intro h
    have := (used_mem l 16 ⟨j, hj⟩).2 ⟨hj, h⟩
    rw [e] at this; simp at this
  omega
theorem row_at {w : World} {base n : Nat} {e : TypeId} {v : Value} {xs : List Value} (h : w.ownsRow base e 1 v n xs) (hn : n ≠ 0) : ∃ g cap, v = .slice (some ⟨g, 0, none⟩) n cap := by
  rcases h.2 with ⟨_, h0⟩ | ⟨g, cap, cur, hv, _⟩
  · exact absurd h0 hn
  · exact ⟨g, cap, hv⟩
/-- what lies in the words' array, so many of the sorted signs behind us -/
def outP (l : List Int) (p : List (Fin 16)) (k j : Nat) : Nat × Nat := if (p.take k).any (fun i => decide (i.val = j)) = true then (wv l j, ln l j) else (0, 0)
theorem outP_zero (l : List Int) (p : List (Fin 16)) : outP l p 0 = fun _ => (0, 0) := by funext j; simp [outP]
theorem outP_step (l : List Int) {p : List (Fin 16)} {k : Nat} {x : Fin 16} (hk : p[k]? = some x) : outP l p (k + 1) = fun j => if j = x.val then (wv l x, ln l x) else outP l p k j := by
  funext j
  unfold outP
  rw [List.take_add_one, hk, List.any_append]
  by_cases e : j = x.val
  · subst e; simp
  · have : ¬ x.val = j := fun h => e h.symm
    simp [this, e]
theorem outP_end {l : List Int} {p : List (Fin 16)} (hpm : p.Perm (used l 16)) {k : Nat} (hk : p.length ≤ k) : cellsP (outP l p k) = cellsP fun j => (wv l j, ln l j) :=
  cellsP_congr fun j hj => by
    unfold outP
    rw [List.take_of_length_le hk]
    by_cases h : 0 < ln l j
    · rw [if_pos]
      rw [List.any_eq_true]
      exact ⟨⟨j, hj⟩, hpm.mem_iff.2 ((used_mem l 16 ⟨j, hj⟩).2 ⟨hj, h⟩), by simp⟩
    · have h0 : ln l j = 0 := by omega
      rw [if_neg]
      · have : wv l j = 0 := by
          unfold wv preS
          rw [h0, sumN_zero 16 fun i _ => by rw [if_neg]; rw [early_iff]; omega]
          simp
        rw [this, h0]
      · intro ha
        rw [List.any_eq_true] at ha
        obtain ⟨i, hi, he⟩ := ha
        have h1 := ((used_mem l 16 i).1 (hpm.mem_iff.1 hi)).2
        have h2 : i.val = j := by simpa using he
        rw [h2] at h1; omega
theorem info_intP : (Try.prog.info? 3).map (fun i => (i.zero, i.size, i.bytes)) = some (some (.int .i64 0), 1, 8) := by kernel_rfl

theorem meas_up {n k : Nat} (h : k < n) : n - (intOf (Value.int .i64 ((k : Int) + 1))).toNat < n - (intOf (Value.int .i64 (k : Int))).toNat := by simp [intOf]; omega
/-- what the program's words gives -/
def WordsSpec : Prop := ∀ (l : List Int) (w : World), Right l → Calls Try.prog 15 #[A16 l] w fun e w' => e = .returned (AP fun j => (wv l j, ln l j)) ∧ Below w.heap.size w w'

end Go.Proofs.Ytgfkkjcnnecefab
