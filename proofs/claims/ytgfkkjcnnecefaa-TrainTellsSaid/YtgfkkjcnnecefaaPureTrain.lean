/- Plain mathematics of chapter 5: training. No program in sight. -/
import Derived.Test.YtgfkkjcnnecefaaPureNums
namespace Go.Proofs.Ytgfkkjcnnecefaa
namespace Pl

/-- does a piece stand in a text? -/
def stands (p : Bytes) : Bytes → Bool
  | [] => p.isEmpty
  | c :: t => p.isPrefixOf (c :: t) || stands p t

theorem stands_iff (p : Bytes) : ∀ t : Bytes, stands p t = true ↔ ∃ a b, t = a ++ p ++ b
  | [] => by
    simp only [stands, List.isEmpty_iff]
    constructor
    · rintro rfl; exact ⟨[], [], rfl⟩
    · rintro ⟨a, b, h⟩
      have := congrArg List.length h
      simp at this
      exact List.eq_nil_of_length_eq_zero (by omega)
  | c :: t => by
    simp only [stands, Bool.or_eq_true, List.isPrefixOf_iff_prefix]
    rw [stands_iff p t]
    constructor
    · rintro (⟨b, h⟩ | ⟨a, b, h⟩)
      · exact ⟨[], b, by simp [h]⟩
      · exact ⟨c :: a, b, by simp [h]⟩
    · rintro ⟨a, b, h⟩
      cases a with
      | nil => exact .inl ⟨b, by simpa using h.symm⟩
      | cons d a =>
        simp at h
        exact .inr ⟨a, b, by simp [h.2]⟩
theorem stands_app {p t : Bytes} (x : Bytes) (h : stands p t = true) : stands p (x ++ t) = true := by
  obtain ⟨a, b, rfl⟩ := (stands_iff p t).1 h
  exact (stands_iff p _).2 ⟨x ++ a, b, by simp⟩
theorem stands_head (p t : Bytes) : stands p (p ++ t) = true := (stands_iff p _).2 ⟨[], t, by simp⟩

/-- the pieces of a text, in their order -/
def piece (t : Bytes) (k : Nat) : Bytes := slice t k (k + 4)
def piecesOf (t : Bytes) : List Bytes := (List.range (t.length - 3)).map (piece t)
theorem piece_len {t : Bytes} {k : Nat} (h : k < t.length - 3) : (piece t k).length = 4 := by unfold piece; rw [slice_len]; omega
theorem piecesOf_get {t : Bytes} {k : Nat} (h : k < t.length - 3) : (piecesOf t)[k]? = some (piece t k) := by unfold piecesOf; rw [List.getElem?_map, List.getElem?_range h]; rfl
theorem piecesOf_len (t : Bytes) : (piecesOf t).length = t.length - 3 := by simp [piecesOf]

theorem slice_split {t : Bytes} {a b : Nat} (h : a ≤ b) : t = t.take a ++ slice t a b ++ t.drop b := by
  unfold slice
  have h1 : t.take a ++ (t.take b).drop a = t.take b := by
    have : t.take a = (t.take b).take a := by rw [List.take_take, Nat.min_eq_left h]
    rw [this, List.take_append_drop]
  rw [h1, List.take_append_drop]
theorem mem_piecesOf {p t : Bytes} (hp : p.length = 4) : p ∈ piecesOf t ↔ stands p t = true := by
  rw [stands_iff]
  unfold piecesOf
  simp only [List.mem_map, List.mem_range]
  constructor
  · rintro ⟨k, hk, rfl⟩
    exact ⟨t.take k, t.drop (k + 4), slice_split (by omega)⟩
  · rintro ⟨a, b, rfl⟩
    refine ⟨a.length, by simp; omega, ?_⟩
    unfold piece slice
    have : a.length + 4 = (a ++ p).length := by simp [hp]
    rw [this, List.take_left' rfl, List.drop_left' rfl]
theorem mem_piecesOf_len {p t : Bytes} (h : p ∈ piecesOf t) : p.length = 4 := by
  unfold piecesOf at h
  simp only [List.mem_map, List.mem_range] at h
  obtain ⟨k, hk, rfl⟩ := h
  exact piece_len hk

/-- in how many texts a piece stands -/
def cnt (l : List Bytes) (p : Bytes) : Nat := (l.filter (stands p)).length
def allPieces (l : List Bytes) : List Bytes := l.flatMap piecesOf
theorem cnt_pos {l : List Bytes} {p : Bytes} (hp : p.length = 4) : 0 < cnt l p ↔ p ∈ allPieces l := by
  unfold cnt allPieces
  rw [List.length_pos_iff_exists_mem]
  simp only [List.mem_filter, List.mem_flatMap]
  constructor
  · rintro ⟨t, h1, h2⟩; exact ⟨t, h1, (mem_piecesOf hp).2 h2⟩
  · rintro ⟨t, h1, h2⟩; exact ⟨t, h1, (mem_piecesOf hp).1 h2⟩
theorem cnt_le (l : List Bytes) (p : Bytes) : cnt l p ≤ l.length := List.length_filter_le _ _
theorem allPieces_len {l : List Bytes} {p : Bytes} (h : p ∈ allPieces l) : p.length = 4 := by
  unfold allPieces at h
  obtain ⟨t, _, ht⟩ := List.mem_flatMap.1 h
  exact mem_piecesOf_len ht

/-- bytes, one before the other -/
def lessB : Bytes → Bytes → Bool
  | _, [] => false
  | [], _ :: _ => true
  | a :: x, b :: y => a < b || (a == b && lessB x y)
theorem lessB_irrefl : ∀ a : Bytes, lessB a a = false
  | [] => rfl
  | a :: x => by
    have : ¬ a < a := by rw [UInt8.lt_iff_toNat_lt]; omega
    simp [lessB, lessB_irrefl x, this]
theorem lessB_trans : ∀ {a b c : Bytes}, lessB a b = true → lessB b c = true → lessB a c = true
  | _, _, [], _, h2 => by cases ‹Bytes› <;> simp [lessB] at h2
  | _, [], _ :: _, h1, _ => by cases ‹Bytes› <;> simp [lessB] at h1
  | [], _ :: _, _ :: _, _, _ => rfl
  | a :: x, b :: y, c :: z, h1, h2 => by
    simp only [lessB, Bool.or_eq_true, decide_eq_true_eq, Bool.and_eq_true, beq_iff_eq] at h1 h2 ⊢
    simp only [UInt8.lt_iff_toNat_lt] at h1 h2 ⊢
    rcases h1 with h1 | ⟨rfl, h1⟩
    · rcases h2 with h2 | ⟨rfl, h2⟩
      · exact .inl (by omega)
      · exact .inl h1
    · rcases h2 with h2 | ⟨rfl, h2⟩
      · exact .inl h2
      · exact .inr ⟨rfl, lessB_trans h1 h2⟩
theorem lessB_total : ∀ {a b : Bytes}, lessB a b = false → lessB b a = false → a = b
  | [], [], _, _ => rfl
  | [], _ :: _, h, _ => by simp [lessB] at h
  | _ :: _, [], _, h => by simp [lessB] at h
  | a :: x, b :: y, h1, h2 => by
    simp only [lessB, Bool.or_eq_false_iff, decide_eq_false_iff_not, Bool.and_eq_false_iff] at h1 h2
    simp only [UInt8.lt_iff_toNat_lt] at h1 h2
    obtain ⟨h1, h3⟩ := h1
    obtain ⟨h2, h4⟩ := h2
    have e : a = b := by apply UInt8.toNat_inj.1; omega
    subst e
    rcases h3 with h3 | h3
    · simp at h3
    · rcases h4 with h4 | h4
      · simp at h4
      · rw [lessB_total h3 h4]

/-- the better piece comes first -/
def better (a b : Bytes × Nat) : Bool := decide (b.2 < a.2) || (a.2 == b.2 && lessB a.1 b.1)
theorem better_irrefl (a : Bytes × Nat) : better a a = false := by simp [better, lessB_irrefl]
theorem better_trans {a b c : Bytes × Nat} (h1 : better a b = true) (h2 : better b c = true) : better a c = true := by
  simp only [better, Bool.or_eq_true, decide_eq_true_eq, Bool.and_eq_true, beq_iff_eq] at h1 h2 ⊢
  rcases h1 with h1 | ⟨e1, h1⟩
  · rcases h2 with h2 | ⟨e2, h2⟩
    · exact .inl (by omega)
    · exact .inl (by omega)
  · rcases h2 with h2 | ⟨e2, h2⟩
    · exact .inl (by omega)
    · exact .inr ⟨by omega, lessB_trans h1 h2⟩
theorem better_total {a b : Bytes × Nat} (h1 : better a b = false) (h2 : better b a = false) : a = b := by
  simp only [better, Bool.or_eq_false_iff, decide_eq_false_iff_not, Bool.and_eq_false_iff] at h1 h2
  obtain ⟨x, n⟩ := a
  obtain ⟨y, m⟩ := b
  simp only at h1 h2
  have e : n = m := by omega
  subst e
  have h3 : lessB x y = false := by rcases h1.2 with h | h; simp at h; exact h
  have h4 : lessB y x = false := by rcases h2.2 with h | h; simp at h; exact h
  rw [lessB_total h3 h4]

/-- what is taken of the pieces, the best one first -/
def greedy (size : Nat) : Bytes → List Bytes → Bytes
  | dict, [] => dict
  | dict, p :: c => if size < dict.length + 4 then dict else if stands p dict then greedy size dict c else greedy size (p ++ dict) c

/-- C is the pieces that stand in two texts at least, each once, the best one first. -/
structure Cands (l : List Bytes) (c : List Bytes) : Prop where
  mem : ∀ p, p ∈ c ↔ p ∈ allPieces l ∧ 1 < cnt l p
  sorted : c.Pairwise fun a b => better (a, cnt l a) (b, cnt l b) = true
theorem cands_unique {l c d : List Bytes} (hc : Cands l c) (hd : Cands l d) : c = d := by
  have key : ∀ (c d : List Bytes), c.Pairwise (fun a b => better (a, cnt l a) (b, cnt l b) = true) → d.Pairwise (fun a b => better (a, cnt l a) (b, cnt l b) = true) → (∀ p, p ∈ c ↔ p ∈ d) → c = d := by
    intro c
    induction c with
    | nil => intro d _ _ h; cases d with
      | nil => rfl
      | cons x d => exact absurd ((h x).2 (by simp)) (by simp)
    | cons x c ih =>
      intro d h1 h2 h
      cases d with
      | nil => exact absurd ((h x).1 (by simp)) (by simp)
      | cons y d =>
        rw [List.pairwise_cons] at h1 h2
        have e : x = y := by
          have hx := (h x).1 (by simp)
          have hy := (h y).2 (by simp)
          rcases List.mem_cons.1 hx with e | hx
          · exact e
          · rcases List.mem_cons.1 hy with e | hy
            · exact e.symm
            · have a := h1.1 y hy
              have b := h2.1 x hx
              have := better_trans a b
              rw [better_irrefl] at this; cases this
        subst e
        have nx : ∀ {z : List Bytes}, (∀ a ∈ z, better (x, cnt l x) (a, cnt l a) = true) → x ∉ z := fun hz hx => by
          have := hz x hx
          rw [better_irrefl] at this; cases this
        rw [ih d h1.2 h2.2 fun p => ?_]
        constructor
        · intro hp
          have := (h p).1 (by simp [hp])
          rcases List.mem_cons.1 this with e | this
          · subst e; exact absurd hp (nx h1.1)
          · exact this
        · intro hp
          have := (h p).2 (by simp [hp])
          rcases List.mem_cons.1 this with e | this
          · subst e; exact absurd hp (nx h2.1)
          · exact this
  exact key c d hc.sorted hd.sorted fun p => by rw [hc.mem, hd.mem]

/-- the reference's own: the best of some pieces that does not stand in the dictionary yet -/
def bestStep (l : List Bytes) (dict : Bytes) (b : Bytes × Nat) (p : Bytes) : Bytes × Nat :=
  if ((b.2 < cnt l p) ∨ (cnt l p = b.2 ∧ 1 < cnt l p ∧ lessB p b.1 = true)) ∧ stands p dict = false then (p, cnt l p) else b
def bestOf (l : List Bytes) (dict : Bytes) (ps : List Bytes) : Bytes × Nat := ps.foldl (bestStep l dict) ([], 1)
def trainR (l : List Bytes) (size : Nat) : Nat → Bytes → Bytes
  | 0, dict => dict
  | f + 1, dict => if dict.length + 4 ≤ size then (if (bestOf l dict (allPieces l)).1 = [] then dict else trainR l size f ((bestOf l dict (allPieces l)).1 ++ dict)) else dict

/-- what the best of some pieces is -/
def IsBest (l : List Bytes) (dict : Bytes) (ps : List Bytes) (b : Bytes × Nat) : Prop :=
  (b = ([], 1) ∧ ∀ q ∈ ps, 1 < cnt l q → stands q dict = true) ∨
  (b.1 ∈ ps ∧ b.2 = cnt l b.1 ∧ 1 < b.2 ∧ stands b.1 dict = false ∧ ∀ q ∈ ps, 1 < cnt l q → stands q dict = false → q = b.1 ∨ better b (q, cnt l q) = true)
theorem isBest_step {l : List Bytes} {dict : Bytes} {ps : List Bytes} {b : Bytes × Nat} (h : IsBest l dict ps b) (p : Bytes) (hne : p ≠ []) : IsBest l dict (ps ++ [p]) (bestStep l dict b p) := by
  unfold bestStep
  by_cases hc : ((b.2 < cnt l p) ∨ (cnt l p = b.2 ∧ 1 < cnt l p ∧ lessB p b.1 = true)) ∧ stands p dict = false
  · rw [if_pos hc]
    obtain ⟨hc, hs⟩ := hc
    right
    rcases h with ⟨rfl, h⟩ | ⟨h1, h2, h3, h4, h5⟩
    · have hp : 1 < cnt l p := by rcases hc with hc | hc <;> simp at hc <;> omega
      refine ⟨by simp, rfl, hp, hs, fun q hq hq1 hq2 => ?_⟩
      rcases List.mem_append.1 hq with hq | hq
      · rw [h q hq hq1] at hq2; cases hq2
      · exact .inl (by simpa using hq)
    · have hp : 1 < cnt l p := by rcases hc with hc | hc <;> omega
      have hb : better (p, cnt l p) b = true := by
        simp only [better, Bool.or_eq_true, decide_eq_true_eq, Bool.and_eq_true, beq_iff_eq]
        rcases hc with hc | ⟨hc, _, hl⟩
        · exact .inl hc
        · exact .inr ⟨hc, hl⟩
      refine ⟨by simp, rfl, hp, hs, fun q hq hq1 hq2 => ?_⟩
      rcases List.mem_append.1 hq with hq | hq
      · rcases h5 q hq hq1 hq2 with e | h6
        · right; rw [e]
          have : (b.1, cnt l b.1) = b := by rw [← h2]
          rw [this]; exact hb
        · exact .inr (better_trans hb h6)
      · exact .inl (by simpa using hq)
  · rw [if_neg hc]
    rcases h with ⟨rfl, h⟩ | ⟨h1, h2, h3, h4, h5⟩
    · left
      refine ⟨rfl, fun q hq hq1 => ?_⟩
      rcases List.mem_append.1 hq with hq | hq
      · exact h q hq hq1
      · have hq : q = p := by simpa using hq
        subst hq
        cases hs : stands q dict with
        | true => rfl
        | false => exact absurd ⟨.inl hq1, hs⟩ hc
    · right
      refine ⟨by simp [h1], h2, h3, h4, fun q hq hq1 hq2 => ?_⟩
      rcases List.mem_append.1 hq with hq | hq
      · exact h5 q hq hq1 hq2
      · have hq : q = p := by simpa using hq
        subst hq
        by_cases e : q = b.1
        · exact .inl e
        · right
          have hn : ¬ (b.2 < cnt l q ∨ (cnt l q = b.2 ∧ 1 < cnt l q ∧ lessB q b.1 = true)) := fun h => hc ⟨h, hq2⟩
          simp only [not_or, not_and] at hn
          simp only [better, Bool.or_eq_true, decide_eq_true_eq, Bool.and_eq_true, beq_iff_eq]
          by_cases h6 : cnt l q < b.2
          · exact .inl h6
          · have h7 : b.2 = cnt l q := by omega
            refine .inr ⟨h7, ?_⟩
            have h8 := hn.2 h7.symm hq1
            cases h9 : lessB b.1 q with
            | true => rfl
            | false => exact absurd (lessB_total (by simpa using h8) h9) e
theorem bestOf_is (l : List Bytes) (dict : Bytes) (ps : List Bytes) (hne : ∀ p ∈ ps, p ≠ []) : IsBest l dict ps (bestOf l dict ps) := by
  have key : ∀ (ps done : List Bytes) (b : Bytes × Nat), (∀ p ∈ ps, p ≠ []) → IsBest l dict done b → IsBest l dict (done ++ ps) (ps.foldl (bestStep l dict) b) := by
    intro ps
    induction ps with
    | nil => intro done b _ h; simpa using h
    | cons p ps ih =>
      intro done b hn h
      have := ih (done ++ [p]) _ (fun q hq => hn q (by simp [hq])) (isBest_step h p (hn p (by simp)))
      simpa using this
  have := key ps [] ([], 1) hne (.inl ⟨rfl, by simp⟩)
  unfold bestOf
  simpa using this

theorem trainR_greedy {l c : List Bytes} (size : Nat) (hc : Cands l c) : ∀ (f : Nat) (dict : Bytes) (done rest : List Bytes), c = done ++ rest → (∀ p ∈ done, stands p dict = true) → size < dict.length + 4 + 4 * f →
    trainR l size f dict = greedy size dict rest := by
  intro f
  induction f with
  | zero =>
    intro dict done rest h1 h2 h3
    rw [trainR]
    cases rest with
    | nil => rfl
    | cons p rest => rw [greedy, if_pos (by omega)]
  | succ f ih =>
    intro dict done rest
    induction rest generalizing done with
    | nil =>
      intro h1 h2 h3
      rw [trainR, greedy]
      have hb := bestOf_is l dict (allPieces l) (fun p hp e => by have := allPieces_len hp; rw [e] at this; simp at this)
      rcases hb with ⟨hb, _⟩ | ⟨h4, h5, h6, h7, _⟩
      · rw [hb]; simp
      · have hm := (hc.mem (bestOf l dict (allPieces l)).1).2 ⟨h4, by omega⟩
        rw [h1, List.append_nil] at hm
        rw [h2 _ hm] at h7; cases h7
    | cons p rest ih2 =>
      intro h1 h2 h3
      by_cases hz : size < dict.length + 4
      · rw [trainR, greedy, if_pos hz, if_neg (by omega)]
      · by_cases hs : stands p dict = true
        · rw [greedy, if_neg hz, if_pos hs]
          exact ih2 (done ++ [p]) (by rw [h1]; simp) (fun q hq => by
            rcases List.mem_append.1 hq with hq | hq
            · exact h2 q hq
            · have : q = p := by simpa using hq
              rw [this]; exact hs) h3
        · rw [greedy, if_neg hz, if_neg hs, trainR, if_pos (by omega)]
          have hs : stands p dict = false := by simpa using hs
          have hpc := (hc.mem p).1 (by rw [h1]; simp)
          have hpl := allPieces_len hpc.1
          have hb := bestOf_is l dict (allPieces l) (fun p hp e => by have := allPieces_len hp; rw [e] at this; simp at this)
          have hbe : (bestOf l dict (allPieces l)).1 = p := by
            rcases hb with ⟨_, h4⟩ | ⟨h4, h5, h6, h7, h8⟩
            · rw [h4 p hpc.1 hpc.2] at hs; cases hs
            · have hm := (hc.mem (bestOf l dict (allPieces l)).1).2 ⟨h4, by omega⟩
              rw [h1] at hm
              rcases List.mem_append.1 hm with hm | hm
              · rw [h2 _ hm] at h7; cases h7
              · rcases List.mem_cons.1 hm with hm | hm
                · exact hm
                · have hsrt := hc.sorted
                  rw [h1, List.pairwise_append, List.pairwise_cons] at hsrt
                  have h9 := hsrt.2.1.1 _ hm
                  rcases h8 p hpc.1 hpc.2 hs with e | h10
                  · exact e.symm
                  · rw [← h5] at h9
                    have := better_trans h9 h10
                    rw [better_irrefl] at this; cases this
          rw [hbe, if_neg (by intro e; rw [e] at hpl; simp at hpl)]
          exact ih (p ++ dict) (done ++ [p]) rest (by rw [h1]; simp) (fun q hq => by
            rcases List.mem_append.1 hq with hq | hq
            · exact stands_app p (h2 q hq)
            · have : q = p := by simpa using hq
              rw [this]; exact stands_head p dict) (by simp [hpl]; omega)
/-- E2: the reference's dictionary is what is taken of the pieces -/
theorem trainR_eq {l c : List Bytes} {size f : Nat} (hc : Cands l c) (hf : size < 4 + 4 * f) : trainR l size f [] = greedy size [] c :=
  trainR_greedy size hc f [] [] c rfl (by simp) (by simpa using hf)

/-- E3: what is known of the dictionary: its pieces, each once, the last one first -/
def chunks : List Bytes → Bytes
  | [] => []
  | p :: c => p ++ chunks c
theorem greedy_chunks {size : Nat} : ∀ (c : List Bytes) (ds : List Bytes), (∀ p ∈ c, p.length = 4) → (∀ p ∈ ds, p.length = 4) → ds.Nodup → (chunks ds).length ≤ size →
    ∃ es, greedy size (chunks ds) c = chunks es ∧ (∀ p ∈ es, p.length = 4) ∧ es.Nodup ∧ (chunks es).length ≤ size ∧ ∀ p ∈ es, p ∈ ds ∨ p ∈ c
  | [], ds, _, h2, h3, h4 => ⟨ds, rfl, h2, h3, h4, fun p hp => .inl hp⟩
  | p :: c, ds, h1, h2, h3, h4 => by
    rw [greedy]
    by_cases hz : size < (chunks ds).length + 4
    · rw [if_pos hz]; exact ⟨ds, rfl, h2, h3, h4, fun p hp => .inl hp⟩
    · rw [if_neg hz]
      by_cases hs : stands p (chunks ds) = true
      · rw [if_pos hs]
        obtain ⟨es, a, b, d, e, g⟩ := greedy_chunks (size := size) c ds (fun q hq => h1 q (by simp [hq])) h2 h3 h4
        exact ⟨es, a, b, d, e, fun q hq => (g q hq).imp id (by simp +contextual)⟩
      · rw [if_neg hs]
        have hp4 := h1 p (by simp)
        have hn : p ∉ ds := by
          intro hm
          apply hs
          rw [stands_iff]
          have : ∀ ds : List Bytes, p ∈ ds → ∃ a b, chunks ds = a ++ p ++ b := by
            intro ds
            induction ds with
            | nil => intro h; cases h
            | cons x ds ih =>
              intro h
              rcases List.mem_cons.1 h with e | h
              · subst e; exact ⟨[], chunks ds, by simp [chunks]⟩
              · obtain ⟨a, b, e⟩ := ih h
                exact ⟨x ++ a, b, by simp [chunks, e]⟩
          exact this ds hm
        obtain ⟨es, a, b, d, e, g⟩ := greedy_chunks (size := size) c (p :: ds) (fun q hq => h1 q (by simp [hq])) (by simpa [hp4] using h2) (List.nodup_cons.2 ⟨hn, h3⟩) (by rw [chunks, List.length_append, hp4]; omega)
        refine ⟨es, a, b, d, e, fun q hq => ?_⟩
        rcases g q hq with h | h
        · rcases List.mem_cons.1 h with e | h
          · exact .inr (by simp [e])
          · exact .inl h
        · exact .inr (by simp [h])
theorem chunks_len : ∀ (es : List Bytes), (∀ p ∈ es, p.length = 4) → (chunks es).length = 4 * es.length
  | [], _ => rfl
  | p :: es, h => by simp [chunks, chunks_len es (fun q hq => h q (by simp [hq])), h p (by simp)]; omega
theorem chunks_get : ∀ (es : List Bytes) (i : Nat), (∀ p ∈ es, p.length = 4) → i < es.length → slice (chunks es) (4 * i) (4 * i + 4) = es.getD i []
  | [], i, _, h => by simp at h
  | p :: es, 0, h, _ => by
    have hp := h p (by simp)
    unfold slice
    simp [chunks, ← hp]
  | p :: es, i + 1, h, hi => by
    have hp := h p (by simp)
    have ih := chunks_get es i (fun q hq => h q (by simp [hq])) (by simpa using hi)
    unfold slice at ih ⊢
    have e1 : 4 * (i + 1) + 4 = p.length + (4 * i + 4) := by omega
    have e2 : 4 * (i + 1) = p.length + 4 * i := by omega
    rw [chunks, e1, e2, List.take_length_add_append, List.drop_length_add_append]
    simpa using ih

end Pl
end Go.Proofs.Ytgfkkjcnnecefaa
