/- The maker of a text, in memory: words; what of memory a step may turn. -/
import Derived.Test.YtgfkkjcnnecefaaOwnM
import Derived.Test.YtgfkkjcnnecefaaPureToks
namespace Go.Proofs.Ytgfkkjcnnecefaa
open Go.RowKit Go.Lib Pl

/-- what is not of a kind that may turn is kept -/
structure Keeps (bad : Obj → Bool) (w w' : World) : Prop where
  size : w.heap.size ≤ w'.heap.size
  block : ∀ (k : Nat) (o : Obj), w.heap[k]? = some o → bad o = false → w'.heap[k]? = some o

section
variable {bad : Obj → Bool} {a b c : World}
theorem Keeps.refl (bad : Obj → Bool) (w : World) : Keeps bad w w := ⟨Nat.le_refl _, fun _ _ h _ => h⟩
theorem Keeps.trans (h : Keeps bad a b) (k : Keeps bad b c) : Keeps bad a c := ⟨Nat.le_trans h.size k.size, fun i o hi ho => k.block i o (h.block i o hi ho) ho⟩
theorem Keeps.drew (h : Keeps bad a b) : Keeps bad a b.drew := ⟨h.size, h.block⟩
theorem Keeps.drewN (h : Keeps bad a b) (n : Nat) : Keeps bad a (b.drewN n) := ⟨h.size, h.block⟩
theorem Keeps.alloc (h : Keeps bad a b) (o : Obj) : Keeps bad a (b.alloc o) :=
  ⟨Nat.le_trans h.size (by simp), fun i o' hi ho => by
    have h1 := h.block i o' hi ho
    rw [Below.heap_alloc b o i (by rcases Nat.lt_or_ge i b.heap.size with h2 | h2; exact h2; rw [Array.getElem?_eq_none h2] at h1; cases h1)]
    exact h1⟩
theorem Keeps.grown {row : Option Nat} (h : Keeps bad a b) (hg : b.grownBy c row) (hr : ∀ g, row = some g → ∃ o, b.heap[g]? = some o ∧ bad o = true) : Keeps bad a c :=
  ⟨Nat.le_trans h.size hg.size, fun i o hi ho => by
    have h1 := h.block i o hi ho
    have h2 : i < b.heap.size := by
      rcases Nat.lt_or_ge i b.heap.size with h2 | h2
      · exact h2
      · rw [Array.getElem?_eq_none h2] at h1; cases h1
    rw [hg.block i h2 (fun e => ?_)]
    · exact h1
    · obtain ⟨o2, h3, h4⟩ := hr i e.symm
      rw [h1] at h3; injection h3 with h3; subst h3; rw [ho] at h4; cases h4⟩
theorem Keeps.setCell (h : Keeps bad a b) {p : Addr} (u : Value) {o : Obj} (hp : b.heap[p.block]? = some o) (hb : bad o = true) : Keeps bad a (b.setCell p u) :=
  ⟨by have h1 := h.size; simpa [World.setCell] using h1, fun i o' hi ho => by
    have h1 := h.block i o' hi ho
    rw [Below.heap_setCell b p u i (fun e => by subst e; rw [hp] at h1; injection h1 with h1; subst h1; rw [ho] at hb; cases hb)]
    exact h1⟩
theorem Keeps.of_below (h : Below a.heap.size a b) : Keeps bad a b :=
  ⟨h.size, fun i o hi _ => by
    have h2 : i < a.heap.size := by
      rcases Nat.lt_or_ge i a.heap.size with h2 | h2
      · exact h2
      · rw [Array.getElem?_eq_none h2] at hi; cases hi
    rw [h.block i h2]; exact hi⟩
theorem Keeps.own {base : Nat} {e : TypeId} {size n : Nat} {v : Value} {xs : List Value} (h : Keeps bad a b) (ho : OwnM a base e size v n xs) (hb : ∀ cs fz, bad (.cells cs e fz) = false) : OwnM b base e size v n xs := by
  refine ⟨ho.1, ?_⟩
  rcases ho.2 with hn | ⟨g, cap, cur, fz, hv, hbg, hgg, rest⟩
  · exact .inl hn
  · exact .inr ⟨g, cap, cur, fz, hv, hbg, h.block g _ hgg (hb _ _), rest⟩
theorem Keeps.ownsRow {base : Nat} {e : TypeId} {size n : Nat} {v : Value} {xs : List Value} (h : Keeps bad a b) (ho : a.ownsRow base e size v n xs) (hb : ∀ cs fz, bad (.cells cs e fz) = false) : b.ownsRow base e size v n xs := by
  refine ⟨ho.1, ?_⟩
  rcases ho.2 with hn | ⟨g, cap, cur, hv, hbg, hgg, rest⟩
  · exact .inl hn
  · exact .inr ⟨g, cap, cur, hv, hbg, h.block g _ hgg (hb _ _), rest⟩
end

/-- rows of bytes, and makers -/
def badMk : Obj → Bool
  | .cells _ t _ => t == 5 || t == 78
  | _ => false

/-- Block M is a maker: what it has made, dictionary ahead, is s; the dictionary has d bytes; lit: was the last one as it is. -/
def Mk (w : World) (base M d : Nat) (lit : Bool) (s : Bytes) : Prop :=
  base ≤ M ∧ ∃ A cap, w.heap[M]? = some (.cells #[.slice A s.length cap, .int .i64 d, .bool lit] 78 (0, 0)) ∧ OwnM w base 5 1 (.slice A s.length cap) s.length (s.map B)

theorem set_row {w : World} {g : Nat} {cs : Array Value} {t : TypeId} {fz : Nat × Nat} (h : w.heap[g]? = some (.cells cs t fz)) (i : Nat) (u : Value) :
    (w.setCell ⟨g, i, none⟩ u).heap[g]? = some (.cells (cs.setIfInBounds i u) t fz) := by
  simp [World.setCell, Array.getElem?_modify, h]
theorem size_setCell (w : World) (p : Addr) (u : Value) : (w.setCell p u).heap.size = w.heap.size := by simp [World.setCell]

/-- a row of bytes is no maker -/
theorem mk_far {w : World} {base M n : Nat} {cs : Array Value} {fz : Nat × Nat} {v : Value} {xs : List Value} (hblk : w.heap[M]? = some (.cells cs 78 fz)) (hown : OwnM w base 5 1 v n xs) : v.ownBlock ≠ some M := by
  rcases hown.2 with ⟨rfl, _⟩ | ⟨g, cap, cur, fz', rfl, _, hg, _⟩
  · simp [Value.ownBlock]
  · intro e
    have : g = M := by simpa [Value.ownBlock] using e
    subst this
    rw [hblk] at hg
    injection hg with hg
    injection hg with _ h2
    exact absurd h2 (by decide)

theorem mk_after {w W w1 : World} {base M n : Nat} {cs : Array Value} {fz : Nat × Nat} {v : Value} {xs : List Value} (hblk : w.heap[M]? = some (.cells cs 78 fz)) (hown : OwnM w base 5 1 v n xs)
    (hW : Below w.heap.size w W) (hg : W.grownBy w1 v.ownBlock) : w1.heap[M]? = some (.cells cs 78 fz) := by
  have hlt : M < w.heap.size := (Array.getElem?_eq_some_iff.1 hblk).1
  exact (hg.block M (Nat.lt_of_lt_of_le hlt hW.size) (fun e => mk_far hblk hown e.symm)).trans ((hW.block M hlt).trans hblk)
theorem below_drewN_alloc (w : World) (k : Nat) (o : Obj) : Below w.heap.size w ((w.drewN k).alloc o) := (below_drewN (Below.refl _ _) k).alloc (Nat.le_refl _) o

/-- behind an append to what a maker has made, and the stores into the maker -/
theorem mk_end {w W w1 w2 : World} {base M d : Nat} {lit lit2 : Bool} {A A1 : Option Addr} {cap cap1 n1 : Nat} {s s1 : Bytes}
    (hbM : base ≤ M) (hblk : w.heap[M]? = some (.cells #[.slice A s.length cap, .int .i64 d, .bool lit] 78 (0, 0))) (hown : OwnM w base 5 1 (.slice A s.length cap) s.length (s.map B))
    (hW : Below w.heap.size w W) (hown1 : OwnM w1 base 5 1 (.slice A1 n1 cap1) n1 (s1.map B)) (hg : W.grownBy w1 (Value.ownBlock (.slice A s.length cap)))
    (h2 : w2.heap[M]? = some (.cells #[.slice A1 n1 cap1, .int .i64 d, .bool lit2] 78 (0, 0))) (h3 : ∀ k, k ≠ M → w2.heap[k]? = w1.heap[k]?) (h4 : w2.heap.size = w1.heap.size)
    (h5 : w2.os = w1.os) (h6 : w2.tape = w1.tape) (h7 : w2.output = w1.output) :
    Mk w2 base M d lit2 s1 ∧ Below base w w2 ∧ Keeps badMk w w2 := by
  have hn : n1 = s1.length := by have := hown1.1; simp at this; omega
  subst hn
  have hMlt : M < w.heap.size := (Array.getElem?_eq_some_iff.1 hblk).1
  have hm1 : w1.heap[M]? = some (.cells #[.slice A s.length cap, .int .i64 d, .bool lit] 78 (0, 0)) :=
    (hg.block M (Nat.lt_of_lt_of_le hMlt hW.size) (fun e => mk_far hblk hown e.symm)).trans ((hW.block M hMlt).trans hblk)
  have hfar1 := mk_far hm1 hown1
  refine ⟨⟨hbM, A1, cap1, h2, hown1.kept fun k hk => h3 k (fun e => hfar1 (by rw [hk, e]))⟩, ⟨?_, ?_, ?_, ?_, ?_⟩, ⟨?_, ?_⟩⟩
  · rw [h5, hg.os, hW.os]
  · rw [h6, hg.tape, hW.tape]
  · rw [h7, hg.output, hW.output]
  · rw [h4]; exact Nat.le_trans hW.size hg.size
  · intro k hk
    rw [h3 k (by omega), hg.block k (Nat.lt_of_lt_of_le (by omega) hW.size) (fun e => by have := (hown.lt k e.symm).1; omega), hW.block k (by omega)]
  · rw [h4]; exact Nat.le_trans hW.size hg.size
  · intro k o ho hbad
    have hk : k < w.heap.size := (Array.getElem?_eq_some_iff.1 ho).1
    have hne : k ≠ M := fun e => by
      subst e; rw [hblk] at ho; injection ho with ho; subst ho; simp [badMk] at hbad
    have hnr : some k ≠ Value.ownBlock (.slice A s.length cap) := fun e => by
      rcases hown.2 with ⟨hv, _⟩ | ⟨g, cap', cur, fz, hv, _, hgg, _⟩
      · rw [hv] at e; simp [Value.ownBlock] at e
      · rw [hv] at e
        have : k = g := by simpa [Value.ownBlock] using e
        subst this
        rw [hgg] at ho; injection ho with ho; subst ho; simp [badMk] at hbad
    rw [h3 k hne, hg.block k (Nat.lt_of_lt_of_le hk hW.size) hnr, hW.block k hk]
    exact ho

theorem Mk.alloc {w : World} {base M d : Nat} {lit : Bool} {s : Bytes} (h : Mk w base M d lit s) (o : Obj) : Mk (w.alloc o) base M d lit s := by
  obtain ⟨h1, A, cap, h2, h3⟩ := h
  exact ⟨h1, A, cap, (Below.heap_alloc w o M (Array.getElem?_eq_some_iff.1 h2).1).trans h2, h3.alloc o⟩
theorem Mk.drewN {w : World} {base M d : Nat} {lit : Bool} {s : Bytes} (h : Mk w base M d lit s) (n : Nat) : Mk (w.drewN n) base M d lit s := h
theorem Mk.drew {w : World} {base M d : Nat} {lit : Bool} {s : Bytes} (h : Mk w base M d lit s) : Mk w.drew base M d lit s := h
theorem bytesRow_cells (s : ByteArray) : strCells s = s.data.toList.map (fun b => Value.int .u8 b.toNat) := rfl
/-- a new maker -/
theorem Mk.made (w : World) (base : Nat) (dict : Bytes) (hb : base ≤ w.heap.size) (hd : dict.length ≤ 9223372036854775807) :
    Mk ((w.drew.alloc (.cells (bytesRow ⟨dict.toArray⟩ (grownCap w dict.length 0 5)) 5 ((bytesRow ⟨dict.toArray⟩ (grownCap w dict.length 0 5)).size, (bytesRow ⟨dict.toArray⟩ (grownCap w dict.length 0 5)).size + 1))).alloc
      (.cells #[.slice (some ⟨w.heap.size, 0, none⟩) dict.length (grownCap w dict.length 0 5), .int .i64 dict.length, .bool false] 78)) base (w.heap.size + 1) dict.length false dict := by
  have h := OwnM.bytes w 5 ⟨dict.toArray⟩ base hb (by unfold maxLen; exact hd)
  rw [strCells_list] at h
  refine ⟨by omega, _, _, ?_, h.alloc _⟩
  have := heap_alloc_new (w.drew.alloc (.cells (bytesRow ⟨dict.toArray⟩ (grownCap w dict.length 0 5)) 5 ((bytesRow ⟨dict.toArray⟩ (grownCap w dict.length 0 5)).size, (bytesRow ⟨dict.toArray⟩ (grownCap w dict.length 0 5)).size + 1)))
    (.cells #[.slice (some ⟨w.heap.size, 0, none⟩) dict.length (grownCap w dict.length 0 5), .int .i64 dict.length, .bool false] 78)
  have e : (w.drew.alloc (.cells (bytesRow ⟨dict.toArray⟩ (grownCap w dict.length 0 5)) 5 ((bytesRow ⟨dict.toArray⟩ (grownCap w dict.length 0 5)).size, (bytesRow ⟨dict.toArray⟩ (grownCap w dict.length 0 5)).size + 1))).heap.size = w.heap.size + 1 := by
    simp [World.alloc, World.drew, -World.alloc_eq, -World.drew_eq]
  rw [e] at this
  exact this

/-- a tok as a value -/
abbrev TokV (t : Tok) : Value := .agg #[S t.lit, I t.far, I t.len]

end Go.Proofs.Ytgfkkjcnnecefaa
