/- A row of toks of the call's own: append one. -/
import Derived.Test.YtgfkkjcnnecefaaToksAt
namespace Go.Proofs.Ytgfkkjcnnecefaa
open Go.RowKit Go.Lib Pl

def tokCells (t : Tok) : List Value := [S t.lit, I t.far, I t.len]
def toksCells (l : List Tok) : List Value := l.flatMap tokCells
theorem toksCells_len (l : List Tok) : (toksCells l).length = l.length * 3 := by
  induction l with
  | nil => rfl
  | cons t l ih => simp [toksCells, tokCells] at ih ⊢; omega
theorem toksCells_snoc (l : List Tok) (t : Tok) : toksCells (l ++ [t]) = toksCells l ++ tokCells t := by simp [toksCells]
theorem toksCells_get : ∀ (l : List Tok) (i : Nat) (t : Tok), l[i]? = some t → (toksCells l)[i * 3]? = some (S t.lit) ∧ (toksCells l)[i * 3 + 1]? = some (I t.far) ∧ (toksCells l)[i * 3 + 2]? = some (I t.len)
  | [], i, t, h => by simp at h
  | u :: l, 0, t, h => by simp at h; subst h; simp [toksCells, tokCells]
  | u :: l, i + 1, t, h => by
    have h' : l[i]? = some t := by simpa using h
    obtain ⟨a, b, c⟩ := toksCells_get l i t h'
    have e : toksCells (u :: l) = tokCells u ++ toksCells l := by simp [toksCells]
    have hl : (tokCells u).length = 3 := rfl
    rw [e]
    refine ⟨?_, ?_, ?_⟩
    · rw [List.getElem?_append_right (by omega), hl, show (i + 1) * 3 - 3 = i * 3 from by omega]; exact a
    · rw [List.getElem?_append_right (by omega), hl, show (i + 1) * 3 + 1 - 3 = i * 3 + 1 from by omega]; exact b
    · rw [List.getElem?_append_right (by omega), hl, show (i + 1) * 3 + 2 - 3 = i * 3 + 2 from by omega]; exact c

theorem info_tok : (Try.prog.info? 80).map (fun i => (i.zero, i.size, i.bytes)) = some (some (.agg #[.string ByteArray.empty, .int .i64 0, .int .i64 0]), 3, 32) := by kernel_rfl

/-- what is owned reads -/
theorem toksAt_of_own {w : World} {base n : Nat} {v : Value} {l : List Tok} (h : w.ownsRow base 80 3 v n (toksCells l)) : ∃ A cap, v = .slice A n cap ∧ ToksAt w w.heap.size A n l ∧ l.length = n := by
  have hn : l.length = n := by have := h.1; rw [toksCells_len] at this; omega
  rcases h.2 with ⟨rfl, h0⟩ | ⟨g, cap, cur, rfl, hb, hg, _⟩
  · subst h0
    exact ⟨_, _, rfl, ⟨hn, fun h => absurd h (by omega)⟩, hn⟩
  · refine ⟨_, _, rfl, ⟨hn, fun _ => ⟨g, 0, rfl, (Array.getElem?_eq_some_iff.1 hg).1, fun i t hi => ?_⟩⟩, hn⟩
    obtain ⟨a, b, c⟩ := toksCells_get l i t hi
    have hc := h.cells (g := g) rfl
    have e : ∀ j, (⟨g, 0, none⟩ : Addr).add j = ⟨g, 0 + j, none⟩ := fun j => by unfold Addr.add; split <;> simp_all
    have h0 := hc _ _ a
    have h1 := hc _ _ b
    have h2 := hc _ _ c
    rw [e] at h0 h1 h2
    exact ⟨h0, by rw [← h1, Nat.add_assoc], by rw [← h2, Nat.add_assoc]⟩

theorem own_below {w w' : World} {base e size n : Nat} {v : Value} {xs : List Value} (h : w.ownsRow base e size v n xs) (hb : Below w.heap.size w w') : w'.ownsRow base e size v n xs := by
  refine ⟨h.1, ?_⟩
  rcases h.2 with hn | ⟨g, cap, cur, hv, hbg, hgg, rest⟩
  · exact .inl hn
  · exact .inr ⟨g, cap, cur, hv, hbg, (hb.block g (Array.getElem?_eq_some_iff.1 hgg).1).trans hgg, rest⟩
theorem own_slice {w : World} {base e size n : Nat} {v : Value} {xs : List Value} (h : w.ownsRow base e size v n xs) : ∃ A cap, v = .slice A n cap := by
  rcases h.2 with ⟨rfl, rfl⟩ | ⟨g, cap, cur, rfl, _⟩
  · exact ⟨_, _, rfl⟩
  · exact ⟨_, _, rfl⟩

theorem cells3_new (w : World) (x y z : Value) (t : TypeId) : ∀ j u, [x, y, z][j]? = some u → (w.alloc (.cells #[x, y, z] t)).cell? ((⟨w.heap.size, 0, none⟩ : Addr).add j) = some u := by
  intro j u hj
  have e : (⟨w.heap.size, 0, none⟩ : Addr).add j = ⟨w.heap.size, j, none⟩ := by unfold Addr.add; split <;> simp_all
  rw [e, World.cell?_alloc_new]
  simpa using hj

/-- append(v, t) of one tok -/
theorem wpList_push_tok {w : World} {ops : Array Oper} {rest : List Oper} {o : Oper} {a : Act} {Q : Exit → Act → World → Prop} (hgd : o.guard = none) (s x : Operand)
    (ho : o.op = .call { callee := .builtin .append, args := #[s, x], argTypes := #[40, 40] })
    (base : Nat) (v : Value) (n : Nat) (l : List Tok) (hs : a.eval s = v) (hown : w.ownsRow base 80 3 v n (toksCells l)) (b : Bytes) (f m : Int)
    (hx : a.eval x = .slice (some ⟨w.heap.size, 0, none⟩) 1 1)
    (hn : n ≤ 1000000) (hbase : base ≤ w.heap.size)
    (h : ∀ A' cap' w', w'.ownsRow base 80 3 (.slice A' (n + 1) cap') (n + 1) (toksCells (l ++ [⟨b, f, m⟩])) → Below base w w' → (w.alloc (.cells #[S b, I f, I m] 80)).grownBy w' v.ownBlock → wpList Try.prog ops Q rest (a.put o.dst (.slice A' (n + 1) cap')) w') :
    wpList Try.prog ops Q (o :: rest) a (w.alloc (.cells #[S b, I f, I m] 80)) := by
  obtain ⟨i0, hi, hz0, hz1, hz2⟩ := info_parts info_tok
  refine wpList_append_own _ hgd s x _ ho base 80 i0 _ 3 32 Try.underlying40 hi hz0 hz1 hz2 rfl (by decide) v n (toksCells l) hs (hown.alloc _) ⟨w.heap.size, 0, none⟩ 1 1 [S b, I f, I m] hx rfl (cells3_new _ _ _ _ _) ?_ (by unfold maxLen; omega) (by omega) (by simp; omega) ?_
  · intro y hy
    simp at hy
    rcases hy with rfl | rfl | rfl <;> rfl
  · intro v' w' hown' hg _
    have hown2 : w'.ownsRow base 80 3 v' (n + 1) (toksCells (l ++ [⟨b, f, m⟩])) := by
      rw [toksCells_snoc]; exact hown'
    obtain ⟨A', cap', rfl, _⟩ := toksAt_of_own hown2
    refine h A' cap' w' hown2 ?_ hg
    exact ((Below.refl _ _).alloc hbase _).grown hg (by simp; omega) (fun k hk => (hown.lt k hk).1)

/-- the append of a tok, the new block's number under a letter -/
theorem wpList_push_tok_at {w : World} {ops : Array Oper} {rest : List Oper} {o : Oper} {a : Act} {Q : Exit → Act → World → Prop} (hgd : o.guard = none) (s x : Operand)
    (ho : o.op = .call { callee := .builtin .append, args := #[s, x], argTypes := #[40, 40] })
    (base : Nat) (v : Value) (n : Nat) (l : List Tok) (hs : a.eval s = v) (hown : w.ownsRow base 80 3 v n (toksCells l)) (b : Bytes) (f m : Int)
    (H : Nat) (hH : w.heap.size = H) (hx : a.eval x = .slice (some ⟨H, 0, none⟩) 1 1)
    (hn : n ≤ 1000000) (hbase : base ≤ w.heap.size)
    (h : ∀ A' cap' w', w'.ownsRow base 80 3 (.slice A' (n + 1) cap') (n + 1) (toksCells (l ++ [⟨b, f, m⟩])) → Below base w w' → (w.alloc (.cells #[S b, I f, I m] 80)).grownBy w' v.ownBlock → wpList Try.prog ops Q rest (a.put o.dst (.slice A' (n + 1) cap')) w') :
    wpList Try.prog ops Q (o :: rest) a (w.alloc (.cells #[S b, I f, I m] 80)) := by
  subst hH
  exact wpList_push_tok hgd s x ho base v n l hs hown b f m hx hn hbase h

end Go.Proofs.Ytgfkkjcnnecefaa
