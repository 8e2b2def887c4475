/- The walk of Parse's own closure. -/
import Derived.Test.YtgfkkjcnnecefaaBest
import Derived.Test.YtgfkkjcnnecefaaToksOwn
namespace Go.Proofs.Ytgfkkjcnnecefaa
open Go.RowKit Go.Lib Pl
attribute [local go_sem] ext_list app_list

/-- the blocks of a Parse that is under way, B the first -/
structure PSt (B : Nat) (w : World) (s : Bytes) (a p m : Nat) (v : Value) (n : Nat) (o : List Tok) : Prop where
  pf : w.heap[B + 2]? = some (.cells #[.pointer (some ⟨B + 1, 0, none⟩)] 83 (0, 0))
  po : w.heap[B + 3]? = some (.cells #[v] 40 (0, 0))
  pa : w.heap[B + 4]? = some (.cells #[I a] 3 (0, 0))
  pt : w.heap[B + 5]? = some (.cells #[I p] 3 (0, 0))
  own : w.ownsRow (B + 6) 80 3 v n (toksCells o)
  fd : Fd w (B + 6) (B + 1) B m s

theorem row_keep {w w' : World} {base e size n : Nat} {v : Value} {xs : List Value} (h : w.ownsRow base e size v n xs) (hk : ∀ g, v.ownBlock = some g → w'.heap[g]? = w.heap[g]?) : w'.ownsRow base e size v n xs := by
  refine ⟨h.1, ?_⟩
  rcases h.2 with hn | ⟨g, cap, cur, hv, hb, hg, rest⟩
  · exact .inl hn
  · exact .inr ⟨g, cap, cur, hv, hb, (hk g (by rw [hv]; rfl)).trans hg, rest⟩

theorem row_type {w : World} {base e size n g : Nat} {v : Value} {xs : List Value} {cs : Array Value} {t : TypeId} {fz : Nat × Nat} (h : w.ownsRow base e size v n xs) (hv : v.ownBlock = some g) (hg : w.heap[g]? = some (.cells cs t fz)) : t = e := by
  rcases h.2 with ⟨rfl, _⟩ | ⟨g', cap, cur, rfl, hb, hgg, rest⟩
  · simp [Value.ownBlock] at hv
  · have e' : g' = g := by simpa [Value.ownBlock] using hv
    subst e'
    rw [hg] at hgg
    injection hgg with hgg
    injection hgg

section
variable {B : Nat} {w w1 : World} {s : Bytes} {a p m n : Nat} {v : Value} {o : List Tok}

/-- the row of toks was appended to, and stored -/
theorem PSt.pushed (h : PSt B w s a p m v n o) {v1 : Value} {n1 : Nat} {o1 : List Tok} (hg : w.grownBy w1 v.ownBlock) (ho : w1.ownsRow (B + 6) 80 3 v1 n1 (toksCells o1)) :
    PSt B (w1.setCell ⟨B + 3, 0, none⟩ v1) s a p m v1 n1 o1 ∧ Below B w (w1.setCell ⟨B + 3, 0, none⟩ v1) := by
  have hlo := h.own.lt
  have far : ∀ k, k < B + 6 → k < w.heap.size → w1.heap[k]? = w.heap[k]? := fun k hk hks => hg.block k hks (fun e => by have := (hlo k e.symm).1; omega)
  have hs5 := (Array.getElem?_eq_some_iff.1 h.pt).1
  have st : ∀ k, k ≠ B + 3 → (w1.setCell ⟨B + 3, 0, none⟩ v1).heap[k]? = w1.heap[k]? := fun k hk => Below.heap_setCell _ _ _ _ hk
  have one : ∀ k, k < B + 6 → k ≠ B + 3 → (w1.setCell ⟨B + 3, 0, none⟩ v1).heap[k]? = w.heap[k]? := fun k h1 h2 => (st k h2).trans (far k h1 (by omega))
  have hpo : w1.heap[B + 3]? = some (.cells #[v] 40 (0, 0)) := (far _ (by omega) (by omega)).trans h.po
  have hlo1 := ho.lt
  refine ⟨⟨(one _ (by omega) (by omega)).trans h.pf, ?_, (one _ (by omega) (by omega)).trans h.pa, (one _ (by omega) (by omega)).trans h.pt, ?_, ⟨(one _ (by omega) (by omega)).trans h.fd.1, h.fd.2.keep (one _ (by omega) (by omega)) ?_⟩⟩, ?_⟩
  · rw [set_row hpo]; rfl
  · exact row_keep ho fun g e => st g (by have := (hlo1 g e).1; omega)
  · intro g cs hbg hgg
    have hne : some g ≠ v.ownBlock := fun e => by
      have := row_type h.own e.symm hgg
      exact absurd this (by decide)
    exact (st g (by omega)).trans ((hg.block g (Array.getElem?_eq_some_iff.1 hgg).1 hne).trans hgg)
  · exact ⟨hg.os, hg.tape, hg.output, by rw [size_setCell]; exact hg.size, fun k hk => one k (by omega) (by omega)⟩

/-- whatever is new, and an alloc -/
theorem PSt.drewN (h : PSt B w s a p m v n o) (k : Nat) : PSt B (w.drewN k) s a p m v n o := ⟨h.pf, h.po, h.pa, h.pt, h.own, h.fd⟩
end

theorem step_push_tok {w : World} {ops : Array Oper} {o : Oper} {a : Act} {K : Act → World → Prop} {Q : Exit → Act → World → Prop} {E : Prop} (hgd : o.guard = none) (s x : Operand)
    (ho : o.op = .call { callee := .builtin .append, args := #[s, x], argTypes := #[40, 40] })
    (base : Nat) (v : Value) (n : Nat) (l : List Tok) (hs : a.eval s = v) (hown : w.ownsRow base 80 3 v n (toksCells l)) (g0 : Nat) (b : Bytes) (f m : Int) (hx : a.eval x = .slice (some ⟨g0, 0, none⟩) 1 1)
    (hc : ∀ j u, [S b, I f, I m][j]? = some u → w.cell? ((⟨g0, 0, none⟩ : Addr).add j) = some u)
    (hn : n ≤ 1000000) (hbase : base ≤ w.heap.size)
    (h : ∀ A' cap' w', w'.ownsRow base 80 3 (.slice A' (n + 1) cap') (n + 1) (toksCells (l ++ [⟨b, f, m⟩])) → w.grownBy w' v.ownBlock → K (a.put o.dst (.slice A' (n + 1) cap')) w') :
    if Region.wanted o (yielded ops a.tmps) = true then Oper.wp Try.prog o a w K Q else E := by
  obtain ⟨i0, hi0, hz0, hz1, hz2⟩ := info_parts info_tok
  refine step_append_lies _ hgd s x _ ho base 80 i0 _ 3 32 Try.underlying40 hi0 hz0 hz1 hz2 rfl (by decide) v n (toksCells l) hs hown ⟨g0, 0, none⟩ 1 1 [S b, I f, I m] hx rfl hc ?_ (by decide) (by unfold maxLen; omega) (by omega) hbase w.heap.size rfl ?_
  · intro y hy
    simp at hy
    rcases hy with rfl | rfl | rfl <;> rfl
  · intro g cap w' hown' hg _ _
    refine h _ cap w' ?_ hg
    rw [toksCells_snoc]; exact hown'

theorem cells3_drewN (w : World) (k : Nat) (x y z : Value) (t : TypeId) : ∀ j u, [x, y, z][j]? = some u → ((w.drewN k).alloc (.cells #[x, y, z] t)).cell? ((⟨w.heap.size, 0, none⟩ : Addr).add j) = some u :=
  fun j u h => by simpa using cells3_new (w.drewN k) x y z t j u h

theorem flush_cells {B : Nat} {w w1 : World} {s : Bytes} {a p m n : Nat} {v : Value} {o : List Tok} (h : PSt B w s a p m v n o) (hg : w.grownBy w1 v.ownBlock) :
    w1.heap[B + 3]? = some (.cells #[v] 40 (0, 0)) ∧ w1.cell? ⟨B + 1, 0, none⟩ = some (S s) ∧ w1.cell? ⟨B + 2, 0, none⟩ = some (.pointer (some ⟨B + 1, 0, none⟩)) ∧ w1.cell? ⟨B + 4, 0, none⟩ = some (I a) ∧ w1.cell? ⟨B + 5, 0, none⟩ = some (I p) := by
  have hlo := h.own.lt
  have hs5 := (Array.getElem?_eq_some_iff.1 h.pt).1
  have far : ∀ k, k < B + 6 → w1.heap[k]? = w.heap[k]? := fun k hk => hg.block k (by omega) (fun e => by have := (hlo k e.symm).1; omega)
  refine ⟨(far _ (by omega)).trans h.po, ?_, ?_, ?_, ?_⟩
  · rw [cell_of_row w1 _ 0 _ _ _ ((far _ (by omega)).trans h.fd.1)]; rfl
  · rw [cell_of_row w1 _ 0 _ _ _ ((far _ (by omega)).trans h.pf)]; rfl
  · rw [cell_of_row w1 _ 0 _ _ _ ((far _ (by omega)).trans h.pa)]; rfl
  · rw [cell_of_row w1 _ 0 _ _ _ ((far _ (by omega)).trans h.pt)]; rfl

theorem flush_set {B : Nat} {w1 : World} {x1 x2 x4 x5 : Value} (u : Value) (h : w1.cell? ⟨B + 1, 0, none⟩ = some x1 ∧ w1.cell? ⟨B + 2, 0, none⟩ = some x2 ∧ w1.cell? ⟨B + 4, 0, none⟩ = some x4 ∧ w1.cell? ⟨B + 5, 0, none⟩ = some x5) :
    (w1.setCell ⟨B + 3, 0, none⟩ u).cell? ⟨B + 1, 0, none⟩ = some x1 ∧ (w1.setCell ⟨B + 3, 0, none⟩ u).cell? ⟨B + 2, 0, none⟩ = some x2 ∧ (w1.setCell ⟨B + 3, 0, none⟩ u).cell? ⟨B + 4, 0, none⟩ = some x4 ∧ (w1.setCell ⟨B + 3, 0, none⟩ u).cell? ⟨B + 5, 0, none⟩ = some x5 := by
  have st : ∀ k, k ≠ B + 3 → (w1.setCell ⟨B + 3, 0, none⟩ u).cell? ⟨k, 0, none⟩ = w1.cell? ⟨k, 0, none⟩ := fun k hk => World.cell?_of_block (Below.heap_setCell _ _ _ _ hk)
  exact ⟨(st _ (by omega)).trans h.1, (st _ (by omega)).trans h.2.1, (st _ (by omega)).trans h.2.2.1, (st _ (by omega)).trans h.2.2.2⟩

attribute [local go_sem] World.cell?_alloc_some in
set_option maxHeartbeats 2000000 in
set_option maxRecDepth 100000 in
theorem flush_any (B : Nat) (w : World) (s : Bytes) (a p m : Nat) (v : Value) (n : Nat) (o : List Tok) (hP : PSt B w s a p m v n o) (ha : a ≤ p) (hp : p ≤ s.length) (hn : n ≤ 10000) :
    Calls Try.prog 55 #[.pointer (some ⟨B + 4, 0, none⟩), .pointer (some ⟨B + 5, 0, none⟩), .pointer (some ⟨B + 3, 0, none⟩), .pointer (some ⟨B + 2, 0, none⟩)] w fun e w' => e = .returned (.tuple #[]) ∧ (∃ v' n', n' ≤ n + 1 ∧ PSt B w' s a p m v' n' (o ++ flush s a p)) ∧ Below B w w' := by
  have c5 : w.cell? ⟨B + 5, 0, none⟩ = some (I p) := by rw [cell_of_row w _ 0 _ _ _ hP.pt]; rfl
  have c4 : w.cell? ⟨B + 4, 0, none⟩ = some (I a) := by rw [cell_of_row w _ 0 _ _ _ hP.pa]; rfl
  have c3 : w.cell? ⟨B + 3, 0, none⟩ = some v := by rw [cell_of_row w _ 0 _ _ _ hP.po]; rfl
  have c2 : w.cell? ⟨B + 2, 0, none⟩ = some (.pointer (some ⟨B + 1, 0, none⟩)) := by rw [cell_of_row w _ 0 _ _ _ hP.pf]; rfl
  have c1 : w.cell? ⟨B + 1, 0, none⟩ = some (S s) := by rw [cell_of_row w _ 0 _ _ _ hP.fd.1]; rfl
  have hs5 := (Array.getElem?_eq_some_iff.1 hP.pt).1
  have HPS := hide hP
  by_cases hap : a < p
  · have d1 : decide (a < p) = true := by simp; omega
    have n1 : (0 : Int) ≤ (a : Int) := by omega
    have n2 : (0 : Int) ≤ (p : Int) := by omega
    have n3 : (a : Int) ≤ (p : Int) := by omega
    have n4 : (p : Int) ≤ (s.length : Int) := by omega
    have hfl : flush s a p = [litTok (slice s a p)] := by unfold flush; rw [if_pos hap]
    have HF := hide hfl
    have hown := hP.own
    have HO := hide hown
    clear hfl hP hown
    have ne3 := World.new_ne w ⟨B + 3, 0, none⟩ c3
    go_enter Try.func55, Try.ntmps55
    go_wp2_with fail
    have hx := fun (k : Nat) (o : Obj) (i : Nat) (hi : i ≤ B + 5) => World.cell?_alloc_lt (w.drewN k) o ⟨i, 0, none⟩ (by show i < w.heap.size; omega)
    have hx3 := fun (k : Nat) (o : Obj) => (hx k o (B + 3) (by omega)).trans c3
    go_region_law ((refine step_push_tok rfl _ _ rfl (B + 6) _ n o rfl (by exact ((row_keep (unhide HO) (fun g e => rfl)).alloc _)) w.heap.size (slice s a p) 0 0 rfl (cells3_drewN w _ _ _ _ _) (by omega) (by simp; omega) ?_; intro A1 cap1 w1 hown1 hgrow1; have hg1 := grown_of_alloc hgrow1; obtain ⟨hpo1, hcs⟩ := flush_cells (unhide HPS) hg1; have hf1 : w1.frozen? ⟨B + 3, 0, none⟩ = false := free_row w1 (B + 3) 0 _ _ hpo1; have hc1 : w1.cell? ⟨B + 3, 0, none⟩ = some v := by rw [cell_of_row w1 _ 0 _ _ _ hpo1]; rfl))
    all_goals
      go_end0
      obtain ⟨h1, h2⟩ := (unhide HPS).pushed hg1 hown1
      rw [unhide HF]
      exact ⟨rfl, ⟨_, n + 1, Nat.le_refl _, h1⟩, h2⟩
  · have d1 : decide (a < p) = false := by simp; omega
    have hfl : flush s a p = [] := by unfold flush; rw [if_neg hap]
    have HF := hide hfl
    clear hfl hP
    go_enter Try.func55, Try.ntmps55
    go_wp2_with fail
    go_end0
    rw [unhide HF, List.append_nil]
    exact ⟨rfl, ⟨_, n, by omega, (unhide HPS)⟩, Below.refl _ _⟩

end Go.Proofs.Ytgfkkjcnnecefaa
