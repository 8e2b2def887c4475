/- The walk of (*finder).note. -/
import Derived.Test.YtgfkkjcnnecefaaFinder
import Derived.Test.YtgfkkjcnnecefaaTok
import Derived.Deep.LoopGhost
namespace Go.Proofs.Ytgfkkjcnnecefaa
open Go.RowKit Go.Lib Pl
attribute [local go_sem] ext_list app_list

/-- what a finder's steps may turn: itself, its map, rows of numbers from base on -/
structure FdFrame (base F b : Nat) (w w' : World) : Prop where
  os : w'.os = w.os
  tape : w'.tape = w.tape
  output : w'.output = w.output
  size : w.heap.size ≤ w'.heap.size
  block : ∀ (k : Nat) (o : Obj), w.heap[k]? = some o → k ≠ b → k ≠ F → (base ≤ k → ∀ cs, o ≠ .cells cs 3 (0, 0)) → w'.heap[k]? = some o

section
variable {base F b : Nat} {u v x : World}
theorem FdFrame.refl (base F b : Nat) (w : World) : FdFrame base F b w w := ⟨rfl, rfl, rfl, Nat.le_refl _, fun _ _ h _ _ _ => h⟩
theorem FdFrame.trans (h : FdFrame base F b u v) (k : FdFrame base F b v x) : FdFrame base F b u x :=
  ⟨k.os.trans h.os, k.tape.trans h.tape, k.output.trans h.output, Nat.le_trans h.size k.size, fun i o hi h1 h2 h3 => k.block i o (h.block i o hi h1 h2 h3) h1 h2 h3⟩
theorem FdFrame.of_below (h : Below u.heap.size u v) : FdFrame base F b u v :=
  ⟨h.os, h.tape, h.output, h.size, fun i _ hi _ _ _ => (h.block i (Array.getElem?_eq_some_iff.1 hi).1).trans hi⟩
theorem FdFrame.below (h : FdFrame base F b u v) {B : Nat} (h1 : B ≤ b) (h2 : B ≤ F) (h3 : B ≤ base) (h4 : B ≤ u.heap.size) : Below B u v :=
  ⟨h.os, h.tape, h.output, h.size, fun k hk => by
    have hlt : k < u.heap.size := by omega
    have := h.block k u.heap[k] (Array.getElem?_eq_getElem hlt) (by omega) (by omega) (fun h5 => by omega)
    rw [this, Array.getElem?_eq_getElem hlt]⟩
end

theorem finder_far {w : World} {base F : Nat} {cs : Array Value} {fz : Nat × Nat} {v : Value} {zs : List Int} (hblk : w.heap[F]? = some (.cells cs 86 fz)) (ho : w.ownsInts base 3 .i64 v zs) : v.ownBlock ≠ some F := by
  rcases ho.1.2 with ⟨rfl, _⟩ | ⟨g, cap, cur, rfl, _, hg, _⟩
  · simp [Value.ownBlock]
  · intro e
    have : g = F := by simpa [Value.ownBlock] using e
    subst this
    rw [hblk] at hg
    injection hg with hg
    injection hg with _ h2
    exact absurd h2 (by decide)

theorem info_int : (Try.prog.info? 3).map (fun i => (i.zero, i.size, i.bytes)) = some (some (.int .i64 0), 1, 8) := by kernel_rfl

theorem ints_drewN {w : World} {base : Nat} {e : TypeId} {q : IntKind} {v : Value} {zs : List Int} (h : w.ownsInts base e q v zs) (k : Nat) : (w.drewN k).ownsInts base e q v zs := h

/-- append of one number to a row of numbers, at a step of a region that draws its order -/
theorem step_push_int {w : World} {ops : Array Oper} {o : Oper} {a : Act} {K : Act → World → Prop} {Q : Exit → Act → World → Prop} {E : Prop} (hgd : o.guard = none) (s x : Operand)
    (ho : o.op = .call { callee := .builtin .append, args := #[s, x], argTypes := #[107, 107] })
    (base : Nat) (v : Value) (zs : List Int) (hs : a.eval s = v) (hown : w.ownsInts base 3 .i64 v zs) (g0 : Nat) (z : Int) (hx : a.eval x = .slice (some ⟨g0, 0, none⟩) 1 1) (hc : w.cell? ⟨g0, 0, none⟩ = some (I z)) (hz : (Lit.int .i64 z).wf = true)
    (hn : zs.length ≤ 1000000) (hbase : base ≤ w.heap.size)
    (h : ∀ g cap w', w'.ownsInts base 3 .i64 (.slice (some ⟨g, 0, none⟩) (zs.length + 1) cap) (zs ++ [z]) → w.grownBy w' v.ownBlock → (v.ownBlock = some g ∨ g = w.heap.size) → K (a.put o.dst (.slice (some ⟨g, 0, none⟩) (zs.length + 1) cap)) w') :
    if Region.wanted o (yielded ops a.tmps) = true then Oper.wp Try.prog o a w K Q else E := by
  obtain ⟨i0, hi0, hz0, hz1, hz2⟩ := info_parts info_int
  refine step_append_lies _ hgd s x _ ho base 3 i0 _ 1 8 Try.underlying107 hi0 hz0 hz1 hz2 rfl (by decide) v zs.length (zs.map (Value.int .i64)) hs hown.1 ⟨g0, 0, none⟩ 1 1 [I z] hx rfl ?_ (by intro y hy; simp at hy; subst hy; rfl) (by decide) (by unfold maxLen; omega) (by omega) hbase w.heap.size rfl ?_
  · intro j u hj
    match j, hj with
    | 0, hj => simp at hj; subst hj; simpa [Addr.add] using hc
  · intro g cap w' hown' hg hat _
    exact h g cap w' (hown.appended hown' hz) hg hat

theorem cell_new_drewN (w : World) (k : Nat) (x : Value) (t : TypeId) : ((w.drewN k).alloc (.cells #[x] t)).cell? ⟨w.heap.size, 0, none⟩ = some x := by
  have := cell_one_new (w.drewN k) x t 0 x rfl
  simpa [Addr.add] using this
theorem far_row {w w1 : World} {F : Nat} {o : Obj} {row : Option Nat} (h : w.heap[F]? = some o) (hne : row ≠ some F) (hg : w.grownBy w1 row) : w1.heap[F]? = some o :=
  (hg.block F (Array.getElem?_eq_some_iff.1 h).1 (fun e => hne e.symm)).trans h
theorem Whr.ne_ {w : World} {base b m F : Nat} {s : Bytes} {cs : Array Value} {t : TypeId} {fz : Nat × Nat} (h : Whr w base b m s) (hF : w.heap[F]? = some (.cells cs t fz)) : b ≠ F := by
  rintro rfl
  obtain ⟨D, ⟨es, clock, hb, _⟩, _⟩ := h
  rw [hb] at hF
  cases hF
theorem grown_of_alloc {w w1 : World} {o : Obj} {k : Nat} {row : Option Nat} (h : ((w.drewN k).alloc o).grownBy w1 row) : w.grownBy w1 row :=
  ⟨h.os, h.tape, h.output, Nat.le_trans (by simp) h.size, fun i hi hne => (h.block i (by simp; omega) hne).trans (Below.heap_alloc (w.drewN k) o i hi)⟩
theorem own_at {w : World} {o : Obj} {k g n c : Nat} {v : Value} (h : v.ownBlock = some g ∨ g = ((w.drewN k).alloc o).heap.size) : (Value.slice (some ⟨g, 0, none⟩) n c).ownBlock = v.ownBlock ∨ ∃ g', (Value.slice (some ⟨g, 0, none⟩) n c).ownBlock = some g' ∧ w.heap.size ≤ g' := by
  rcases h with h | h
  · exact .inl h.symm
  · exact .inr ⟨g, rfl, by rw [h]; simp⟩

theorem note_step {wr w1 w2 : World} {base F b q : Nat} {s : Bytes} {v : Value} {zs : List Int} (hblk : wr.heap[F]? = some (.cells #[S s, .map (some b), I q] 86 (0, 0))) (ho : wr.ownsInts base 3 .i64 v zs) (hbF : some b ≠ some F)
    (hg1 : wr.grownBy w1 v.ownBlock) (hg2 : w1.grownBy w2 (some b)) (hW2 : Whr w2 base b (q + 1) s) :
    Fd (w2.setCell ⟨F, 2, none⟩ (.int .i64 ((q : Int) + 1))) base F b (q + 1) s ∧ FdFrame base F b wr (w2.setCell ⟨F, 2, none⟩ (.int .i64 ((q : Int) + 1))) := by
  have hF1 := far_row hblk (finder_far hblk ho) hg1
  have hF2 := far_row hF1 hbF hg2
  have hbF' : b ≠ F := fun e => hbF (by rw [e])
  refine ⟨⟨?_, hW2.keep (Below.heap_setCell _ _ _ _ hbF') ?_⟩, ⟨?_, ?_, ?_, ?_, ?_⟩⟩
  · rw [set_row hF2]; rfl
  · intro g cs _ hg
    rw [Below.heap_setCell _ _ _ _ (fun e => by
      have e' : g = F := e
      subst e'; rw [hF2] at hg; injection hg with hg; injection hg with _ h2; exact absurd h2 (by decide))]
    exact hg
  · exact hg2.os.trans hg1.os
  · exact hg2.tape.trans hg1.tape
  · exact hg2.output.trans hg1.output
  · rw [size_setCell]; exact Nat.le_trans hg1.size hg2.size
  · intro k o hk h1 h2 h3
    have hlt : k < wr.heap.size := (Array.getElem?_eq_some_iff.1 hk).1
    have hne : some k ≠ v.ownBlock := fun e => by
      rcases ho.1.2 with ⟨rfl, _⟩ | ⟨g, cap, cur, rfl, hbg, hg, _⟩
      · simp [Value.ownBlock] at e
      · have e' : k = g := by simpa [Value.ownBlock] using e
        subst e'
        rw [hg] at hk; injection hk with hk
        exact h3 hbg cur hk.symm
    rw [Below.heap_setCell _ _ _ _ (fun e => h2 e), hg2.block k (Nat.lt_of_lt_of_le hlt hg1.size) (fun e => h1 (by injection e)), hg1.block k hlt hne]
    exact hk

set_option maxHeartbeats 2000000 in
set_option maxRecDepth 100000 in
theorem note_any (s : Bytes) (base F b m p : Nat) (w : World) (hF : Fd w base F b m s) (hbs : base ≤ w.heap.size) (hmp : m ≤ p) (hp : p ≤ s.length) (hs : s.length ≤ 768) :
    Calls Try.prog 78 #[.pointer (some ⟨F, 0, none⟩), I p] w fun e w' => e = .returned (.tuple #[]) ∧ ∃ m', m ≤ m' ∧ m' ≤ p ∧ (m' = p ∨ s.length < m' + 3) ∧ Fd w' base F b m' s ∧ FdFrame base F b w w' := by
  obtain ⟨i0, hi0, hz0, hz1, hz2⟩ := info_parts info_int
  go_enter Try.func78, Try.ntmps78
  go_wp2_with fail
  go_loopg [4] (p - m) (fun gk _ wr => ∃ m', gk = p - m' ∧ m ≤ m' ∧ m' ≤ p ∧ Fd wr base F b m' s ∧ FdFrame base F b w wr)
  case atStart => exact ⟨m, rfl, Nat.le_refl _, hmp, hF, FdFrame.refl _ _ _ _⟩
  case round =>
    obtain ⟨q, hgk, hmq, hqp, hFd, hfr⟩ := hrel
    obtain ⟨hblk, hwhr⟩ := hFd
    have hFlt : F < wr.heap.size := (Array.getElem?_eq_some_iff.1 hblk).1
    have c0 : wr.cell? ⟨F, 0, none⟩ = some (S s) := by rw [cell_of_row wr F 0 _ _ _ hblk]; rfl
    have c1 : wr.cell? ⟨F, 1, none⟩ = some (.map (some b)) := by rw [cell_of_row wr F 1 _ _ _ hblk]; rfl
    have c2 : wr.cell? ⟨F, 2, none⟩ = some (I q) := by rw [cell_of_row wr F 2 _ _ _ hblk]; rfl
    have f2 : wr.frozen? ⟨F, 2, none⟩ = false := by simp [World.frozen?, hblk]
    have hbs2 := hfr.size
    have HG := hide hgk
    clear hgk
    by_cases hlt : q < p
    · have d1 : decide (q < p) = true := by simp; omega
      have d1i : decide ((q : Int) < (p : Int)) = true := by simp; omega
      have hw3 : IntKind.i64.wrap ((q : Int) + 3) = (q : Int) + 3 := IntWalk.i64_in _ ⟨by omega, by omega⟩
      by_cases h3 : q + 3 ≤ s.length
      · have d2 : decide ((q : Int) + 3 ≤ (s.length : Int)) = true := by simp; omega
        have n1 : (0 : Int) ≤ (q : Int) := by omega
        have n2 : (0 : Int) ≤ (q : Int) + 3 := by omega
        have n3 : ((q : Int) + 3).toNat = q + 3 := by omega
        have n4 : (q : Int) ≤ (q : Int) + 3 := by omega
        have n5 : (q : Int) + 3 ≤ (s.length : Int) := by omega
        have hsl := slice_len s q (q + 3)
        obtain ⟨v, hv, hoi, hbb, hback⟩ := hwhr.at_ (by omega) (slice s q (q + 3)) (by omega)
        obtain ⟨A, cap, hvs⟩ : ∃ A cap, v = .slice A (places s q (slice s q (q + 3))).length cap := by
          rcases hoi.1.2 with ⟨rfl, h0⟩ | ⟨g, cap, cur, rfl, _⟩
          · exact ⟨none, 0, by rw [h0]⟩
          · exact ⟨_, _, rfl⟩
        subst hvs
        have hpl : (places s q (slice s q (q + 3))).length ≤ q := by
          unfold places
          rw [List.length_map]
          exact Nat.le_trans (List.length_filter_le _ _) (by simp)
        have HV := hide hv
        have HO := hide hoi
        have HB := hide hback
        have HK := hide hblk
        clear hv hoi hback hblk hsl
        go_wp2_with fail
        go_quiet (fail)
        go_wp2_with fail
        go_quiet (fail)
        go_wp2_with fail
        have hblt : b < wr.heap.size := by omega
        have hbF : some b ≠ some F := fun e => by injection e with e; exact hwhr.ne_ (unhide HK) e
        have hqwf : (Lit.int .i64 (q : Int)).wf = true := WalkArith.wf_i64 (by omega)
        have hl1 := fun (k : Nat) => unhide HV (wr.drewN k) rfl
        have hl2 := fun (k : Nat) (o : Obj) => unhide HV ((wr.drewN k).alloc o) (Below.heap_alloc (wr.drewN k) o b hblt)
        have hx1 := fun (k : Nat) (o : Obj) => (World.cell?_alloc_lt (wr.drewN k) o ⟨F, 1, none⟩ hFlt).trans c1
        have hx2 := fun (k : Nat) (o : Obj) => (World.cell?_alloc_lt (wr.drewN k) o ⟨F, 2, none⟩ hFlt).trans c2
        go_region_held3 (fun w' => w'.cell? ⟨F, 1, none⟩ = some (.map (some b)) ∧ w'.cell? ⟨F, 2, none⟩ = some (I q))
          (first
            | go_keep
            | (go_split_ands
               refine ⟨?_, ?_⟩
               · exact hx1 _ _
               · exact hx2 _ _)
            | (go_split_ands
               refine ⟨?_, ?_⟩
               · first | exact (cell_of_row w1 F 1 _ _ _ hF1).trans rfl | exact (cell_of_row w2 F 1 _ _ _ hF2).trans rfl
               · first | exact (cell_of_row w1 F 2 _ _ _ hF1).trans rfl | exact (cell_of_row w2 F 2 _ _ _ hF2).trans rfl))
          ((refine step_push_int rfl _ _ rfl base _ (places s q (slice s q (q + 3))) rfl (by exact ((ints_drewN (unhide HO) _).alloc _)) wr.heap.size (q : Int) rfl (cell_new_drewN wr _ _ _) hqwf (by omega) (by simp; omega) ?_; intro g1 cap1 w1 hown1 hgrow1 hat1; have hF1 := far_row (unhide HK) (finder_far (unhide HK) (unhide HO)) (grown_of_alloc hgrow1); obtain ⟨w2, hrun2, hW2, hg2⟩ := unhide HB w1 _ (grown_of_alloc hgrow1) hown1 (own_at hat1) (by first | trivial | rfl); have hF2 := far_row hF1 hbF hg2))
        all_goals
          obtain ⟨hc1', hc2'⟩ := ‹w2.cell? ⟨F, 1, none⟩ = some (.map (some b)) ∧ w2.cell? ⟨F, 2, none⟩ = some (I q)›
          have hf2' : w2.frozen? ⟨F, 2, none⟩ = false := free_row w2 F 2 _ _ hF2
          clear hl1 hl2 hx1 hx2 c0 c1 c2 f2
          go_wp2_with fail
          go_roundg (p - (q + 1))
          case measure => have := unhide HG; omega
          case rel =>
            obtain ⟨h1, h2⟩ := note_step (unhide HK) (unhide HO) hbF (grown_of_alloc hgrow1) hg2 hW2
            exact ⟨q + 1, rfl, by omega, by omega, h1, hfr.trans h2⟩
      · have d2 : decide ((q : Int) + 3 ≤ (s.length : Int)) = false := by simp; omega
        clear hbs2
        go_wp2_with fail
        go_quiet (fail)
        go_wp2_with fail
        go_end0
        exact ⟨rfl, q, hmq, hqp, .inr (by omega), ⟨hblk, hwhr⟩, hfr.trans (FdFrame.of_below (below_drewN (Below.refl _ _) _))⟩
    · have d1 : decide (q < p) = false := by simp; omega
      have d1i : decide ((q : Int) < (p : Int)) = false := by simp; omega
      clear hbs2
      go_wp2_with fail
      go_quiet (fail)
      go_wp2_with fail
      go_end0
      exact ⟨rfl, q, hmq, hqp, .inl (by omega), ⟨hblk, hwhr⟩, hfr.trans (FdFrame.of_below (below_drewN (Below.refl _ _) _))⟩

end Go.Proofs.Ytgfkkjcnnecefaa
