/- The walk of toks.Parse. -/
import Derived.Test.YtgfkkjcnnecefaaFlush
import Derived.Test.YtgfkkjcnnecefaaParseOf
import Derived.WideMake
namespace Go.Proofs.Ytgfkkjcnnecefaa
open Go.RowKit Go.Lib Pl
attribute [local go_sem] ext_list app_list

theorem heap_alloc_at (w : World) (o : Obj) : (w.alloc o).heap[w.heap.size]? = some o := (MapKept.heap_alloc w o).1
theorem heap_alloc_is {w : World} {k : Nat} (o : Obj) (h : w.heap.size = k) : (w.alloc o).heap[k]? = some o := by subst h; exact heap_alloc_at w o
theorem heap_alloc_old {w : World} {k : Nat} {x : Obj} (o : Obj) (h : w.heap[k]? = some x) : (w.alloc o).heap[k]? = some x :=
  (Below.heap_alloc w o k (Array.getElem?_eq_some_iff.1 h).1).trans h

/-- a Parse's blocks, all new -/
def newParse (w : World) (l : Bytes) (d : Nat) : World :=
  ((((((w.alloc (.map #[] 0)).alloc (.cells #[S l, .map (some w.heap.size), I 0] 86)).alloc (.cells #[.pointer (some ⟨w.heap.size + 1, 0, none⟩)] 83)).alloc (.cells #[.slice none 0 0] 40)).alloc (.cells #[I d] 3)).alloc (.cells #[I d] 3))

theorem PSt.init (w : World) (l : Bytes) (d : Nat) : PSt w.heap.size (newParse w l d) l d d 0 (.slice none 0 0) 0 [] ∧ Below w.heap.size w (newParse w l d) := by
  unfold newParse
  have e1 : (w.alloc (.map #[] 0)).heap.size = w.heap.size + 1 := by simp
  refine ⟨⟨?_, ?_, ?_, ?_, World.ownsRow_nil _ _ _ _, ?_, ⟨.map [], ?_, Go.Maps.isMap_empty, ?_⟩⟩, ?_⟩
  · exact heap_alloc_old _ (heap_alloc_old _ (heap_alloc_old _ (heap_alloc_is _ (by simp))))
  · exact heap_alloc_old _ (heap_alloc_old _ (heap_alloc_is _ (by simp)))
  · exact heap_alloc_old _ (heap_alloc_is _ (by simp))
  · exact heap_alloc_is _ (by simp)
  · exact heap_alloc_old _ (heap_alloc_old _ (heap_alloc_old _ (heap_alloc_old _ (heap_alloc_is _ (by simp)))))
  · exact ⟨#[], 0, heap_alloc_old _ (heap_alloc_old _ (heap_alloc_old _ (heap_alloc_old _ (heap_alloc_old _ (heap_alloc_at _ _))))), ⟨by simp, Go.MapKept.stamped_empty 0, by simp⟩, Nat.le_refl _, rfl, by omega, by simp, by simp⟩
  · intro kb; exact .inl ⟨rfl, by simp [places]⟩
  · exact ((((((Below.refl _ _).alloc (Nat.le_refl _) _).alloc (by simp) _).alloc (by simp; omega) _).alloc (by simp; omega) _).alloc (by simp; omega) _).alloc (by simp; omega) _

theorem grown_alloc0 {w w1 : World} {o : Obj} {row : Option Nat} (h : (w.alloc o).grownBy w1 row) : w.grownBy w1 row :=
  ⟨h.os, h.tape, h.output, Nat.le_trans (by simp) h.size, fun i hi hne => (h.block i (by simp; omega) hne).trans (Below.heap_alloc w o i hi)⟩
theorem grown_facts {B : Nat} {w w1 : World} {s : Bytes} {a p m n : Nat} {v : Value} {o : List Tok} (h : PSt B w s a p m v n o) (hg : w.grownBy w1 v.ownBlock) :
    w1.cell? ⟨B + 5, 0, none⟩ = some (I p) ∧ w1.cell? ⟨B + 4, 0, none⟩ = some (I a) ∧ w1.cell? ⟨B + 3, 0, none⟩ = some v ∧ w1.frozen? ⟨B + 5, 0, none⟩ = false ∧ w1.frozen? ⟨B + 4, 0, none⟩ = false ∧ w1.frozen? ⟨B + 3, 0, none⟩ = false := by
  have hlo := h.own.lt
  have hs5 := (Array.getElem?_eq_some_iff.1 h.pt).1
  have far : ∀ k, k < B + 6 → w1.heap[k]? = w.heap[k]? := fun k hk => hg.block k (by omega) (fun e => by have := (hlo k e.symm).1; omega)
  have h5 := (far (B + 5) (by omega)).trans h.pt
  have h4 := (far (B + 4) (by omega)).trans h.pa
  have h3 := (far (B + 3) (by omega)).trans h.po
  exact ⟨by rw [cell_of_row w1 _ 0 _ _ _ h5]; rfl, by rw [cell_of_row w1 _ 0 _ _ _ h4]; rfl, by rw [cell_of_row w1 _ 0 _ _ _ h3]; rfl, free_row w1 _ 0 _ _ h5, free_row w1 _ 0 _ _ h4, free_row w1 _ 0 _ _ h3⟩
theorem best_le (l : Bytes) (p : Nat) (hp : p ≤ l.length) : (best l p).2 ≤ 64 ∧ p + (best l p).2 ≤ l.length ∧ (best l p).1 ≤ p := by
  have h := bestR_le l p hp p
  rw [best_eq]
  split
  · exact ⟨by simp, by simpa using hp, by simp⟩
  · exact h
section
variable {B : Nat} {w w2 : World} {s : Bytes} {a p m n : Nat} {v : Value} {o : List Tok}
theorem PSt.best (h : PSt B w s a p m v n o) {m' : Nat} (hF : Fd w2 (B + 6) (B + 1) B m' s) (hf : FdFrame (B + 6) (B + 1) B w w2) : PSt B w2 s a p m' v n o := by
  refine ⟨hf.block _ _ h.pf (by omega) (by omega) (fun _ => by omega), hf.block _ _ h.po (by omega) (by omega) (fun _ => by omega), hf.block _ _ h.pa (by omega) (by omega) (fun _ => by omega), hf.block _ _ h.pt (by omega) (by omega) (fun _ => by omega), ?_, hF⟩
  refine ⟨h.own.1, ?_⟩
  rcases h.own.2 with hn | ⟨g, cap, cur, hv, hb, hg, rest⟩
  · exact .inl hn
  · exact .inr ⟨g, cap, cur, hv, hb, hf.block _ _ hg (by omega) (by omega) (fun _ cs e => by injection e with _ e2; exact absurd e2 (by decide)), rest⟩

theorem PSt.set_ (h : PSt B w s a p m v n o) (i : Nat) (hi : i = B + 4 ∨ i = B + 5) (u : Value) :
    (∀ k, k ≠ i → (w.setCell ⟨i, 0, none⟩ u).heap[k]? = w.heap[k]?) ∧ (w.setCell ⟨i, 0, none⟩ u).ownsRow (B + 6) 80 3 v n (toksCells o) ∧ Fd (w.setCell ⟨i, 0, none⟩ u) (B + 6) (B + 1) B m s ∧ Below B w (w.setCell ⟨i, 0, none⟩ u) := by
  have st : ∀ k, k ≠ i → (w.setCell ⟨i, 0, none⟩ u).heap[k]? = w.heap[k]? := fun k hk => Below.heap_setCell _ _ _ _ hk
  have hs5 := (Array.getElem?_eq_some_iff.1 h.pt).1
  refine ⟨st, row_keep h.own fun g e => st g (by have := (h.own.lt g e).1; omega), ⟨(st _ (by omega)).trans h.fd.1, h.fd.2.keep (st _ (by omega)) fun g cs hg hgg => (st g (by omega)).trans hgg⟩, ⟨rfl, rfl, rfl, by rw [size_setCell]; omega, fun k hk => st k (by omega)⟩⟩
theorem PSt.setAt (h : PSt B w s a p m v n o) (q : Nat) : PSt B (w.setCell ⟨B + 5, 0, none⟩ (I q)) s a q m v n o := by
  obtain ⟨st, h1, h2, _⟩ := h.set_ (B + 5) (.inr rfl) (I q)
  exact ⟨(st _ (by omega)).trans h.pf, (st _ (by omega)).trans h.po, (st _ (by omega)).trans h.pa, by rw [set_row h.pt]; rfl, h1, h2⟩
theorem PSt.setFrom (h : PSt B w s a p m v n o) (q : Nat) : PSt B (w.setCell ⟨B + 4, 0, none⟩ (I q)) s q p m v n o := by
  obtain ⟨st, h1, h2, _⟩ := h.set_ (B + 4) (.inl rfl) (I q)
  exact ⟨(st _ (by omega)).trans h.pf, (st _ (by omega)).trans h.po, by rw [set_row h.pa]; rfl, (st _ (by omega)).trans h.pt, h1, h2⟩
theorem PSt.cells (hP : PSt B w s a p m v n o) : w.cell? ⟨B + 5, 0, none⟩ = some (I p) ∧ w.cell? ⟨B + 4, 0, none⟩ = some (I a) ∧ w.cell? ⟨B + 3, 0, none⟩ = some v ∧ w.cell? ⟨B + 2, 0, none⟩ = some (.pointer (some ⟨B + 1, 0, none⟩)) ∧ w.cell? ⟨B + 1, 0, none⟩ = some (S s) ∧ w.frozen? ⟨B + 5, 0, none⟩ = false ∧ w.frozen? ⟨B + 4, 0, none⟩ = false ∧ w.frozen? ⟨B + 3, 0, none⟩ = false := by
  refine ⟨?_, ?_, ?_, ?_, ?_, free_row w _ 0 _ _ hP.pt, free_row w _ 0 _ _ hP.pa, free_row w _ 0 _ _ hP.po⟩
  · rw [cell_of_row w _ 0 _ _ _ hP.pt]; rfl
  · rw [cell_of_row w _ 0 _ _ _ hP.pa]; rfl
  · rw [cell_of_row w _ 0 _ _ _ hP.po]; rfl
  · rw [cell_of_row w _ 0 _ _ _ hP.pf]; rfl
  · rw [cell_of_row w _ 0 _ _ _ hP.fd.1]; rfl
end

attribute [local go_sem] World.cell?_alloc_some in
set_option maxHeartbeats 2000000 in
set_option maxRecDepth 100000 in
theorem parse_walk (dict text : Bytes) (w : World) (hd : dict.length ≤ 256) (ht : text.length ≤ 512) :
    Calls Try.prog 28 #[S dict, S text] w fun e w' => (∃ v, e = .returned (.tuple #[v, I 0]) ∧ ToksV w' v (parse dict text)) ∧ Below w.heap.size w w' := by
  obtain ⟨l, hl⟩ : ∃ l, l = dict ++ text := ⟨_, rfl⟩
  have hll : l.length = dict.length + text.length := by rw [hl, List.length_append]
  have hlb : l.length ≤ 768 := by omega
  have hdl : dict.length ≤ l.length := by omega
  have hap := app_list dict text
  rw [← hl] at hap
  have hpe : parse dict text = parseF l (l.length - dict.length) dict.length dict.length := by
    unfold parse; rw [← hl, hll]; congr 1; omega
  have HPE := hide hpe
  have HLL := hide hll
  have d1 : decide ((dict.length : Int) > 256) = false := by simp; omega
  have d2 : decide ((text.length : Int) > 512) = false := by simp; omega
  have hmf : ∀ (fn : Fn) (first cap : Array Value) (w : World), (Instr.makeFunc fn first cap).run Try.prog w = .ok (.func fn first cap) w := fun _ _ _ _ => rfl
  have hmm : ∀ (w : World), (Instr.makeMap 84 none).run Try.prog w = .ok (.map (some w.heap.size)) (w.alloc (.map #[] 0)) := fun _ => rfl
  clear hl hll hpe
  go_enter Try.func28, Try.ntmps28
  go_wp2_with fail
  simp only [Nat.add_assoc, Nat.reduceAdd]
  obtain ⟨hinit, hbel0⟩ := PSt.init w l dict.length
  obtain ⟨B, hB⟩ : ∃ B, B = w.heap.size := ⟨_, rfl⟩
  rw [← hB] at hinit hbel0 ⊢
  go_loopg [11, 12] (l.length - dict.length) (fun gk _ _ wr => ∃ (p a m n fu : Nat) (v : Value) (o : List Tok), gk = l.length - p ∧ p ≤ l.length ∧ a ≤ p ∧ m ≤ p ∧ l.length ≤ p + fu ∧ n ≤ 2 * p ∧ PSt B wr l a p m v n o ∧ o ++ parseF l fu p a = parse dict text ∧ Below B w wr)
  case atStart =>
    refine ⟨dict.length, dict.length, 0, 0, l.length - dict.length, .slice none 0 0, [], rfl, hdl, Nat.le_refl _, by omega, by omega, by omega, ?_, by rw [unhide HPE]; rfl, ?_⟩
    · rw [hB] at hinit ⊢; exact hinit
    · rw [hB] at hbel0 ⊢; exact hbel0
  case round =>
    obtain ⟨p, a, m, n, fu, v, o, hgk, hp, ha, hm, hfu, hn, hP, hpa, hbel⟩ := hrel
    obtain ⟨c5, c4, c3, c2, c1, f5, f4, f3⟩ := hP.cells
    have hBs := (Array.getElem?_eq_some_iff.1 hP.pt).1
    have HG := hide hgk
    have HPA := hide hpa
    have HP := hide hP
    have HB := hide hB
    clear hgk hpa hP hB hinit hbel0
    by_cases hpl : p < l.length
    · have q1 : decide ((p : Int) < (l.length : Int)) = true := by simp; omega
      go_wp2_with fail
      go_quiet (fail)
      have cB := fun (W : World) (h1 : Fd W (B + 6) (B + 1) B m l) (h2 : B + 6 ≤ W.heap.size) => best_any l (B + 6) (B + 1) B m p W h1 h2 (by omega) hm hp hlb
      obtain ⟨⟨x, y⟩, hxy⟩ : ∃ q : Nat × Nat, q = best l p := ⟨_, rfl⟩
      rw [← hxy] at cB
      have CB := hide cB
      have HXY := hide hxy
      clear cB hxy
      by_cases hy : y = 0
      · subst hy
        go_wp2_with (go_at_call 56; refine (unhide CB (wr.drewN _) ((unhide HP).drewN _).fd (by simp; omega)).mono ?_; rintro e w2 ⟨rfl, m2, hm2, hm3, hFd2, hfr2⟩; have hP2 := ((unhide HP).drewN _).best hFd2 hfr2; have HP2 := hide hP2; obtain ⟨C5, C4, C3, C2, C1, F5, F4, F3⟩ := hP2.cells; clear hP2)
        go_roundg (l.length - (p + 1))
        case measure => have := unhide HG; omega
        case rel =>
          obtain ⟨fu', rfl⟩ : ∃ fu', fu = fu' + 1 := ⟨fu - 1, by omega⟩
          refine ⟨p + 1, a, m2, n, fu', v, o, rfl, by omega, by omega, by omega, by omega, by omega, (unhide HP2).setAt (p + 1), ?_, ((below_drewN hbel _).trans (FdFrame.below (B := B) hfr2 (by omega) (by omega) (by omega) (by simp; omega))).trans ((unhide HP2).set_ (B + 5) (.inr rfl) _).2.2.2⟩
          have h := unhide HPA
          rw [parseF, if_pos hpl, ← unhide HXY] at h
          simpa using h
      · have q2 : ((y : Int) == 0) = false := by rw [beq_eq_false_iff_ne]; omega
        have hcl := best_le l p hp
        rw [← unhide HXY] at hcl
        simp only at hcl
        have hpy : IntKind.i64.wrap ((p : Int) + (y : Int)) = (p : Int) + (y : Int) := IntWalk.i64_in _ ⟨by omega, by omega⟩
        have cF := hide (fun (W : World) (m2 : Nat) (h : PSt B W l a p m2 v n o) => flush_any B W l a p m2 v n o h ha hp (by omega))
        go_wp2_with (first
          | (go_at_call 56; refine (unhide CB (wr.drewN _) ((unhide HP).drewN _).fd (by simp; omega)).mono ?_; rintro e w2 ⟨rfl, m2, hm2, hm3, hFd2, hfr2⟩; have HP2 := hide (((unhide HP).drewN _).best hFd2 hfr2))
          | (go_at_call 55; refine (unhide cF w2 m2 (unhide HP2)).mono ?_; rintro e w3 ⟨rfl, ⟨v3, n3, hn3, hP3⟩, hb3⟩; obtain ⟨A3, cap3, rfl⟩ := own_slice hP3.own; have hs3 := (Array.getElem?_eq_some_iff.1 hP3.pt).1; have HP3 := hide hP3; obtain ⟨C5, C4, C3, C2, C1, F5, F4, F3⟩ := hP3.cells; clear hP3)
          | (at_builtin; refine wpList_push_tok rfl (.tmp 50) (.tmp 54) rfl (B + 6) _ n3 (o ++ flush l a p) rfl (unhide HP3).own [] x y rfl (by omega) (by omega) ?_; intro A4 cap4 w4 hown4 hb4 hg4; have hg5 := grown_alloc0 hg4; obtain ⟨K5, K4, K3, J5, J4, J3⟩ := grown_facts (unhide HP3) hg5))
        go_roundg (l.length - (p + y))
        case measure => have := unhide HG; omega
        case rel =>
          obtain ⟨fu', rfl⟩ : ∃ fu', fu = fu' + 1 := ⟨fu - 1, by omega⟩
          obtain ⟨h5, b5⟩ := (unhide HP3).pushed hg5 hown4
          have b2 := (below_drewN hbel _).trans (FdFrame.below (B := B) hfr2 (by omega) (by omega) (by omega) (by simp; omega))
          rw [show (Value.int .i64 ((p : Int) + (y : Int))) = I ((p + y : Nat) : Int) from by rw [Int.natCast_add]]
          refine ⟨p + y, p + y, m2, n3 + 1, fu', _, o ++ flush l a p ++ [⟨[], x, y⟩], rfl, by omega, by omega, by omega, by omega, by omega, (h5.setAt (p + y)).setFrom (p + y), ?_, (((b2.trans hb3).trans b5).trans (h5.set_ (B + 5) (.inr rfl) _).2.2.2).trans ((h5.setAt (p + y)).set_ (B + 4) (.inl rfl) _).2.2.2⟩
          have h := unhide HPA
          rw [parseF, if_pos hpl, ← unhide HXY, if_neg hy] at h
          rw [← h]
          simp [copyTok]
    · have q1 : decide ((p : Int) < (l.length : Int)) = false := by simp; omega
      have cF := hide (fun (W : World) (h : PSt B W l a p m v n o) => flush_any B W l a p m v n o h ha hp (by omega))
      go_wp2_with fail
      go_quiet (fail)
      go_wp2_with (go_at_call 55; refine (unhide cF (wr.drewN _) ((unhide HP).drewN _)).mono ?_; rintro e w3 ⟨rfl, ⟨v3, n3, hn3, hP3⟩, hb3⟩; obtain ⟨A3, cap3, rfl⟩ := own_slice hP3.own; have HP3 := hide hP3; obtain ⟨C5, C4, C3, C2, C1, F5, F4, F3⟩ := hP3.cells; clear hP3)
      go_ret2
      have hfin : parseF l fu p a = flush l a p := by cases fu <;> simp [parseF, hpl]
      have h := unhide HPA
      rw [hfin] at h
      obtain ⟨A5, cap5, hv5, hat, hlen⟩ := toksAt_of_own (unhide HP3).own
      rw [← unhide HB]
      refine ⟨⟨_, rfl, A5, n3, cap5, hv5, ?_⟩, (below_drewN hbel _).trans hb3⟩
      rw [← h]; exact hat

set_option maxRecDepth 100000 in
theorem parse_many (dict text : Bytes) (w : World) (h : 256 < dict.length ∨ 512 < text.length) :
    Calls Try.prog 28 #[S dict, S text] w fun e w' => e = .returned (.tuple #[.slice none 0 0, I 2]) ∧ Below w.heap.size w w' := by
  by_cases hd : 256 < dict.length
  · have d1 : decide ((dict.length : Int) > 256) = true := by simp; omega
    clear h
    go_enter Try.func28, Try.ntmps28
    go_wp2_with fail
    go_ret2
    exact ⟨rfl, Below.refl _ _⟩
  · have d1 : decide ((dict.length : Int) > 256) = false := by simp; omega
    have d2 : decide ((text.length : Int) > 512) = true := by simp; omega
    clear h hd
    go_enter Try.func28, Try.ntmps28
    go_wp2_with fail
    go_ret2
    exact ⟨rfl, Below.refl _ _⟩

end Go.Proofs.Ytgfkkjcnnecefaa
