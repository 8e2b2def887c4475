/- Parts of the proofs. -/
import Derived.Test.YtjpgoeimclipjaaGreatAd3
import Derived.Deep.RegionLaw
import Derived.Deep.RegionWith
import Derived.RegionTactic
import Derived.Deep.QuietTactic
import Derived.BigQuiet
import Derived.Deep.RegionHeld3
import Derived.Deep.AppendLies
import Derived.Deep.DeepCutAuto
import Derived.Laws.Rows
namespace Go.Proofs.YtjpgoeimclipjaaGreat
open Go.RowKit Go.Lib Pl
attribute [local go_sem] ext_list app_list
structure VarF (w : World) (H : Nat) (f : Fil) : Prop where
 h : w.heap[H]? = some (.cells #[S f.name, I f.dict, I f.size, I f.sum, S f.block] 61 (0, 0))
theorem VarF.cells {w : World} {H : Nat} {f : Fil} (h : VarF w H f) : ∀ j u, (filCells f)[j]? = some u → w.cell? ((⟨H, 0, none⟩ : Addr).add j) = some u := by
 intro j u hj
 rw [Addr.add_lit, cell_of_row w H _ _ _ _ h.h]
 simpa [filCells] using hj
set_option maxHeartbeats 2000000 in
set_option maxRecDepth 100000 in
theorem insertFil_end (v : Value) (n : Nat) (l : List Fil) (base : Nat) (f : Fil) (H : Nat) (w : World) (hown : w.ownsRow base 61 5 v n (filsCells l)) (hn : n ≤ 1000) (hv : VarF w H f) (hbase : base ≤ w.heap.size) :
  Calls Tryz.prog 75 #[v, I n, .slice (some ⟨H, 0, none⟩) 1 1] w fun e w' => ∃ v', e = .returned v' ∧ w'.ownsRow base 61 5 v' (n + 1) (filsCells (l ++ [f])) ∧ w.grownBy w' v.ownBlock := by
 obtain ⟨i0, hi, hz0, hz1, hz2⟩ := info_parts info_fil
 have HC := hide hv.cells
 have HOWN := hide hown
 rcases ownsFil_form hown with ⟨rfl, rfl, rfl⟩ | ⟨g, cap, rfl⟩
 ·clear hown hv
  go_enter Tryz.func75, Tryz.ntmps75
  go_wp2_with (at_builtin; refine wpList_append_own _ rfl _ _ 31 rfl base 61 i0 _ 5 56 Tryz.underlying31 hi hz0 hz1 hz2 rfl (by decide) _ _ _ rfl (unhide HOWN) ⟨H, 0, none⟩ 1 1 (filCells f) rfl rfl (unhide HC) (fil_one f) (by unfold maxLen; omega) (by omega) hbase ?_; intro v' w' hown' hg' _; have HOWN2 := hide hown'; have HG := hide hg'; clear hown' hg')
  go_ret
  exact ⟨_, rfl, unhide HOWN2, unhide HG⟩
 ·obtain ⟨cur, hb, hg, hnc, hcm, hsz, ht⟩ := ownsFil_row hown
  have d1 : n ≤ cap := hnc
  have d2 : cap ≤ 9223372036854775807 := by unfold maxLen at hcm; exact hcm
  clear hown hv ht hsz hg hb hcm
  by_cases hcn : cap = n
  ·subst hcn
   go_enter Tryz.func75, Tryz.ntmps75
   go_wp2_with (at_builtin; refine wpList_append_own _ rfl _ _ 31 rfl base 61 i0 _ 5 56 Tryz.underlying31 hi hz0 hz1 hz2 rfl (by decide) _ _ _ rfl (unhide HOWN) ⟨H, 0, none⟩ 1 1 (filCells f) rfl rfl (unhide HC) (fil_one f) (by unfold maxLen; omega) (by omega) hbase ?_; intro v' w' hown' hg' _; have HOWN2 := hide hown'; have HG := hide hg'; clear hown' hg')
   go_ret
   exact ⟨_, rfl, by rw [filsCells_snoc]; exact unhide HOWN2, unhide HG⟩
  ·go_enter Tryz.func75, Tryz.ntmps75
   go_wp2_with (at_builtin; refine wpList_append_own _ rfl _ _ 31 rfl base 61 i0 _ 5 56 Tryz.underlying31 hi hz0 hz1 hz2 rfl (by decide) _ _ _ rfl (unhide HOWN) ⟨H, 0, none⟩ 1 1 (filCells f) rfl rfl (unhide HC) (fil_one f) (by unfold maxLen; omega) (by omega) hbase ?_; intro v' w' hown' hg' _; have HOWN2 := hide hown'; have HG := hide hg'; clear hown' hg')
   go_ret
   exact ⟨_, rfl, by rw [filsCells_snoc]; exact unhide HOWN2, unhide HG⟩
theorem setRow_cells {w : World} {g : Nat} {c : Array Value} {p : Addr} (h : p.block ≠ g) : (w.setRow g c).cell? p = w.cell? p := by
 unfold World.cell?; rw [setRow_other w g p.block c h]
theorem grown_setRow {w w1 : World} {g : Nat} {c : Array Value} (h : w.grownBy w1 (some g)) : w.grownBy (w1.setRow g c) (some g) :=
 ⟨h.os, h.tape, h.output, by simpa [World.setRow] using h.size, fun k hk hne => by rw [setRow_other w1 g k _ (fun e => hne (by rw [e]))]; exact h.block k hk hne⟩
set_option maxHeartbeats 4000000 in
set_option maxRecDepth 100000 in
theorem insertFil_room (g cap n i : Nat) (l : List Fil) (base : Nat) (f : Fil) (H : Nat) (w : World) (hown : w.ownsRow base 61 5 (.slice (some ⟨g, 0, none⟩) n cap) n (filsCells l)) (hn : n ≤ 1000) (hv : VarF w H f) (hne : H ≠ g) (hi : i < n) (hroom : n < cap) :
  Calls Tryz.prog 75 #[.slice (some ⟨g, 0, none⟩) n cap, I i, .slice (some ⟨H, 0, none⟩) 1 1] w fun e w' => ∃ v', e = .returned v' ∧ w'.ownsRow base 61 5 v' (n + 1) (filsCells (l.take i ++ f :: l.drop i)) ∧ w.grownBy w' (some g) := by
 obtain ⟨cur, hb, hg, hnc, hcm, hsz, ht⟩ := ownsFil_row hown
 have hl := ownsFil_len hown
 obtain ⟨i0, hi0, hz0, hz1, hz2⟩ := info_parts info_fil
 have hc63 : cap ≤ 9223372036854775807 := by unfold maxLen at hcm; exact hcm
 have hov : ∀ lb cb, (callFunc 111 #[.slice (some ⟨H, 0, none⟩) 1 1, .slice (some ⟨g, (i + 1) * 5, none⟩) lb cb]).run Tryz.prog w = .ok (.value (.bool false)) w := fun lb cb => by
  have hsz5 : ∀ w, (Go.sizeOf 61).run Tryz.prog w = .ok 5 w := fun w => by simp [Go.sizeOf, typeInfo, hi0, hz1]
  rw [run_callFunc_extern Tryz.func111 (by kernel_rfl) (by kernel_rfl) (by kernel_rfl) (e := Extern.SlicesOverlaps.overlaps #[31, 31] #[4]) (by kernel_rfl),
   Lib.run_overlaps_apart w 31 4 61 Tryz.underlying31 5 hsz5 ⟨H, 0, none⟩ ⟨g, (i + 1) * 5, none⟩ 1 1 lb cb hne 61 61 5 cur.size (by simp [World.shape?, hv.h]) (by simp [World.shape?, hg]) (by omega) (by simp [World.frozen?, hv.h]) (by simp [World.frozen?, hv.h])]
  rfl
 -- what is moved to the right
 obtain ⟨mv, hmv⟩ : ∃ mv, mv = filsCells (l.drop i) := ⟨_, rfl⟩
 have hmvl : mv.length = (n - i) * 5 := by rw [hmv, filsCells_len, List.length_drop, hl]
 have hget : ∀ j u, mv[j]? = some u → w.cell? ⟨g, i * 5 + j, none⟩ = some u := by
  intro j u hj
  rw [cell_of_row w g _ cur _ _ hg]
  rw [hmv, ← filsCells_drop (by omega), List.getElem?_drop, ← ht, List.getElem?_take] at hj
  split at hj
  ·simpa using hj
  ·cases hj
 obtain ⟨c1, hc1⟩ : ∃ c1, c1 = (cur.toList.take ((i + 1) * 5) ++ mv ++ cur.toList.drop ((i + 1) * 5 + mv.length)).toArray := ⟨_, rfl⟩
 have hcp1 : ∀ (W : World) (ty : TypeId) (dc sc : Nat), W.heap = w.heap → (Builtin.copy_ #[31, 31] ty #[.slice (some ⟨g, (i + 1) * 5, none⟩) (n + 1 - (i + 1)) dc, .slice (some ⟨g, i * 5, none⟩) (n + 1 - i) sc]).run Tryz.prog W = .ok (goInt ((n - i : Nat) : Int)) (W.setRow g c1) := fun W ty dc sc hW => by
  have hWg : W.heap[g]? = some (.cells cur 61 (0, 0)) := by rw [hW]; exact hg
  have hWc : ∀ p : Addr, W.cell? p = w.cell? p := fun p => by unfold World.cell?; rw [hW]
  have hmin : Nat.min (n + 1 - i) (n + 1 - (i + 1)) = n - i := by show min (n + 1 - i) (n + 1 - (i + 1)) = n - i; omega
  have := run_copyF (w := W) 31 31 ty Tryz.underlying31 g ((i + 1) * 5) (n + 1 - (i + 1)) dc ⟨g, i * 5, none⟩ (n + 1 - i) sc mv cur (by rw [hmin]; exact hmvl) (fun j v hj => by rw [Addr.add_lit, hWc]; exact hget j v hj) hWg (by rw [hmvl]; omega) (by rw [hmv]; exact filsCells_one _)
  rw [hmin] at this
  rw [this, hc1]
 have hc1z : c1.size = cap * 5 := by rw [hc1]; simp; omega
 obtain ⟨c2, hc2⟩ : ∃ c2, c2 = (c1.toList.take (i * 5) ++ filCells f ++ c1.toList.drop (i * 5 + (filCells f).length)).toArray := ⟨_, rfl⟩
 have hcp2 : ∀ (W : World) (ty : TypeId) (dc : Nat), W.heap[g]? = some (.cells c1 61 (0, 0)) → W.heap[H]? = w.heap[H]? → (Builtin.copy_ #[31, 31] ty #[.slice (some ⟨g, i * 5, none⟩) (n + 1 - i) dc, .slice (some ⟨H, 0, none⟩) 1 1]).run Tryz.prog W = .ok (goInt ((1 : Nat) : Int)) (W.setRow g c2) := fun W ty dc hWg hWH => by
  have hWv : VarF W H f := ⟨by rw [hWH]; exact hv.h⟩
  have hmin : Nat.min 1 (n + 1 - i) = 1 := by show min 1 (n + 1 - i) = 1; omega
  have := run_copyF (w := W) 31 31 ty Tryz.underlying31 g (i * 5) (n + 1 - i) dc ⟨H, 0, none⟩ 1 1 (filCells f) c1 (by rw [hmin]; rfl) hWv.cells hWg (by rw [hc1z, filCells_len]; omega) (fil_one f)
  rw [hmin] at this
  rw [this, hc2]
 have hend : ∀ W : World, W.heap[g]? = some (.cells c1 61 (0, 0)) → (W.setRow g c2).ownsRow base 61 5 (.slice (some ⟨g, 0, none⟩) (n + 1) cap) (n + 1) (filsCells (l.take i ++ f :: l.drop i)) := fun W hW => by
  refine ownsFil_mk hb (setRow_heap _ _ _ _ _ _ hW) (by omega) hcm ?_ (by simp; omega) ?_
  ·rw [hc2]; simp only [List.size_toArray, List.length_append, List.length_take, List.length_drop, Array.length_toList, filCells_len]; omega
  ·have e1 : c1.toList.take (i * 5) = filsCells (l.take i) := by
    rw [hc1, List.toList_toArray, List.append_assoc, List.take_append_of_le_length (by simp; omega), List.take_take, Nat.min_eq_left (by omega), ← filsCells_take (by omega), ← ht, List.take_take, Nat.min_eq_left (by omega)]
   have e2 : c1.toList.drop (i * 5 + (filCells f).length) = mv ++ cur.toList.drop ((i + 1) * 5 + mv.length) := by
    rw [hc1, List.toList_toArray, List.append_assoc, filCells_len, List.drop_append_of_le_length (by simp; omega), List.drop_of_length_le (by simp; omega), List.nil_append]
   rw [hc2, List.toList_toArray, e1, e2, filsCells_app, filsCells_cons, ← hmv, List.append_assoc, ← List.append_assoc (filCells f), ← List.append_assoc]
   have hlen : (filsCells (l.take i) ++ (filCells f ++ mv)).length = (n + 1) * 5 := by
    simp only [List.length_append, filsCells_len, filCells_len, hmvl, List.length_take]; omega
   rw [List.take_append_of_le_length (by omega), List.take_of_length_le (by omega)]
 have HCP1 := hide hcp1
 have HCP2 := hide hcp2
 have HEND := hide hend
 have HOV := hide hov
 have HG := hide (show (w.drew.setRow g c1).heap[g]? = some (.cells c1 61 (0, 0)) from setRow_heap w.drew g cur c1 _ _ hg)
 have HH := hide (show (w.drew.setRow g c1).heap[H]? = w.heap[H]? from setRow_other w.drew g H c1 hne)
 have z1 : ((i : Int) == (n : Int)) = false := by rw [beq_eq_false_iff_ne]; omega
 have e1 : IntKind.i64.wrap ((n : Int) + 1) = (n : Int) + 1 := IntWalk.i64_in _ ⟨by omega, by omega⟩
 have e2 : IntKind.i64.wrap ((i : Int) + 1) = (i : Int) + 1 := IntWalk.i64_in _ ⟨by omega, by omega⟩
 have z2 : ¬ (cap : Int) < (n : Int) + 1 := by omega
 have z3 : (0 : Int) ≤ (n : Int) + 1 := by omega
 have z4 : ((n : Int) + 1).toNat = n + 1 := by omega
 have z5 : n + 1 ≤ cap := by omega
 have z6 : (0 : Int) ≤ (i : Int) + 1 := by omega
 have z7 : ((i : Int) + 1).toNat = i + 1 := by omega
 have z8 : (i : Int) + 1 ≤ (n : Int) + 1 := by omega
 have z9 : i + 1 ≤ n + 1 := by omega
 have z10 : ¬ (cap = i + 1) := by omega
 have z11 : ¬ (cap = i) := by omega
 have z12 : (i : Int) ≤ (n : Int) := by omega
 have z13 : i ≤ n := by omega
 have z14 : i ≤ n + 1 := by omega
 have z15 : (i : Int) ≤ (n : Int) + 1 := by omega
 clear hcp1 hcp2 hend hc1z hc1 hc2 hget hmvl hmv ht hown hsz hg hv
 have hov := hov
 go_enter Tryz.func75, Tryz.ntmps75
 go_wp2_with (simp only [hov])
 go_region_law (refine step_copy_runF rfl (.tmp 73) (.tmp 76) 31 31 rfl (.slice (some ⟨g, (i + 1) * 5, none⟩) (n + 1 - (i + 1)) (cap - (i + 1))) (.slice (some ⟨g, i * 5, none⟩) (n + 1 - i) (cap - i)) (by simp [Act.eval, Act.put]) (by simp [Act.eval, Act.put]) (unhide HCP1 w.drew _ _ _ rfl) ?_)
 have hcp2 := fun ty dc => unhide HCP2 (w.drew.setRow g c1) ty dc (unhide HG) (unhide HH)
 go_wp2_with (at_builtin; refine wpList_copy_runF _ rfl (.tmp 80) (.tmp 81) 31 31 rfl (.slice (some ⟨g, i * 5, none⟩) (n + 1 - i) (cap - i)) (.slice (some ⟨H, 0, none⟩) 1 1) rfl rfl (hcp2 _ _) ?_)
 go_ret
 refine ⟨_, rfl, unhide HEND _ (unhide HG), grown_setRow (grown_setRow ⟨rfl, rfl, rfl, Nat.le_refl _, fun _ _ _ => rfl⟩)⟩
set_option maxHeartbeats 4000000 in
set_option maxRecDepth 100000 in
theorem insertFil_grow (g n i : Nat) (l : List Fil) (base : Nat) (f : Fil) (H : Nat) (w : World) (hown : w.ownsRow base 61 5 (.slice (some ⟨g, 0, none⟩) n n) n (filsCells l)) (hn : n ≤ 1000) (hv : VarF w H f) (hi : i < n) (hbase : base ≤ w.heap.size) :
  Calls Tryz.prog 75 #[.slice (some ⟨g, 0, none⟩) n n, I i, .slice (some ⟨H, 0, none⟩) 1 1] w fun e w' => ∃ v', e = .returned v' ∧ w'.ownsRow base 61 5 v' (n + 1) (filsCells (l.take i ++ f :: l.drop i)) ∧ w.grownBy w' (some g) := by
 obtain ⟨cur, hb, hg, hnc, hcm, hsz, ht⟩ := ownsFil_row hown
 have hl := ownsFil_len hown
 obtain ⟨i0, hi0, hz0, hz1, hz2⟩ := info_parts info_fil
 have hgl : g < w.heap.size := (Array.getElem?_eq_some_iff.1 hg).1
 have hHl : H < w.heap.size := (Array.getElem?_eq_some_iff.1 hv.h).1
 obtain ⟨N, hN⟩ : ∃ N, N = w.heap.size := ⟨_, rfl⟩
 obtain ⟨G, hG⟩ : ∃ G, G = grownCap w (n + 1) n 61 := ⟨_, rfl⟩
 have hGn : n + 1 ≤ G := by rw [hG]; exact grownCap_ge w _ _ _
 have hGm : G ≤ maxLen := by rw [hG]; exact grownCap_le_maxLen w _ _ _ (by unfold maxLen; omega)
 have hG63 : G ≤ 9223372036854775807 := by unfold maxLen at hGm; exact hGm
 obtain ⟨ROW, hROW⟩ : ∃ ROW : Array Value, ROW = (filsCells (l.take i)).toArray ++ Builtin.zeroCells (Value.agg #[.string ByteArray.empty, .int .i64 0, .int .i64 0, .int .i64 0, .string ByteArray.empty]).cells (n + 1 - i) ++ Builtin.zeroCells (Value.agg #[.string ByteArray.empty, .int .i64 0, .int .i64 0, .int .i64 0, .string ByteArray.empty]).cells (G - (n + 1)) := ⟨_, rfl⟩
 have hRs : ROW.size = G * 5 := by
  have hz : (Value.agg #[.string ByteArray.empty, .int .i64 0, .int .i64 0, .int .i64 0, .string ByteArray.empty]).cells.size = 5 := rfl
  rw [hROW, Array.size_append, Array.size_append, size_zeroCells, size_zeroCells, hz, List.size_toArray, filsCells_len, List.length_take]; omega
 obtain ⟨W1, hW1⟩ : ∃ W1, W1 = w.drew.alloc (.cells ROW 61) := ⟨_, rfl⟩
 have hrz : ∀ ty, (Builtin.append_ #[31, 3] ty #[.slice (some ⟨g, 0, none⟩) i n, .int .i64 ((n : Int) + 1 - (i : Int))]).run Tryz.prog w = .ok (.slice (some ⟨N, 0, none⟩) (n + 1) G) W1 := fun ty => by
  have hold : (Builtin.firstCells i0.size i (.slice (some ⟨g, 0, none⟩) i n)).run Tryz.prog w.drew = .ok (filsCells (l.take i)).toArray w.drew := by
   rw [hz1]
   refine run_firstCells_some w.drew 5 i ⟨g, 0, none⟩ i n _ (by rw [filsCells_len, List.length_take]; omega) (fun j v hj => ?_)
   rw [Addr.add_lit]
   show w.cell? _ = _
   rw [cell_of_row w g _ cur _ _ hg]
   rw [← filsCells_take (by omega), ← ht, List.take_take, List.getElem?_take] at hj
   split at hj
   ·simpa using hj
   ·cases hj
  have h := Lib.run_append_grow_zeros w 31 3 ty 61 i0 _ .i64 .i64 Tryz.underlying31 Tryz.underlying3 hi0 hz0 (some ⟨g, 0, none⟩) i n (filsCells (l.take i)) hold (n + 1 - i) (by omega) (by omega) (by omega) (by omega) (by rw [hz2]; omega) (by rw [hz2]; exact growslice_fits (by omega) (by omega))
  rw [show i + (n + 1 - i) = n + 1 from by omega] at h
  rw [show (n : Int) + 1 - (i : Int) = ((n + 1 - i : Nat) : Int) from by omega, h, hW1, hROW, hG, hN]
 have hR1 : W1.heap[N]? = some (.cells ROW 61 (0, 0)) := by rw [hW1, hN]; exact heap_alloc_new w.drew _
 have hO1 : ∀ k, k < N → W1.heap[k]? = w.heap[k]? := fun k hk => by rw [hW1]; exact Below.heap_alloc w.drew _ k (by rw [hN] at hk; exact hk)
 obtain ⟨c1, hc1⟩ : ∃ c1, c1 = (ROW.toList.take (i * 5) ++ filCells f ++ ROW.toList.drop (i * 5 + (filCells f).length)).toArray := ⟨_, rfl⟩
 have hcpA : ∀ (ty : TypeId) (dc : Nat), (Builtin.copy_ #[31, 31] ty #[.slice (some ⟨N, i * 5, none⟩) (n + 1 - i) dc, .slice (some ⟨H, 0, none⟩) 1 1]).run Tryz.prog W1 = .ok (goInt ((1 : Nat) : Int)) (W1.setRow N c1) := fun ty dc => by
  have hWv : VarF W1 H f := ⟨by rw [hO1 H (by omega)]; exact hv.h⟩
  have hmin : Nat.min 1 (n + 1 - i) = 1 := by show min 1 (n + 1 - i) = 1; omega
  have := run_copyF (w := W1) 31 31 ty Tryz.underlying31 N (i * 5) (n + 1 - i) dc ⟨H, 0, none⟩ 1 1 (filCells f) ROW (by rw [hmin]; rfl) hWv.cells hR1 (by rw [hRs, filCells_len]; omega) (fil_one f)
  rw [hmin] at this
  rw [this, hc1]
 have hc1z : c1.size = G * 5 := by rw [hc1]; simp only [List.size_toArray, List.length_append, List.length_take, List.length_drop, Array.length_toList, filCells_len]; omega
 obtain ⟨mv, hmv⟩ : ∃ mv, mv = filsCells (l.drop i) := ⟨_, rfl⟩
 have hmvl : mv.length = (n - i) * 5 := by rw [hmv, filsCells_len, List.length_drop, hl]
 have hget : ∀ j u, mv[j]? = some u → w.cell? ⟨g, i * 5 + j, none⟩ = some u := by
  intro j u hj
  rw [cell_of_row w g _ cur _ _ hg]
  rw [hmv, ← filsCells_drop (by omega), List.getElem?_drop, ← ht, List.getElem?_take] at hj
  split at hj
  ·simpa using hj
  ·cases hj
 obtain ⟨c2, hc2⟩ : ∃ c2, c2 = (c1.toList.take ((i + 1) * 5) ++ mv ++ c1.toList.drop ((i + 1) * 5 + mv.length)).toArray := ⟨_, rfl⟩
 have hgN : g ≠ N := by omega
 have hcpB : ∀ (ty : TypeId) (dc sc : Nat), (Builtin.copy_ #[31, 31] ty #[.slice (some ⟨N, (i + 1) * 5, none⟩) (n + 1 - (i + 1)) dc, .slice (some ⟨g, i * 5, none⟩) (n - i) sc]).run Tryz.prog (W1.setRow N c1).drew = .ok (goInt ((n - i : Nat) : Int)) ((W1.setRow N c1).drew.setRow N c2) := fun ty dc sc => by
  have hWg : (W1.setRow N c1).drew.heap[N]? = some (.cells c1 61 (0, 0)) := setRow_heap _ _ _ _ _ _ hR1
  have hWc : ∀ o, (W1.setRow N c1).drew.cell? ⟨g, o, none⟩ = w.cell? ⟨g, o, none⟩ := fun o => by
   show (W1.setRow N c1).cell? _ = _
   rw [setRow_cells (by exact hgN)]
   unfold World.cell?
   simp only
   rw [hO1 g (by omega)]
  have hmin : Nat.min (n - i) (n + 1 - (i + 1)) = n - i := by show min (n - i) (n + 1 - (i + 1)) = n - i; omega
  have := run_copyF (w := (W1.setRow N c1).drew) 31 31 ty Tryz.underlying31 N ((i + 1) * 5) (n + 1 - (i + 1)) dc ⟨g, i * 5, none⟩ (n - i) sc mv c1 (by rw [hmin]; exact hmvl) (fun j v hj => by rw [Addr.add_lit, hWc]; exact hget j v hj) hWg (by rw [hmvl, hc1z]; omega) (by rw [hmv]; exact filsCells_one _)
  rw [hmin] at this
  rw [this, hc2]
 have hend : ((W1.setRow N c1).drew.setRow N c2).ownsRow base 61 5 (.slice (some ⟨N, 0, none⟩) (n + 1) G) (n + 1) (filsCells (l.take i ++ f :: l.drop i)) ∧ w.grownBy ((W1.setRow N c1).drew.setRow N c2) (some g) := by
  refine ⟨ownsFil_mk (by omega) (setRow_heap _ _ _ _ _ _ (show (W1.setRow N c1).drew.heap[N]? = some (.cells c1 61 (0, 0)) from setRow_heap _ _ _ _ _ _ hR1)) hGn hGm ?_ (by simp; omega) ?_, ?_⟩
  ·rw [hc2]; simp only [List.size_toArray, List.length_append, List.length_take, List.length_drop, Array.length_toList, hmvl]; omega
  ·have e0 : ROW.toList.take (i * 5) = filsCells (l.take i) := by
    rw [hROW, Array.toList_append, Array.toList_append, List.toList_toArray, List.append_assoc, List.take_append_of_le_length (by rw [filsCells_len, List.length_take]; omega), List.take_of_length_le (by rw [filsCells_len, List.length_take]; omega)]
   have e1 : c1.toList.take ((i + 1) * 5) = filsCells (l.take i) ++ filCells f := by
    rw [hc1, List.toList_toArray, e0, List.take_append_of_le_length (by simp only [List.length_append, filsCells_len, filCells_len, List.length_take]; omega), List.take_of_length_le (by simp only [List.length_append, filsCells_len, filCells_len, List.length_take]; omega)]
   rw [hc2, List.toList_toArray, e1, filsCells_app, filsCells_cons, ← hmv, ← List.append_assoc]
   have hlen : (filsCells (l.take i) ++ filCells f ++ mv).length = (n + 1) * 5 := by
    simp only [List.length_append, filsCells_len, filCells_len, hmvl, List.length_take]; omega
   rw [List.take_append_of_le_length (by omega), List.take_of_length_le (by omega)]
  ·refine ⟨by rw [hW1]; rfl, by rw [hW1]; rfl, by rw [hW1]; rfl, by rw [hW1]; simp [World.setRow], fun k hk hne => ?_⟩
   rw [setRow_other _ N k _ (by omega)]
   show (W1.setRow N c1).heap[k]? = _
   rw [setRow_other _ N k _ (by omega)]
   exact hO1 k (by omega)
 have HRZ := hide hrz
 have HCPA := hide hcpA
 have HCPB := hide hcpB
 have HEND := hide hend
 have z1 : ((i : Int) == (n : Int)) = false := by rw [beq_eq_false_iff_ne]; omega
 have e1 : IntKind.i64.wrap ((n : Int) + 1) = (n : Int) + 1 := IntWalk.i64_in _ ⟨by omega, by omega⟩
 have e2 : IntKind.i64.wrap ((i : Int) + 1) = (i : Int) + 1 := IntWalk.i64_in _ ⟨by omega, by omega⟩
 have e3 : IntKind.i64.wrap ((n : Int) + 1 - (i : Int)) = (n : Int) + 1 - (i : Int) := IntWalk.i64_in _ ⟨by omega, by omega⟩
 have z2 : (n : Int) < (n : Int) + 1 := by omega
 have z6 : (0 : Int) ≤ (i : Int) + 1 := by omega
 have z7 : ((i : Int) + 1).toNat = i + 1 := by omega
 have z8 : (i : Int) + 1 ≤ (n : Int) + 1 := by omega
 have z9 : i + 1 ≤ n + 1 := by omega
 have z10 : ¬ (G = i + 1) := by omega
 have z11 : ¬ (G = i) := by omega
 have z12 : (i : Int) ≤ (n : Int) := by omega
 have z13 : i ≤ n := by omega
 have z14 : i ≤ n + 1 := by omega
 have z15 : (i : Int) ≤ (n : Int) + 1 := by omega
 have z16 : ¬ (n = i) := by omega
 clear hrz hcpA hcpB hend hc1z hc1 hc2 hget hmvl hmv ht hown hsz hg hv hROW hRs hR1 hO1 hW1 hG hN
 go_enter Tryz.func75, Tryz.ntmps75
 have hcpa := unhide HCPA
 go_wp2_with (first
  | (at_builtin; refine Lib.wpList_append_run _ rfl _ _ _ _ rfl _ _ rfl rfl _ _ (unhide HRZ _) ?_)
  | (at_builtin; refine wpList_copy_runF _ rfl (.tmp 43) (.tmp 44) 31 31 rfl (.slice (some ⟨N, i * 5, none⟩) (n + 1 - i) (G - i)) (.slice (some ⟨H, 0, none⟩) 1 1) rfl rfl (hcpa _ _) ?_))
 go_region_law (refine step_copy_runF rfl (.tmp 50) (.tmp 53) 31 31 rfl (.slice (some ⟨N, (i + 1) * 5, none⟩) (n + 1 - (i + 1)) (G - (i + 1))) (.slice (some ⟨g, i * 5, none⟩) (n - i) (n - i)) (by simp [Act.eval, Act.put]) (by simp [Act.eval, Act.put]) (unhide HCPB _ _ _) ?_)
 go_wp2_with fail
 go_ret
 exact ⟨_, rfl, (unhide HEND).1, (unhide HEND).2⟩
theorem insertFil_any (v : Value) (n i : Nat) (l : List Fil) (base : Nat) (f : Fil) (H : Nat) (w : World) (hown : w.ownsRow base 61 5 v n (filsCells l)) (hn : n ≤ 1000) (hv : VarF w H f) (hne : v.ownBlock ≠ some H) (hi : i ≤ n) (hbase : base ≤ w.heap.size) :
  Calls Tryz.prog 75 #[v, I i, .slice (some ⟨H, 0, none⟩) 1 1] w fun e w' => ∃ v', e = .returned v' ∧ w'.ownsRow base 61 5 v' (n + 1) (filsCells (l.take i ++ f :: l.drop i)) ∧ w.grownBy w' v.ownBlock := by
 have hl := ownsFil_len hown
 by_cases he : i = n
 ·subst he
  have := insertFil_end v i l base f H w hown hn hv hbase
  rw [List.take_of_length_le (by omega), List.drop_of_length_le (by omega)]
  exact this
 ·rcases ownsFil_form hown with ⟨rfl, rfl, rfl⟩ | ⟨g, cap, rfl⟩
  ·omega
  ·obtain ⟨cur, hb, hg, hnc, hcm, hsz, ht⟩ := ownsFil_row hown
   by_cases hroom : n < cap
   ·exact insertFil_room g cap n i l base f H w hown hn hv (fun e => hne (by rw [e]; rfl)) (by omega) hroom
   ·obtain rfl : cap = n := by omega
    exact insertFil_grow g cap i l base f H w hown hn hv (by omega) hbase
end Go.Proofs.YtjpgoeimclipjaaGreat
namespace Go.Proofs.YtjpgoeimclipjaaGreat
open Go.RowKit Go.Lib Pl
attribute [local go_sem] ext_list app_list
set_option maxHeartbeats 2000000 in
set_option maxRecDepth 100000 in
theorem deleteFil_any (g cap n i : Nat) (l : List Fil) (base : Nat) (w : World) (hown : w.ownsRow base 61 5 (.slice (some ⟨g, 0, none⟩) n cap) n (filsCells l)) (hi : i < n) (hn : n ≤ 1000) :
  Calls Tryz.prog 76 #[.slice (some ⟨g, 0, none⟩) n cap, I i, I ((i : Int) + 1)] w fun e w' => e = .returned (.slice (some ⟨g, 0, none⟩) (n - 1) cap) ∧ w'.ownsRow base 61 5 (.slice (some ⟨g, 0, none⟩) (n - 1) cap) (n - 1) (filsCells (l.take i ++ l.drop (i + 1))) ∧ w.grownBy w' (some g) := by
 obtain ⟨cur, hb, hg, hnc, hcm, hsz, ht⟩ := ownsFil_row hown
 have hl := ownsFil_len hown
 obtain ⟨i0, hi0, hz0, hz1, hz2⟩ := info_parts info_fil
 have hc63 : cap ≤ 9223372036854775807 := by unfold maxLen at hcm; exact hcm
 -- what is moved to the left
 obtain ⟨news, hnews⟩ : ∃ news, news = filsCells (l.drop (i + 1)) := ⟨_, rfl⟩
 have hlen : news.length = (n - (i + 1)) * 5 := by rw [hnews, filsCells_len, List.length_drop, hl]
 have hget : ∀ j u, news[j]? = some u → w.cell? ⟨g, (i + 1) * 5 + j, none⟩ = some u := by
  intro j u hj
  rw [cell_of_row w g _ cur _ _ hg]
  rw [hnews, ← filsCells_drop (by omega), List.getElem?_drop, ← ht, List.getElem?_take] at hj
  split at hj
  ·simpa using hj
  ·cases hj
 obtain ⟨A, hA, hsrc⟩ : ∃ A : Addr, (if cap = i + 1 then some (⟨g, 0, none⟩ : Addr) else some ⟨g, (i + 1) * 5, none⟩) = some A ∧ Hid (∀ t u, news[t]? = some u → w.drew.cell? (A.add t) = some u) := by
  by_cases h : cap = i + 1
  ·refine ⟨⟨g, 0, none⟩, by simp [h], fun t u hu => ?_⟩
   have h0 : news.length = 0 := by rw [hlen]; omega
   rw [List.length_eq_zero_iff.1 h0] at hu
   simp at hu
  ·refine ⟨⟨g, (i + 1) * 5, none⟩, by simp [h], fun t u hu => ?_⟩
   rw [Addr.add_lit]
   exact hget t u hu
 have s1 : Hid (news.length = (n - (i + 1)) * 5) := hlen
 have s2 : Hid (∀ u ∈ news, u.oneCell' = true) := by rw [hnews]; exact filsCells_one _
 have s3 : Hid (∀ t, t < news.length → (w.drew.cell? ⟨g, 0 + i * 5 + t, none⟩).isSome = true ∧ w.drew.frozen? ⟨g, 0 + i * 5 + t, none⟩ = false) := by
  intro t ht2
  rw [hlen] at ht2
  refine ⟨?_, by show w.frozen? _ = false; simp [World.frozen?, hg]⟩
  show (w.cell? _).isSome = true
  rw [cell_of_row w g _ cur _ _ hg, Array.getElem?_eq_getElem (by omega)]; rfl
 obtain ⟨W1, hW1⟩ : ∃ W1, W1 = w.drew.setCells g (0 + i * 5) news := ⟨_, rfl⟩
 have hW : Hid (W1 = w.drew.setCells g (0 + i * 5) news) := hW1
 -- the row behind the append
 have hrow : ∃ c1 : Array Value, W1.heap[g]? = some (.cells c1 61 (0, 0)) ∧ c1.size = cap * 5 ∧ c1.toList.take ((n - 1) * 5) = filsCells (l.take i ++ l.drop (i + 1)) ∧ w.grownBy W1 (some g) := by
  have hst := run_storeCells_at Tryz.prog g (i * 5) 61 news 0 cur w.drew hg (by rw [hlen]; omega) s2
  have hst2 := run_storeCells_cells (P := Tryz.prog) g (i * 5) news 0 w.drew (fun j hj => by have := (s3 j hj).1; simpa using this) (fun j hj => by have := (s3 j hj).2; simpa using this) s2
  rw [hst] at hst2
  injection hst2 with _ hst2
  have e : W1 = w.drew.setRow g (cur.toList.take (i * 5) ++ news ++ cur.toList.drop (i * 5 + news.length)).toArray := by
   rw [hW1]; simpa using hst2.symm
  refine ⟨_, by rw [e]; exact setRow_heap _ _ _ _ _ _ hg, ?_, ?_, ?_⟩
  ·simp; omega
  ·simp only
   have e1 : cur.toList.take (i * 5) = filsCells (l.take i) := by
    rw [← filsCells_take (by omega), ← ht, List.take_take, Nat.min_eq_left (by omega)]
   rw [e1, filsCells_app, ← hnews, List.take_append_of_le_length (by rw [List.length_append, hlen, filsCells_len, List.length_take]; omega), List.take_of_length_le (by rw [List.length_append, hlen, filsCells_len, List.length_take]; omega)]
  ·rw [e]
   exact ⟨rfl, rfl, rfl, by simp [World.setRow], fun k hk hne => setRow_other w.drew g k _ (fun e => hne (by rw [e]))⟩
 obtain ⟨c1, k1, k2, k3, k4⟩ := hrow
 have hcl := fun ty c => run_clearF (w := W1) 31 ty Tryz.underlying31 g ((n - 1) * 5) c c1 k1 (by omega)
 obtain ⟨c2, hc2⟩ : ∃ c2, c2 = (c1.toList.take ((n - 1) * 5) ++ filCells ⟨[], 0, 0, 0, []⟩ ++ c1.toList.drop ((n - 1) * 5 + 5)).toArray := ⟨_, rfl⟩
 rw [← hc2] at hcl
 have hend : (W1.setRow g c2).ownsRow base 61 5 (.slice (some ⟨g, 0, none⟩) (n - 1) cap) (n - 1) (filsCells (l.take i ++ l.drop (i + 1))) ∧ w.grownBy (W1.setRow g c2) (some g) := by
  refine ⟨ownsFil_mk hb (setRow_heap _ _ _ _ _ _ k1) (by omega) hcm ?_ (by simp; omega) ?_, ?_⟩
  ·rw [hc2]; simp [filCells]; omega
  ·rw [hc2, List.toList_toArray, List.append_assoc, List.take_append_of_le_length (by simp; omega), List.take_take, Nat.min_self]; exact k3
  ·refine ⟨k4.os, k4.tape, k4.output, by simpa [World.setRow] using k4.size, fun k hk hne => ?_⟩
   rw [setRow_other W1 g k _ (fun e => hne (by rw [e]))]
   exact k4.block k hk hne
 have HEND := hide hend
 have HCL := hide hcl
 have d1 : ((i : Int) == (i : Int) + 1) = false := by rw [beq_eq_false_iff_ne]; omega
 have d2 : (i : Int) ≤ (i : Int) + 1 := by omega
 have d3 : (i : Int) + 1 ≤ (n : Int) := by omega
 have d4 : ((i : Int) + 1).toNat = i + 1 := by omega
 have d5 : i + (n - (i + 1)) = n - 1 := by omega
 have d6 : (0 : Int) ≤ (i : Int) + 1 := by omega
 have d7 : i ≤ i + 1 := by omega
 have d8 : i + 1 ≤ n := by omega
 have d9 : n - 1 ≤ n := by omega
 have d10 : n - (n - 1) = 1 := by omega
 have d11 : i ≤ cap := by omega
 have d12 : ¬ (cap = n - 1) := by omega
 have d13 : i ≤ n := by omega
 clear hend hcl hc2 k1 k2 k3 k4 hW1 hget hnews hlen ht hsz hown
 go_enter Tryz.func76, Tryz.ntmps76
 go_wp2_with fail
 go_region_law (refine step_append_room rfl (.tmp 22) (.tmp 25) 31 rfl 61 i0 5 Tryz.underlying31 hi0 hz1 g 0 i cap (by simp [Act.eval, Act.put]) A (n - (i + 1)) (cap - (i + 1)) news (by simp [Act.eval, Act.put]) s1.out hsrc.out s2.out (by omega) s3.out ?_; rw [← hW.out])
 have hcl := unhide HCL
 go_wp2_with fail
 go_ret
 exact ⟨rfl, unhide HEND⟩
end Go.Proofs.YtjpgoeimclipjaaGreat
namespace Go.Proofs.YtjpgoeimclipjaaGreat
open Go.RowKit Go.Lib Pl
attribute [local go_sem] ext_list app_list
def strS (t : Bytes) : Value := S t
structure OwnA (w : World) (base : Nat) (v1 v2 : Value) (a : Arc) : Prop where
 s : w.ownsRow base 9 1 v1 a.ds.length (a.ds.map strS)
 f : w.ownsRow base 61 5 v2 a.fs.length (filsCells a.fs)
theorem own_below {w w' : World} {base e size n : Nat} {v : Value} {xs : List Value} (h : w.ownsRow base e size v n xs) (hb : Below w.heap.size w w') : w'.ownsRow base e size v n xs := by
 refine ⟨h.1, ?_⟩
 rcases h.2 with hn | ⟨g, cap, cur, rfl, hbb, hgg, rest⟩
 ·exact .inl hn
 ·exact .inr ⟨g, cap, cur, rfl, hbb, (hb.block g (Array.getElem?_eq_some_iff.1 hgg).1).trans hgg, rest⟩
theorem own_mono {w : World} {base b e size n : Nat} {v : Value} {xs : List Value} (h : w.ownsRow base e size v n xs) (hb : b ≤ base) : w.ownsRow b e size v n xs := by
 refine ⟨h.1, ?_⟩
 rcases h.2 with hn | ⟨g, cap, cur, rfl, hbb, rest⟩
 ·exact .inl hn
 ·exact .inr ⟨g, cap, cur, rfl, Nat.le_trans hb hbb, rest⟩
theorem OwnA.below {w w' : World} {base : Nat} {v1 v2 : Value} {a : Arc} (h : OwnA w base v1 v2 a) (hb : Below w.heap.size w w') : OwnA w' base v1 v2 a := ⟨own_below h.s hb, own_below h.f hb⟩
theorem OwnA.nil (w : World) (base : Nat) : OwnA w base (.slice none 0 0) (.slice none 0 0) arc0 := ⟨World.ownsRow_nil _ _ _ _, World.ownsRow_nil _ _ _ _⟩
theorem strsAt_of_own {w : World} {base n : Nat} {v : Value} {l : List Bytes} (h : w.ownsRow base 9 1 v n (l.map strS)) : ∃ A cap, v = .slice A n cap ∧ StrsAt w w.heap.size A n l ∧ l.length = n := by
 have hn : l.length = n := by have := h.1; simpa using this
 rcases h.2 with ⟨rfl, h0⟩ | ⟨g, cap, cur, rfl, hb, hg, _⟩
 ·subst h0
  exact ⟨_, _, rfl, ⟨hn, fun h => absurd h (by omega)⟩, hn⟩
 ·refine ⟨_, _, rfl, ⟨hn, fun _ => ⟨g, 0, rfl, (Array.getElem?_eq_some_iff.1 hg).1, fun i t hi => ?_⟩⟩, hn⟩
  have := h.cells (g := g) rfl i (S t) (by rw [List.getElem?_map, hi]; rfl)
  rwa [Addr.add_lit] at this
theorem OwnA.form {w : World} {base : Nat} {v1 v2 : Value} {a : Arc} (h : OwnA w base v1 v2 a) : ∃ A cap A2 cap2, v1 = .slice A a.ds.length cap ∧ v2 = .slice A2 a.fs.length cap2 ∧ ArcIn w A a.ds.length A2 a.fs.length a := by
 obtain ⟨A, cap, e1, h1, _⟩ := strsAt_of_own h.s
 obtain ⟨A2, cap2, e2, h2, _⟩ := filsAt_of_own h.f
 exact ⟨A, cap, A2, cap2, e1, e2, ⟨h1, h2⟩⟩
def ArcRes (base : Nat) (r : Arc × Nat) (e : Ending) (w' : World) : Prop := ∃ v1 v2, e = .returned (.tuple #[.agg #[v1, v2], I r.2]) ∧ OwnA w' base v1 v2 r.1
theorem sizeArc : (Tryz.prog.info? 33).map (·.size) = some 2 := by kernel_rfl
theorem sizeFil : (Tryz.prog.info? 61).map (·.size) = some 5 := by kernel_rfl
theorem all_nil2 : (#[Value.slice none 0 0, Value.slice none 0 0] : Array Value).all (·.oneCell') = true := all_oneCell_toArray (cs := [.slice none 0 0, .slice none 0 0]) (by intro v hv; simp at hv; subst hv; rfl)
theorem cloneStr_any (A : Option Addr) (n cap : Nat) (l : List Bytes) (w : World) (hl : StrsAt w w.heap.size A n l) (hn : n ≤ 1000000) :
  Calls Tryz.prog 105 #[.slice A n cap] w fun e w' => ∃ v, e = .returned v ∧ w'.ownsRow w.heap.size 9 1 v n (l.map strS) ∧ Below w.heap.size w w' := by
 have hln := hl.1
 rcases Nat.eq_zero_or_pos n with h0 | h0
 ·subst h0
  obtain rfl : l = [] := List.eq_nil_of_length_eq_zero hln
  cases A with
  | none =>
   refine (Tryz.slices_Clone_string_nil 0 cap w).mono ?_
   rintro e w' ⟨rfl, rfl⟩
   exact ⟨_, rfl, World.ownsRow_nil _ _ _ _, Below.refl _ _⟩
  | some ad =>
   refine (Tryz.slices_Clone_string_zero ad cap w).mono ?_
   rintro e w' ⟨v, rfl, h1, _, h2⟩
   exact ⟨v, rfl, h1, h2⟩
 ·obtain ⟨b, off, rfl, hb, hc⟩ := hl.2 h0
  refine (Tryz.slices_Clone_string b off n cap (l.map fun t => ⟨t.toArray⟩) w (by simp; omega) (by omega) (fun j hj => ?_)).mono ?_
  ·have hj2 : j < l.length := by simpa using hj
   rw [hc j _ (List.getElem?_eq_getElem hj2), List.getD_eq_getElem?_getD, List.getElem?_map, List.getElem?_eq_getElem hj2]
   rfl
  ·rintro e w' ⟨v, rfl, h1, _, h2⟩
   refine ⟨v, rfl, ?_, h2⟩
   rw [List.take_of_length_le (by simp; omega), List.map_map] at h1
   exact h1
structure AR (A : Option Addr) (n cap : Nat) (A2 : Option Addr) (n2 cap2 : Nat) (a : Arc) (w W : World) (B : Nat) : Prop where
 ab : ABox A n cap A2 n2 cap2 a w W B
 z : W.heap[B + 1]? = some (.cells #[.slice none 0 0, .slice none 0 0] 33 (0, 0))
theorem AR.lt {A A2 : Option Addr} {n cap n2 cap2 : Nat} {a : Arc} {w W : World} {B : Nat} (h : AR A n cap A2 n2 cap2 a w W B) : B + 1 < W.heap.size := (Array.getElem?_eq_some_iff.1 h.z).1
theorem AR.below {A A2 : Option Addr} {n cap n2 cap2 : Nat} {a : Arc} {w W W1 : World} {B : Nat} (h : AR A n cap A2 n2 cap2 a w W B) (hb : Below W.heap.size W W1) : AR A n cap A2 n2 cap2 a w W1 B := ⟨h.ab.below hb, (hb.block _ h.lt).trans h.z⟩
theorem AR.new {A A2 : Option Addr} {n n2 : Nat} {a : Arc} {w : World} (h : ArcIn w A n A2 n2 a) (cap cap2 : Nat) : AR A n cap A2 n2 cap2 a w ((w.alloc (.cells #[.slice A n cap, .slice A2 n2 cap2] 33)).alloc (.cells #[.slice none 0 0, .slice none 0 0] 33)) w.heap.size :=
 ⟨(ABox.new h cap cap2).below ((Below.refl _ _).alloc (Nat.le_refl _) _), by have := heap_alloc_new (w.alloc (.cells #[.slice A n cap, .slice A2 n2 cap2] 33)) (.cells #[.slice none 0 0, .slice none 0 0] 33); simpa using this⟩
theorem AR.end_ {A A2 : Option Addr} {n cap n2 cap2 : Nat} {a : Arc} {w W : World} {B : Nat} (h : AR A n cap A2 n2 cap2 a w W B) (c : Array Value) : (W.setRow (B + 1) c).heap[B + 1]? = some (.cells c 33 (0, 0)) ∧ Below B w (W.setRow (B + 1) c) :=
 ⟨setRow_heap _ _ _ _ _ _ h.z, below_setRow h.ab.bel (by omega) _⟩
end Go.Proofs.YtjpgoeimclipjaaGreat
namespace Go.Proofs.YtjpgoeimclipjaaGreat
open Go.RowKit Go.Lib Pl
attribute [local go_sem] ext_list app_list
theorem set_two {W : World} {p : Nat} {x y : Value} {T : TypeId} (h : W.heap[p]? = some (.cells #[x, y] T (0, 0))) (u v : Value) : (W.setCell ⟨p, 0, none⟩ u).setCell ⟨p, 1, none⟩ v = W.setRow p #[u, v] := by
 rw [setCell_eq_setRow W p 0 #[x, y] T (0, 0) u h, setCell_eq_setRow _ p 1 (#[x, y].setIfInBounds 0 u) T (0, 0) v (setRow_heap _ _ _ _ _ _ h), setRow_setRow]
 rfl
theorem two_cells {W : World} {p : Nat} {x y : Value} {T : TypeId} (h : W.heap[p]? = some (.cells #[x, y] T (0, 0))) : W.cell? ⟨p, 0, none⟩ = some x ∧ W.cell? ⟨p, 1, none⟩ = some y ∧ W.frozen? ⟨p, 0, none⟩ = false ∧ W.frozen? ⟨p, 1, none⟩ = false := by
 refine ⟨by rw [cell_of_row _ _ _ _ _ _ h]; rfl, by rw [cell_of_row _ _ _ _ _ _ h]; rfl, by simp [World.frozen?, h], by simp [World.frozen?, h]⟩
structure CopK (A : Option Addr) (n cap : Nat) (A2 : Option Addr) (n2 cap2 : Nat) (B N : Nat) (w0 W : World) : Prop where
 a : W.cell? ⟨B, 0, none⟩ = some (.slice A n cap)
 b : W.cell? ⟨B, 1, none⟩ = some (.slice A2 n2 cap2)
 c : W.cell? ⟨B + 1, 0, none⟩ = some (.slice none 0 0)
 d : W.cell? ⟨B + 1, 1, none⟩ = some (.slice none 0 0)
 e : W.frozen? ⟨B + 1, 0, none⟩ = false
 f : W.frozen? ⟨B + 1, 1, none⟩ = false
 g : Below N w0 W
set_option maxHeartbeats 4000000 in
set_option maxRecDepth 100000 in
theorem copied_any (A : Option Addr) (n cap : Nat) (A2 : Option Addr) (n2 cap2 : Nat) (a : Arc) (w : World) (h : ArcIn w A n A2 n2 a) (hn : n ≤ 1000000) (hn2 : n2 ≤ 1000000) :
  Calls Tryz.prog 72 #[arcV A n cap A2 n2 cap2] w fun e w' => ∃ v1 v2, e = .returned (.agg #[v1, v2]) ∧ OwnA w' w.heap.size v1 v2 a ∧ Below w.heap.size w w' := by
 obtain ⟨B, hB⟩ : ∃ B, B = w.heap.size := ⟨_, rfl⟩
 obtain ⟨w0, hw0⟩ : ∃ w0, w0 = (w.alloc (.cells #[.slice A n cap, .slice A2 n2 cap2] 33)).alloc (.cells #[.slice none 0 0, .slice none 0 0] 33) := ⟨_, rfl⟩
 obtain ⟨N, hN⟩ : ∃ N, N = w0.heap.size := ⟨_, rfl⟩
 have hBN : B ≤ N := by rw [hN, hw0, hB]; simp; omega
 have h0 : AR A n cap A2 n2 cap2 a w w0 B := by rw [hw0, hB]; exact AR.new h cap cap2
 have kf : ∀ W, Below N w0 W → AR A n cap A2 n2 cap2 a w W B := fun W hW => h0.below (by rw [← hN]; exact hW)
 have kk : ∀ W, Below N w0 W → CopK A n cap A2 n2 cap2 B N w0 W := fun W hW => by
  have k := kf W hW
  obtain ⟨k1, k2⟩ := k.ab.c
  obtain ⟨k3, k4, k5, k6⟩ := two_cells k.z
  exact ⟨k1, k2, k3, k4, k5, k6, hW⟩
 have CS : ∀ W, Below N w0 W → Calls Tryz.prog 105 #[.slice A n cap] W fun e w' => ∃ A' cap', e = .returned (.slice A' n cap') ∧ w'.ownsRow B 9 1 (.slice A' n cap') n (a.ds.map strS) ∧ Below W.heap.size W w' ∧ CopK A n cap A2 n2 cap2 B N w0 w' := fun W hW => by
  have k := kf W hW
  refine (cloneStr_any A n cap a.ds W k.ab.i.s hn).mono ?_
  rintro e w' ⟨v, he, h1, h2⟩
  obtain ⟨A', cap', rfl, _⟩ := strsAt_of_own h1
  exact ⟨A', cap', he, own_mono h1 (Nat.le_of_lt k.ab.lt), h2, kk _ (hW.trans (h2.mono (by have := hW.size; omega)))⟩
 have CF : ∀ W, Below N w0 W → Calls Tryz.prog 89 #[.slice A2 n2 cap2] W fun e w' => ∃ A' cap', e = .returned (.slice A' n2 cap') ∧ w'.ownsRow B 61 5 (.slice A' n2 cap') n2 (filsCells a.fs) ∧ Below W.heap.size W w' ∧ CopK A n cap A2 n2 cap2 B N w0 w' := fun W hW => by
  have k := kf W hW
  refine (cloneFil_any A2 n2 cap2 a.fs W k.ab.i.f hn2).mono ?_
  rintro e w' ⟨v, he, h1, h2⟩
  obtain ⟨A', cap', rfl, _⟩ := filsAt_of_own h1
  exact ⟨A', cap', he, own_mono h1 (Nat.le_of_lt k.ab.lt), h2, kk _ (hW.trans (h2.mono (by have := hW.size; omega)))⟩
 have e0 : Below N w0 w0.drew := by rw [hN]; exact (Below.refl _ _).drew
 have fin : ∀ (W : World) (v1 v2 : Value), Below N w0 W → W.ownsRow B 9 1 v1 n (a.ds.map strS) → W.ownsRow B 61 5 v2 n2 (filsCells a.fs) → (W.setCell ⟨B + 1, 0, none⟩ v1).setCell ⟨B + 1, 1, none⟩ v2 = W.setRow (B + 1) #[v1, v2] ∧ (W.setRow (B + 1) #[v1, v2]).heap[B + 1]? = some (.cells #[v1, v2] 33 (0, 0)) ∧ OwnA (W.setRow (B + 1) #[v1, v2]) B v1 v2 a ∧ Below B w (W.setRow (B + 1) #[v1, v2]) := fun W v1 v2 hW o1 o2 => by
  have k := kf W hW
  have hne : ∀ {e size m : Nat} {v : Value} {xs : List Value}, W.ownsRow B e size v m xs → e ≠ 33 → (W.setRow (B + 1) #[v1, v2]).ownsRow B e size v m xs := by
   intro e size m v xs ho hne
   refine ⟨ho.1, ?_⟩
   rcases ho.2 with hn | ⟨g, cap, cur, rfl, hb, hg, rest⟩
   ·exact .inl hn
   ·refine .inr ⟨g, cap, cur, rfl, hb, ?_, rest⟩
    rw [setRow_other W (B + 1) g _ (fun e2 => ?_)]
    ·exact hg
    ·subst e2
     rw [k.z] at hg
     injection hg with hg
     injection hg with _ hg
     exact hne hg.symm
  refine ⟨set_two k.z v1 v2, (k.end_ _).1, ⟨?_, ?_⟩, (k.end_ _).2⟩
  ·rw [h.s.1]; exact hne o1 (by decide)
  ·rw [h.f.1]; exact hne o2 (by decide)
 have HB := hide hB
 have HW0 := hide hw0
 have CS := hide CS
 have CF := hide CF
 have E0 := hide e0
 have FIN := hide fin
 have k0 := kk _ (by rw [hN]; exact Below.refl _ _ : Below N w0 w0)
 clear hB hw0 kk kf h h0 e0 fin hBN hN
 rw [← unhide HB]
 go_enter Tryz.func72, Tryz.ntmps72
 go_upto_region 1 with fail
 rw [← unhide HW0, ← unhide HB]
 obtain ⟨a0, a1, a2, a3, a4, a5, a6⟩ := k0
 go_region_with (first
  | (go_at_call 105; refine (unhide CS _ (by first | assumption | exact unhide E0)).mono ?_; rintro e wS ⟨A', cap', rfl, hs1, hs2, ⟨s0, s1, s2, s3, s4, s5, s6⟩⟩; have HS1 := hide hs1; have HS2 := hide hs2; clear hs1 hs2)
  | (go_at_call 89; refine (unhide CF _ (by first | assumption | exact unhide E0)).mono ?_; rintro e wF ⟨A2', cap2', rfl, hf1, hf2, ⟨f0, f1, f2, f3, f4, f5, f6⟩⟩; have HF1 := hide hf1; have HF2 := hide hf2; clear hf1 hf2))
 all_goals
  first
   | (obtain ⟨g1, g2, g3, g4⟩ := unhide FIN wF _ _ f6 (own_below (unhide HS1) (unhide HF2)) (unhide HF1))
   | (obtain ⟨g1, g2, g3, g4⟩ := unhide FIN wS _ _ s6 (unhide HS1) (own_below (unhide HF1) (unhide HS2)))
  rw [g1]
  go_wp2_with fail
  refine bodyPost_ret (results_cell_row rfl _ _ (B + 1) 33 _ (0, 0) _ rfl g2 Tryz.underlying33 rfl sizeArc) rfl ⟨_, _, rfl, g3, g4⟩
end Go.Proofs.YtjpgoeimclipjaaGreat
namespace Go.Proofs.YtjpgoeimclipjaaGreat
open Go.RowKit Go.Lib Pl
attribute [local go_sem] ext_list app_list
theorem free_row (w : World) (b i : Nat) (c : Array Value) (t : TypeId) (h : w.heap[b]? = some (.cells c t (0, 0))) : w.frozen? ⟨b, i, none⟩ = false := by simp [World.frozen?, h]
theorem after_grown {w w1 : World} {base M n k : Nat} {o : Obj} {cs : Array Value} {fz : Nat × Nat} {v : Value} {xs : List Value} (hblk : w.heap[M]? = some (.cells cs 225 fz)) (hown : OwnM w base 5 1 v n xs)
  (hg : ((w.alloc o).drewN k).drew.grownBy w1 v.ownBlock) : w1.heap[M]? = some (.cells cs 225 fz) := by
 have hlt : M < w.heap.size := (Array.getElem?_eq_some_iff.1 hblk).1
 have h1 : M < ((w.alloc o).drewN k).drew.heap.size := by
  show M < (w.alloc o).heap.size
  simp; omega
 exact (hg.block M h1 (fun e => mk_far hblk hown e.symm)).trans ((Below.heap_alloc w o M hlt).trans hblk)
theorem below_drew_alloc (w : World) (o : Obj) (k : Nat) : Below w.heap.size w ((w.alloc o).drewN k).drew := (_root_.Go.below_drewN ((Below.refl _ _).alloc (Nat.le_refl _) o) k).drew
set_option maxHeartbeats 1000000 in
set_option maxRecDepth 100000 in
theorem tok_litok (base M d : Nat) (lit : Bool) (s l : Bytes) (far len : Int) (w : World) (hM : Mk w base M d lit s) (hd : d ≤ s.length) (hs : s.length ≤ d + 512) (hd2 : d ≤ 256)
  (hl : l ≠ []) (h0 : far = 0 ∧ len = 0 ∧ lit = false) (hr : l.length + (s.length - d) ≤ 512) :
  Calls Tryz.prog 181 #[.pointer (some ⟨M, 0, none⟩), .agg #[S l, I far, I len]] w fun e w' => e = .returned (I 0) ∧ Mk w' base M d true (s ++ l) ∧ Below base w w' ∧ Keeps badMk w w' := by
 obtain ⟨hbM, A, cap, hblk, hown⟩ := hM
 obtain ⟨rfl, rfl, rfl⟩ := h0
 have hlt : M < w.heap.size := (Array.getElem?_eq_some_iff.1 hblk).1
 have c0 : w.cell? ⟨M, 0, none⟩ = some (.slice A s.length cap) := by rw [cell_of_row w M 0 _ _ _ hblk]; rfl
 have c1 : w.cell? ⟨M, 1, none⟩ = some (.int .i64 d) := by rw [cell_of_row w M 1 _ _ _ hblk]; rfl
 have c2 : w.cell? ⟨M, 2, none⟩ = some (.bool false) := by rw [cell_of_row w M 2 _ _ _ hblk]; rfl
 have f0 : w.frozen? ⟨M, 0, none⟩ = false := by simp [World.frozen?, hblk]
 have f2 : w.frozen? ⟨M, 2, none⟩ = false := by simp [World.frozen?, hblk]
 have hl1 : l.isEmpty = false := by simpa using hl
 have hl2 : (l == []) = false := by simpa using hl
 have hk1 : (0 : Int) ≤ (s.length : Int) - (d : Int) := by omega
 have hk2 : (s.length : Int) - (d : Int) ≤ 512 := by omega
 have hbH : base ≤ w.heap.size := by omega
 have hk3 : (l.length : Int) ≤ 512 - ((s.length : Int) - (d : Int)) := by omega
 obtain ⟨i0, hi0, hz0, hz1, hz2⟩ := info_parts info_u8
 have hB := hide hblk
 have hO := hide hown
 clear hblk hown hl
 go_enter Tryz.func181, Tryz.ntmps181
 go_wp2_with fail
 go_quiet (fail)
 go_wp2_with fail
 go_region_law (refine step_append_M_string rfl _ _ _ _ rfl base 5 i0 Tryz.underlying77 Tryz.underlying9 hi0 hz0 hz1 hz2 _ s.length (s.map B) rfl (by first | exact ((unhide hO).alloc _).drew | exact (((unhide hO).alloc _).drewN _) | exact (((unhide hO).alloc _).drewN _).drew) ⟨l.toArray⟩ rfl (by show s.length + l.length ≤ 9223372036854775807; omega) (by show s.length + l.length ≤ 140737488355328; omega) (by show base ≤ (w.alloc _).heap.size; simp; omega) ?_; intro A1 cap1 w1 hown1 hgrow1 hat1; have hm1 := after_grown (unhide hB) (unhide hO) hgrow1; have c0' := cell_of_row w1 M 0 _ _ _ hm1; have c2' := cell_of_row w1 M 2 _ _ _ hm1; simp at c0' c2'; have f0' := free_row w1 M 0 _ _ hm1; have f2' := free_row w1 M 2 _ _ hm1)
 all_goals
  go_wp2_with fail
  go_ret
  refine ⟨rfl, ?_⟩
  rw [strCells_list, ← List.map_append] at hown1
  refine mk_end hbM (unhide hB) (unhide hO) (below_drew_alloc w _ _) hown1 hgrow1 ?_ (fun k hk => ?_) (by rw [size_setCell, size_setCell]) rfl rfl rfl
  ·rw [set_row (set_row hm1 _ _) _ _]; rfl
  ·rw [Below.heap_setCell _ _ _ _ hk, Below.heap_setCell _ _ _ _ hk]
set_option maxHeartbeats 1000000 in
set_option maxRecDepth 100000 in
theorem tok_form1 (base M d : Nat) (lit : Bool) (s : Bytes) (l : Bytes) (far len : Int) (w : World) (hM : Mk w base M d lit s) (hd : d ≤ s.length) (hs : s.length ≤ d + 512)
  (hl : l ≠ []) (h0 : far ≠ 0) :
  Calls Tryz.prog 181 #[.pointer (some ⟨M, 0, none⟩), .agg #[S l, I far, I len]] w fun e w' => e = .returned (I 1) ∧ Below base w w' ∧ Keeps badMk w w' := by
 obtain ⟨hbM, A, cap, hblk, hown⟩ := hM
 have hlt : M < w.heap.size := (Array.getElem?_eq_some_iff.1 hblk).1
 have c0 : w.cell? ⟨M, 0, none⟩ = some (.slice A s.length cap) := by rw [cell_of_row w M 0 _ _ _ hblk]; rfl
 have c1 : w.cell? ⟨M, 1, none⟩ = some (.int .i64 d) := by rw [cell_of_row w M 1 _ _ _ hblk]; rfl
 have c2 : w.cell? ⟨M, 2, none⟩ = some (.bool lit) := by rw [cell_of_row w M 2 _ _ _ hblk]; rfl
 have hk1 : (0 : Int) ≤ (s.length : Int) - (d : Int) := by omega
 have hk2 : (s.length : Int) - (d : Int) ≤ 512 := by omega
 have hbH : base ≤ w.heap.size := by omega
 have hl1 : l.isEmpty = false := by simpa using hl
 have hl2 : (l == []) = false := by simpa using hl
 clear hl
 have h1 : (far == 0) = false := beq_eq_false_iff_ne.2 h0
 have h2 : (far != 0) = true := by rw [bne_iff_ne]; exact h0
 clear h0
 clear hblk hown
 go_enter Tryz.func181, Tryz.ntmps181
 go_wp2_with fail
 go_quiet (fail)
 go_wp2_with fail
 go_ret
 first | exact ⟨rfl, _root_.Go.below_drewN ((Below.refl _ _).alloc hbH _) _, ((Keeps.refl _ _).alloc _).drewN _⟩ | exact ⟨rfl, _root_.Go.below_drewN (_root_.Go.below_drewN ((Below.refl _ _).alloc hbH _) _) _, (((Keeps.refl _ _).alloc _).drewN _).drewN _⟩
set_option maxHeartbeats 1000000 in
set_option maxRecDepth 100000 in
theorem tok_form2 (base M d : Nat) (lit : Bool) (s : Bytes) (l : Bytes) (far len : Int) (w : World) (hM : Mk w base M d lit s) (hd : d ≤ s.length) (hs : s.length ≤ d + 512)
  (hl : l ≠ []) (h0 : far = 0) (h9 : len ≠ 0) :
  Calls Tryz.prog 181 #[.pointer (some ⟨M, 0, none⟩), .agg #[S l, I far, I len]] w fun e w' => e = .returned (I 1) ∧ Below base w w' ∧ Keeps badMk w w' := by
 obtain ⟨hbM, A, cap, hblk, hown⟩ := hM
 have hlt : M < w.heap.size := (Array.getElem?_eq_some_iff.1 hblk).1
 have c0 : w.cell? ⟨M, 0, none⟩ = some (.slice A s.length cap) := by rw [cell_of_row w M 0 _ _ _ hblk]; rfl
 have c1 : w.cell? ⟨M, 1, none⟩ = some (.int .i64 d) := by rw [cell_of_row w M 1 _ _ _ hblk]; rfl
 have c2 : w.cell? ⟨M, 2, none⟩ = some (.bool lit) := by rw [cell_of_row w M 2 _ _ _ hblk]; rfl
 have hk1 : (0 : Int) ≤ (s.length : Int) - (d : Int) := by omega
 have hk2 : (s.length : Int) - (d : Int) ≤ 512 := by omega
 have hbH : base ≤ w.heap.size := by omega
 have hl1 : l.isEmpty = false := by simpa using hl
 have hl2 : (l == []) = false := by simpa using hl
 clear hl
 subst h0
 have h1 : (len == 0) = false := beq_eq_false_iff_ne.2 h9
 have h2 : (len != 0) = true := by rw [bne_iff_ne]; exact h9
 clear h9
 clear hblk hown
 go_enter Tryz.func181, Tryz.ntmps181
 go_wp2_with fail
 go_quiet (fail)
 go_wp2_with fail
 go_ret
 first | exact ⟨rfl, _root_.Go.below_drewN ((Below.refl _ _).alloc hbH _) _, ((Keeps.refl _ _).alloc _).drewN _⟩ | exact ⟨rfl, _root_.Go.below_drewN (_root_.Go.below_drewN ((Below.refl _ _).alloc hbH _) _) _, (((Keeps.refl _ _).alloc _).drewN _).drewN _⟩
set_option maxHeartbeats 1000000 in
set_option maxRecDepth 100000 in
theorem tok_form3 (base M d : Nat) (lit : Bool) (s : Bytes) (l : Bytes) (far len : Int) (w : World) (hM : Mk w base M d lit s) (hd : d ≤ s.length) (hs : s.length ≤ d + 512)
  (hl : l ≠ []) (h0 : far = 0) (h9 : len = 0) (h8 : lit = true) :
  Calls Tryz.prog 181 #[.pointer (some ⟨M, 0, none⟩), .agg #[S l, I far, I len]] w fun e w' => e = .returned (I 1) ∧ Below base w w' ∧ Keeps badMk w w' := by
 obtain ⟨hbM, A, cap, hblk, hown⟩ := hM
 have hlt : M < w.heap.size := (Array.getElem?_eq_some_iff.1 hblk).1
 have c0 : w.cell? ⟨M, 0, none⟩ = some (.slice A s.length cap) := by rw [cell_of_row w M 0 _ _ _ hblk]; rfl
 have c1 : w.cell? ⟨M, 1, none⟩ = some (.int .i64 d) := by rw [cell_of_row w M 1 _ _ _ hblk]; rfl
 have c2 : w.cell? ⟨M, 2, none⟩ = some (.bool lit) := by rw [cell_of_row w M 2 _ _ _ hblk]; rfl
 have hk1 : (0 : Int) ≤ (s.length : Int) - (d : Int) := by omega
 have hk2 : (s.length : Int) - (d : Int) ≤ 512 := by omega
 have hbH : base ≤ w.heap.size := by omega
 have hl1 : l.isEmpty = false := by simpa using hl
 have hl2 : (l == []) = false := by simpa using hl
 clear hl
 subst h0 h9 h8
 clear hblk hown
 go_enter Tryz.func181, Tryz.ntmps181
 go_wp2_with fail
 go_quiet (fail)
 go_wp2_with fail
 go_ret
 first | exact ⟨rfl, _root_.Go.below_drewN ((Below.refl _ _).alloc hbH _) _, ((Keeps.refl _ _).alloc _).drewN _⟩ | exact ⟨rfl, _root_.Go.below_drewN (_root_.Go.below_drewN ((Below.refl _ _).alloc hbH _) _) _, (((Keeps.refl _ _).alloc _).drewN _).drewN _⟩
set_option maxHeartbeats 1000000 in
set_option maxRecDepth 100000 in
theorem tok_many (base M d : Nat) (lit : Bool) (s : Bytes) (l : Bytes) (far len : Int) (w : World) (hM : Mk w base M d lit s) (hd : d ≤ s.length) (hs : s.length ≤ d + 512)
  (hl : l ≠ []) (h0 : far = 0) (h9 : len = 0) (h8 : lit = false) (hr : 512 < l.length + (s.length - d)) :
  Calls Tryz.prog 181 #[.pointer (some ⟨M, 0, none⟩), .agg #[S l, I far, I len]] w fun e w' => e = .returned (I 2) ∧ Below base w w' ∧ Keeps badMk w w' := by
 obtain ⟨hbM, A, cap, hblk, hown⟩ := hM
 have hlt : M < w.heap.size := (Array.getElem?_eq_some_iff.1 hblk).1
 have c0 : w.cell? ⟨M, 0, none⟩ = some (.slice A s.length cap) := by rw [cell_of_row w M 0 _ _ _ hblk]; rfl
 have c1 : w.cell? ⟨M, 1, none⟩ = some (.int .i64 d) := by rw [cell_of_row w M 1 _ _ _ hblk]; rfl
 have c2 : w.cell? ⟨M, 2, none⟩ = some (.bool lit) := by rw [cell_of_row w M 2 _ _ _ hblk]; rfl
 have hk1 : (0 : Int) ≤ (s.length : Int) - (d : Int) := by omega
 have hk2 : (s.length : Int) - (d : Int) ≤ 512 := by omega
 have hbH : base ≤ w.heap.size := by omega
 have hl1 : l.isEmpty = false := by simpa using hl
 have hl2 : (l == []) = false := by simpa using hl
 clear hl
 subst h0 h9 h8
 have hk3 : 512 - ((s.length : Int) - (d : Int)) < (l.length : Int) := by omega
 clear hblk hown
 go_enter Tryz.func181, Tryz.ntmps181
 go_wp2_with fail
 go_quiet (fail)
 go_wp2_with fail
 go_ret
 first | exact ⟨rfl, _root_.Go.below_drewN ((Below.refl _ _).alloc hbH _) _, ((Keeps.refl _ _).alloc _).drewN _⟩ | exact ⟨rfl, _root_.Go.below_drewN (_root_.Go.below_drewN ((Below.refl _ _).alloc hbH _) _) _, (((Keeps.refl _ _).alloc _).drewN _).drewN _⟩
set_option maxHeartbeats 1000000 in
set_option maxRecDepth 100000 in
theorem tok_copy1 (base M d : Nat) (lit : Bool) (s : Bytes) (l : Bytes) (far len : Int) (w : World) (hM : Mk w base M d lit s) (hd : d ≤ s.length) (hs : s.length ≤ d + 512)
  (hl : l = []) (h0 : len < 3) :
  Calls Tryz.prog 181 #[.pointer (some ⟨M, 0, none⟩), .agg #[S l, I far, I len]] w fun e w' => e = .returned (I 1) ∧ Below base w w' ∧ Keeps badMk w w' := by
 obtain ⟨hbM, A, cap, hblk, hown⟩ := hM
 have hlt : M < w.heap.size := (Array.getElem?_eq_some_iff.1 hblk).1
 have c0 : w.cell? ⟨M, 0, none⟩ = some (.slice A s.length cap) := by rw [cell_of_row w M 0 _ _ _ hblk]; rfl
 have c1 : w.cell? ⟨M, 1, none⟩ = some (.int .i64 d) := by rw [cell_of_row w M 1 _ _ _ hblk]; rfl
 have c2 : w.cell? ⟨M, 2, none⟩ = some (.bool lit) := by rw [cell_of_row w M 2 _ _ _ hblk]; rfl
 have hk1 : (0 : Int) ≤ (s.length : Int) - (d : Int) := by omega
 have hk2 : (s.length : Int) - (d : Int) ≤ 512 := by omega
 have hbH : base ≤ w.heap.size := by omega
 subst hl
 have e1 : decide (len < 3) = true := by simpa using h0
 clear hblk hown
 go_enter Tryz.func181, Tryz.ntmps181
 go_wp2_with fail
 go_quiet (fail)
 go_wp2_with fail
 go_quiet (fail)
 go_wp2_with fail
 go_ret
 first | exact ⟨rfl, _root_.Go.below_drewN ((Below.refl _ _).alloc hbH _) _, ((Keeps.refl _ _).alloc _).drewN _⟩ | exact ⟨rfl, _root_.Go.below_drewN (_root_.Go.below_drewN ((Below.refl _ _).alloc hbH _) _) _, (((Keeps.refl _ _).alloc _).drewN _).drewN _⟩
set_option maxHeartbeats 1000000 in
set_option maxRecDepth 100000 in
theorem tok_copy2 (base M d : Nat) (lit : Bool) (s : Bytes) (l : Bytes) (far len : Int) (w : World) (hM : Mk w base M d lit s) (hd : d ≤ s.length) (hs : s.length ≤ d + 512)
  (hl : l = []) (h0 : 64 < len) :
  Calls Tryz.prog 181 #[.pointer (some ⟨M, 0, none⟩), .agg #[S l, I far, I len]] w fun e w' => e = .returned (I 1) ∧ Below base w w' ∧ Keeps badMk w w' := by
 obtain ⟨hbM, A, cap, hblk, hown⟩ := hM
 have hlt : M < w.heap.size := (Array.getElem?_eq_some_iff.1 hblk).1
 have c0 : w.cell? ⟨M, 0, none⟩ = some (.slice A s.length cap) := by rw [cell_of_row w M 0 _ _ _ hblk]; rfl
 have c1 : w.cell? ⟨M, 1, none⟩ = some (.int .i64 d) := by rw [cell_of_row w M 1 _ _ _ hblk]; rfl
 have c2 : w.cell? ⟨M, 2, none⟩ = some (.bool lit) := by rw [cell_of_row w M 2 _ _ _ hblk]; rfl
 have hk1 : (0 : Int) ≤ (s.length : Int) - (d : Int) := by omega
 have hk2 : (s.length : Int) - (d : Int) ≤ 512 := by omega
 have hbH : base ≤ w.heap.size := by omega
 subst hl
 have e1 : decide (len < 3) = false := by simp; omega
 have e2 : decide (64 < len) = true := by simpa using h0
 clear hblk hown
 go_enter Tryz.func181, Tryz.ntmps181
 go_wp2_with fail
 go_quiet (fail)
 go_wp2_with fail
 go_quiet (fail)
 go_wp2_with fail
 go_ret
 first | exact ⟨rfl, _root_.Go.below_drewN ((Below.refl _ _).alloc hbH _) _, ((Keeps.refl _ _).alloc _).drewN _⟩ | exact ⟨rfl, _root_.Go.below_drewN (_root_.Go.below_drewN ((Below.refl _ _).alloc hbH _) _) _, (((Keeps.refl _ _).alloc _).drewN _).drewN _⟩
set_option maxHeartbeats 1000000 in
set_option maxRecDepth 100000 in
theorem tok_copy3 (base M d : Nat) (lit : Bool) (s : Bytes) (l : Bytes) (far len : Int) (w : World) (hM : Mk w base M d lit s) (hd : d ≤ s.length) (hs : s.length ≤ d + 512)
  (hl : l = []) (h0 : 3 ≤ len) (h1 : len ≤ 64) (h2 : far < 1) :
  Calls Tryz.prog 181 #[.pointer (some ⟨M, 0, none⟩), .agg #[S l, I far, I len]] w fun e w' => e = .returned (I 1) ∧ Below base w w' ∧ Keeps badMk w w' := by
 obtain ⟨hbM, A, cap, hblk, hown⟩ := hM
 have hlt : M < w.heap.size := (Array.getElem?_eq_some_iff.1 hblk).1
 have c0 : w.cell? ⟨M, 0, none⟩ = some (.slice A s.length cap) := by rw [cell_of_row w M 0 _ _ _ hblk]; rfl
 have c1 : w.cell? ⟨M, 1, none⟩ = some (.int .i64 d) := by rw [cell_of_row w M 1 _ _ _ hblk]; rfl
 have c2 : w.cell? ⟨M, 2, none⟩ = some (.bool lit) := by rw [cell_of_row w M 2 _ _ _ hblk]; rfl
 have hk1 : (0 : Int) ≤ (s.length : Int) - (d : Int) := by omega
 have hk2 : (s.length : Int) - (d : Int) ≤ 512 := by omega
 have hbH : base ≤ w.heap.size := by omega
 subst hl
 have e1 : decide (len < 3) = false := by simp; omega
 have e2 : decide (64 < len) = false := by simp; omega
 have e3 : decide (far < 1) = true := by simpa using h2
 clear hblk hown
 go_enter Tryz.func181, Tryz.ntmps181
 go_wp2_with fail
 go_quiet (fail)
 go_wp2_with fail
 go_quiet (fail)
 go_wp2_with fail
 go_ret
 first | exact ⟨rfl, _root_.Go.below_drewN ((Below.refl _ _).alloc hbH _) _, ((Keeps.refl _ _).alloc _).drewN _⟩ | exact ⟨rfl, _root_.Go.below_drewN (_root_.Go.below_drewN ((Below.refl _ _).alloc hbH _) _) _, (((Keeps.refl _ _).alloc _).drewN _).drewN _⟩
set_option maxHeartbeats 1000000 in
set_option maxRecDepth 100000 in
theorem tok_copy4 (base M d : Nat) (lit : Bool) (s : Bytes) (l : Bytes) (far len : Int) (w : World) (hM : Mk w base M d lit s) (hd : d ≤ s.length) (hs : s.length ≤ d + 512)
  (hl : l = []) (h0 : 3 ≤ len) (h1 : len ≤ 64) (h2 : 1 ≤ far) (h3 : (s.length : Int) < far) :
  Calls Tryz.prog 181 #[.pointer (some ⟨M, 0, none⟩), .agg #[S l, I far, I len]] w fun e w' => e = .returned (I 1) ∧ Below base w w' ∧ Keeps badMk w w' := by
 obtain ⟨hbM, A, cap, hblk, hown⟩ := hM
 have hlt : M < w.heap.size := (Array.getElem?_eq_some_iff.1 hblk).1
 have c0 : w.cell? ⟨M, 0, none⟩ = some (.slice A s.length cap) := by rw [cell_of_row w M 0 _ _ _ hblk]; rfl
 have c1 : w.cell? ⟨M, 1, none⟩ = some (.int .i64 d) := by rw [cell_of_row w M 1 _ _ _ hblk]; rfl
 have c2 : w.cell? ⟨M, 2, none⟩ = some (.bool lit) := by rw [cell_of_row w M 2 _ _ _ hblk]; rfl
 have hk1 : (0 : Int) ≤ (s.length : Int) - (d : Int) := by omega
 have hk2 : (s.length : Int) - (d : Int) ≤ 512 := by omega
 have hbH : base ≤ w.heap.size := by omega
 subst hl
 have e1 : decide (len < 3) = false := by simp; omega
 have e2 : decide (64 < len) = false := by simp; omega
 have e3 : decide (far < 1) = false := by simp; omega
 have e4 : decide ((s.length : Int) < far) = true := by simpa using h3
 clear hblk hown
 go_enter Tryz.func181, Tryz.ntmps181
 go_wp2_with fail
 go_quiet (fail)
 go_wp2_with fail
 go_quiet (fail)
 go_wp2_with fail
 go_ret
 first | exact ⟨rfl, _root_.Go.below_drewN ((Below.refl _ _).alloc hbH _) _, ((Keeps.refl _ _).alloc _).drewN _⟩ | exact ⟨rfl, _root_.Go.below_drewN (_root_.Go.below_drewN ((Below.refl _ _).alloc hbH _) _) _, (((Keeps.refl _ _).alloc _).drewN _).drewN _⟩
set_option maxHeartbeats 1000000 in
set_option maxRecDepth 100000 in
theorem tok_copy5 (base M d : Nat) (lit : Bool) (s : Bytes) (l : Bytes) (far len : Int) (w : World) (hM : Mk w base M d lit s) (hd : d ≤ s.length) (hs : s.length ≤ d + 512)
  (hl : l = []) (h0 : 3 ≤ len) (h1 : len ≤ 64) (h2 : 1 ≤ far) (h3 : far ≤ (s.length : Int)) (hr : 512 < len + ((s.length - d : Nat) : Int)) :
  Calls Tryz.prog 181 #[.pointer (some ⟨M, 0, none⟩), .agg #[S l, I far, I len]] w fun e w' => e = .returned (I 2) ∧ Below base w w' ∧ Keeps badMk w w' := by
 obtain ⟨hbM, A, cap, hblk, hown⟩ := hM
 have hlt : M < w.heap.size := (Array.getElem?_eq_some_iff.1 hblk).1
 have c0 : w.cell? ⟨M, 0, none⟩ = some (.slice A s.length cap) := by rw [cell_of_row w M 0 _ _ _ hblk]; rfl
 have c1 : w.cell? ⟨M, 1, none⟩ = some (.int .i64 d) := by rw [cell_of_row w M 1 _ _ _ hblk]; rfl
 have c2 : w.cell? ⟨M, 2, none⟩ = some (.bool lit) := by rw [cell_of_row w M 2 _ _ _ hblk]; rfl
 have hk1 : (0 : Int) ≤ (s.length : Int) - (d : Int) := by omega
 have hk2 : (s.length : Int) - (d : Int) ≤ 512 := by omega
 have hbH : base ≤ w.heap.size := by omega
 subst hl
 have e1 : decide (len < 3) = false := by simp; omega
 have e2 : decide (64 < len) = false := by simp; omega
 have e3 : decide (far < 1) = false := by simp; omega
 have e4 : decide ((s.length : Int) < far) = false := by simp; omega
 have hk3 : 512 - ((s.length : Int) - (d : Int)) < len := by omega
 clear hblk hown
 go_enter Tryz.func181, Tryz.ntmps181
 go_wp2_with fail
 go_quiet (fail)
 go_wp2_with fail
 go_quiet (fail)
 go_wp2_with fail
 go_ret
 first | exact ⟨rfl, _root_.Go.below_drewN ((Below.refl _ _).alloc hbH _) _, ((Keeps.refl _ _).alloc _).drewN _⟩ | exact ⟨rfl, _root_.Go.below_drewN (_root_.Go.below_drewN ((Below.refl _ _).alloc hbH _) _) _, (((Keeps.refl _ _).alloc _).drewN _).drewN _⟩
end Go.Proofs.YtjpgoeimclipjaaGreat
namespace Go.Proofs.YtjpgoeimclipjaaGreat
open Go.RowKit Go.Lib Pl
attribute [local go_sem] ext_list app_list
set_option maxHeartbeats 1000000 in
set_option maxRecDepth 100000 in
theorem tok_copyok (base M d : Nat) (lit : Bool) (s : Bytes) (far len : Nat) (w : World) (hM : Mk w base M d lit s) (hd : d ≤ s.length) (hs : s.length ≤ d + 512) (hd2 : d ≤ 256)
  (h0 : 3 ≤ len) (h1 : len ≤ 64) (h2 : 1 ≤ far) (h3 : far ≤ s.length) (hr : len + (s.length - d) ≤ 512) :
  Calls Tryz.prog 181 #[.pointer (some ⟨M, 0, none⟩), .agg #[S [], I far, I len]] w fun e w' => e = .returned (I 0) ∧ Mk w' base M d false (copyB len far s) ∧ Below base w w' ∧ Keeps badMk w w' := by
 have hM0 := hM
 obtain ⟨hbM, A, cap, hblk, hown⟩ := hM
 have hlt : M < w.heap.size := (Array.getElem?_eq_some_iff.1 hblk).1
 have c0 : w.cell? ⟨M, 0, none⟩ = some (.slice A s.length cap) := by rw [cell_of_row w M 0 _ _ _ hblk]; rfl
 have c1 : w.cell? ⟨M, 1, none⟩ = some (.int .i64 d) := by rw [cell_of_row w M 1 _ _ _ hblk]; rfl
 have hk1 : (0 : Int) ≤ (s.length : Int) - (d : Int) := by omega
 have hk2 : (s.length : Int) - (d : Int) ≤ 512 := by omega
 have hbH : base ≤ w.heap.size := by omega
 have e1 : decide ((len : Int) < 3) = false := by simp; omega
 have e2 : decide (64 < (len : Int)) = false := by simp; omega
 have e3 : decide ((far : Int) < 1) = false := by simp; omega
 have e4 : decide ((s.length : Int) < (far : Int)) = false := by simp; omega
 have e5 : decide (s.length < far) = false := by simp; omega
 have hk3 : (len : Int) ≤ 512 - ((s.length : Int) - (d : Int)) := by omega
 have HM := hide hM0
 obtain ⟨i0, hi0, hz0, hz1, hz2⟩ := info_parts info_u8
 clear hblk hown hM0
 go_enter Tryz.func181, Tryz.ntmps181
 go_wp2_with fail
 go_quiet (fail)
 go_wp2_with fail
 go_quiet (fail)
 go_wp2_with fail
 clear e1 e2 e3 e4 e5 c0 c1
 go_loopw [82] (fun i wr => ∃ k : Nat, k ≤ len ∧ i = .int .i64 k ∧ Mk wr base M d lit (copyB k far s) ∧ Below base w wr ∧ Keeps badMk w wr ∧ wr.heap[w.heap.size]? = some (.cells #[S [], I far, I len] 183 (0, 0)))
  (fun i _ => len - (intOf i).toNat)
 case atStart =>
  refine ⟨0, by omega, rfl, ?_, ?_, ?_, ?_⟩
  ·obtain ⟨a1, A, cap, a2, a3⟩ := unhide HM
   exact ⟨a1, A, cap, (Below.heap_alloc w _ M hlt).trans a2, (a3.alloc _)⟩
  ·exact _root_.Go.below_drewN ((Below.refl _ _).alloc hbH _) _
  ·exact ((Keeps.refl _ _).alloc _).drewN _
  ·exact heap_alloc_new w _
 case round =>
  obtain ⟨k, hk, rfl, hMk, hbel, hkeep, hpar⟩ := hrel
  have hlen := copyB_len k far s
  obtain ⟨s', hs'⟩ : ∃ s', s' = copyB k far s := ⟨_, rfl⟩
  rw [← hs'] at hlen hMk
  have hMk' := hMk
  obtain ⟨_, A1, cap1, hblk1, hown1⟩ := hMk
  have hMlt1 : M < wr.heap.size := (Array.getElem?_eq_some_iff.1 hblk1).1
  have c0 : wr.cell? ⟨M, 0, none⟩ = some (.slice A1 s'.length cap1) := by rw [cell_of_row wr M 0 _ _ _ hblk1]; rfl
  have c2 : wr.cell? ⟨M, 2, none⟩ = some (.bool lit) := by rw [cell_of_row wr M 2 _ _ _ hblk1]; rfl
  have p1 : wr.cell? ⟨w.heap.size, 1, none⟩ = some (I far) := by rw [cell_of_row wr _ 1 _ _ _ hpar]; rfl
  have p2 : wr.cell? ⟨w.heap.size, 2, none⟩ = some (I len) := by rw [cell_of_row wr _ 2 _ _ _ hpar]; rfl
  have f0 : wr.frozen? ⟨M, 0, none⟩ = false := by simp [World.frozen?, hblk1]
  have f2 : wr.frozen? ⟨M, 2, none⟩ = false := by simp [World.frozen?, hblk1]
  have hln : (s'.length : Int) = (s.length : Int) + k := by omega
  have HL := hide hln
  have hb3 : s'.length ≤ 832 := by omega
  by_cases hlk : k < len
  ·obtain ⟨j, hj⟩ : ∃ j : Nat, j = s'.length - far := ⟨_, rfl⟩
   have hjlt : j < s'.length := by omega
   have hj2 : ((s'.length : Int) - (far : Int)).toNat = j := by omega
   have hj3 : (0 : Int) ≤ (s'.length : Int) - (far : Int) := by omega
   have hj4 : (s'.length : Int) - (far : Int) < (s'.length : Int) := by omega
   obtain ⟨g, capg, u, hv, hbg, hu, hcell⟩ := hown1.at_ (k := j) (by omega)
   injection hv with hvA _ hvc
   subst hvA hvc
   obtain ⟨c, hc⟩ : ∃ c, s'[j]? = some c := ⟨_, List.getElem?_eq_getElem hjlt⟩
   have huc : u = B c := by
    rw [List.getElem?_map, hc] at hu; simpa using hu.symm
   subst huc
   have HS := hide hs'
   have HJ := hide hj
   have HC := hide hc
   have HB := hide hblk1
   have HO := hide hown1
   have HP := hide hpar
   clear hlen hs' hj hu hblk1 hown1 hpar hln hc
   go_wp2_with fail
   go_quiet (fail)
   go_wp2_with (at_builtin; refine wpList_push_M rfl _ _ _ rfl base 5 i0 _ 1 Tryz.underlying77 hi0 hz0 hz1 hz2 rfl _ s'.length (s'.map B) rfl _ _ (by exact (unhide HO).drewN _) rfl rfl (by unfold maxLen; omega) (by omega) (by show base ≤ wr.heap.size; omega) ?_; intro g1 cap2 w1 hown1 hg1 hat1; have hm1 := mk_after (unhide HB) (unhide HO) (below_drewN_alloc wr _ _) hg1; have c0' := cell_of_row w1 M 0 _ _ _ hm1; simp at c0'; have f0' := free_row w1 M 0 _ _ hm1)
   have hend := mk_end (w2 := w1.setCell ⟨M, 0, none⟩ (.slice (some ⟨g1, 0, none⟩) (s'.length + 1) cap2)) (s1 := s' ++ [c]) hbM (unhide HB) (unhide HO) (below_drewN_alloc wr _ _) (by simpa using hown1) hg1 (by rw [set_row hm1]; rfl) (fun k hk => Below.heap_setCell _ _ _ _ hk) (size_setCell _ _ _) rfl rfl rfl
   obtain ⟨n1, n2, n3⟩ := hend
   clear hown1 hg1 hat1 hm1 c0' f0'
   go_roundw
   case rel =>
    refine ⟨k + 1, by omega, by go_num, ?_, hbel.trans n2, hkeep.trans n3, n3.block _ _ (unhide HP) rfl⟩
    rw [copyB_snoc, ← unhide HS, ← unhide HJ]
    have : s'.getD j 0 = c := by rw [List.getD_eq_getElem?_getD, unhide HC]; rfl
    rw [this]; exact n1
   case measure => simp [intOf]; omega
  ·have hkl : k = len := by omega
   have HS := hide hs'
   have HB := hide hblk1
   have HO := hide hown1
   have HK := hide hkl
   clear hlen hs' hblk1 hown1 hpar hln hkl
   go_wp2_with fail
   go_ret
   rw [← unhide HK, ← unhide HS]
   refine ⟨rfl, ⟨hbM, A1, cap1, (set_row (unhide HB) _ _), (unhide HO).setCell (mk_far (unhide HB) (unhide HO)) _⟩, hbel.trans ?_, hkeep.trans ((Keeps.refl _ _).setCell _ (unhide HB) rfl)⟩
   exact (Below.refl _ _).setCell hbM _
end Go.Proofs.YtjpgoeimclipjaaGreat
namespace Go.Proofs.YtjpgoeimclipjaaGreat
open Go.RowKit Go.Lib Pl
theorem tok_any (base M d : Nat) (lit : Bool) (s : Bytes) (t : Tok) (w : World) (hM : Mk w base M d lit s) (hd : d ≤ s.length) (hs : s.length ≤ d + 512) (hd2 : d ≤ 256) :
  Calls Tryz.prog 181 #[.pointer (some ⟨M, 0, none⟩), TokV t] w fun e w' =>
   e = .returned (I (tokE d s lit t)) ∧ (tokE d s lit t = 0 → Mk w' base M d (isLit t) (tokS s t)) ∧ Below base w w' ∧ Keeps badMk w w' := by
 obtain ⟨l, far, len⟩ := t
 have noz : ∀ (n : Nat) (P : Prop), n ≠ 0 → (n = 0 → P) := fun n P h h2 => absurd h2 h
 by_cases hl : l = []
 ·subst hl
  by_cases h1 : len < 3
  ·have e : tokE d s lit ⟨[], far, len⟩ = 1 := by simp [tokE, h1]
   rw [e]; exact (tok_copy1 base M d lit s [] far len w hM hd hs rfl h1).mono fun _ _ ⟨a, b⟩ => ⟨a, noz _ _ (by omega), b⟩
  by_cases h2 : 64 < len
  ·have e : tokE d s lit ⟨[], far, len⟩ = 1 := by simp [tokE, h2]
   rw [e]; exact (tok_copy2 base M d lit s [] far len w hM hd hs rfl h2).mono fun _ _ ⟨a, b⟩ => ⟨a, noz _ _ (by omega), b⟩
  by_cases h3 : far < 1
  ·have e : tokE d s lit ⟨[], far, len⟩ = 1 := by simp [tokE, h3]
   rw [e]; exact (tok_copy3 base M d lit s [] far len w hM hd hs rfl (by omega) (by omega) h3).mono fun _ _ ⟨a, b⟩ => ⟨a, noz _ _ (by omega), b⟩
  by_cases h4 : (s.length : Int) < far
  ·have e : tokE d s lit ⟨[], far, len⟩ = 1 := by simp [tokE, h4]
   rw [e]; exact (tok_copy4 base M d lit s [] far len w hM hd hs rfl (by omega) (by omega) (by omega) h4).mono fun _ _ ⟨a, b⟩ => ⟨a, noz _ _ (by omega), b⟩
  have hbad : ¬ (len < 3 ∨ 64 < len ∨ far < 1 ∨ (s.length : Int) < far) := by omega
  by_cases h5 : 512 < len + ((s.length - d : Nat) : Int)
  ·have e : tokE d s lit ⟨[], far, len⟩ = 2 := by
    unfold tokE
    rw [if_neg (by simp), if_neg hbad, if_pos h5]
   rw [e]; exact (tok_copy5 base M d lit s [] far len w hM hd hs rfl (by omega) (by omega) (by omega) (by omega) h5).mono fun _ _ ⟨a, b⟩ => ⟨a, noz _ _ (by omega), b⟩
  ·have e : tokE d s lit ⟨[], far, len⟩ = 0 := by
    unfold tokE
    rw [if_neg (by simp), if_neg hbad, if_neg h5]
   obtain ⟨f', rfl⟩ := Int.eq_ofNat_of_zero_le (show 0 ≤ far by omega)
   obtain ⟨n', rfl⟩ := Int.eq_ofNat_of_zero_le (show 0 ≤ len by omega)
   rw [e]
   refine (tok_copyok base M d lit s f' n' w hM hd hs hd2 (by omega) (by omega) (by omega) (by omega) (by omega)).mono fun _ _ ⟨a, b, c⟩ => ⟨a, fun _ => ?_, c⟩
   simpa [isLit, tokS] using b
 ·by_cases h1 : far = 0
  ·by_cases h2 : len = 0
   ·by_cases h3 : lit = true
    ·have e : tokE d s lit ⟨l, far, len⟩ = 1 := by simp [tokE, hl, h3]
     rw [e]; exact (tok_form3 base M d lit s l far len w hM hd hs hl h1 h2 h3).mono fun _ _ ⟨a, b⟩ => ⟨a, noz _ _ (by omega), b⟩
    ·have h3 : lit = false := by simpa using h3
     by_cases h4 : 512 < l.length + (s.length - d)
     ·have e : tokE d s lit ⟨l, far, len⟩ = 2 := by simp [tokE, hl, h1, h2, h3, h4]
      rw [e]; exact (tok_many base M d lit s l far len w hM hd hs hl h1 h2 h3 h4).mono fun _ _ ⟨a, b⟩ => ⟨a, noz _ _ (by omega), b⟩
     ·have e : tokE d s lit ⟨l, far, len⟩ = 0 := by simp [tokE, hl, h1, h2, h3]; omega
      rw [e]
      refine (tok_litok base M d lit s l far len w hM hd hs hd2 hl ⟨h1, h2, h3⟩ (by omega)).mono fun _ _ ⟨a, b, c⟩ => ⟨a, fun _ => ?_, c⟩
      have e1 : l.isEmpty = false := by simpa using hl
      simpa [isLit, tokS, hl, e1] using b
   ·have e : tokE d s lit ⟨l, far, len⟩ = 1 := by simp [tokE, hl, h2]
    rw [e]; exact (tok_form2 base M d lit s l far len w hM hd hs hl h1 h2).mono fun _ _ ⟨a, b⟩ => ⟨a, noz _ _ (by omega), b⟩
  ·have e : tokE d s lit ⟨l, far, len⟩ = 1 := by simp [tokE, hl, h1]
   rw [e]; exact (tok_form1 base M d lit s l far len w hM hd hs hl h1).mono fun _ _ ⟨a, b⟩ => ⟨a, noz _ _ (by omega), b⟩
theorem tokS_len {d : Nat} {s : Bytes} {lit : Bool} {t : Tok} (h : tokE d s lit t = 0) (hs : s.length ≤ d + 512) (hd : d ≤ s.length) : d ≤ (tokS s t).length ∧ (tokS s t).length ≤ d + 512 ∧ s.length < (tokS s t).length := by
 obtain ⟨l, far, len⟩ := t
 unfold tokE at h
 unfold tokS
 by_cases hl : l = []
 ·subst hl
  simp only [ne_eq, not_true_eq_false, if_false] at h ⊢
  rw [copyB_len]
  by_cases h1 : len < 3 ∨ 64 < len ∨ far < 1 ∨ (s.length : Int) < far
  ·rw [if_pos h1] at h; cases h
  ·rw [if_neg h1] at h
   by_cases h2 : 512 < len + ((s.length - d : Nat) : Int)
   ·rw [if_pos h2] at h; cases h
   ·omega
 ·have hlp : 0 < l.length := List.length_pos_iff.2 hl
  simp only [ne_eq, hl, not_false_eq_true, if_true] at h ⊢
  rw [List.length_append]
  by_cases h1 : far ≠ 0 ∨ len ≠ 0 ∨ lit = true
  ·rw [if_pos h1] at h; cases h
  ·rw [if_neg h1] at h
   by_cases h2 : 512 < l.length + (s.length - d)
   ·rw [if_pos h2] at h; cases h
   ·omega
end Go.Proofs.YtjpgoeimclipjaaGreat
namespace Go.Proofs.YtjpgoeimclipjaaGreat
open Go.RowKit Go.Lib Pl
def ToksAt (w : World) (Bd : Nat) (A : Option Addr) (n : Nat) (l : List Tok) : Prop :=
 l.length = n ∧ (0 < n → ∃ b off, A = some ⟨b, off, none⟩ ∧ b < Bd ∧ ∀ i t, l[i]? = some t →
  w.cell? ⟨b, off + i * 3, none⟩ = some (S t.lit) ∧ w.cell? ⟨b, off + i * 3 + 1, none⟩ = some (I t.far) ∧ w.cell? ⟨b, off + i * 3 + 2, none⟩ = some (I t.len))
theorem ToksAt.keep {w w' : World} {Bd n : Nat} {A : Option Addr} {l : List Tok} (h : ToksAt w Bd A n l) (hk : ∀ p : Addr, p.block < Bd → w'.cell? p = w.cell? p) : ToksAt w' Bd A n l :=
 ⟨h.1, fun hn => by
  obtain ⟨b, off, e, hb, hc⟩ := h.2 hn
  refine ⟨b, off, e, hb, fun i t hi => ?_⟩
  obtain ⟨h1, h2, h3⟩ := hc i t hi
  exact ⟨(hk _ hb).trans h1, (hk _ hb).trans h2, (hk _ hb).trans h3⟩⟩
theorem ToksAt.below {w w' : World} {Bd n : Nat} {A : Option Addr} {l : List Tok} (h : ToksAt w Bd A n l) (hb : Below Bd w w') : ToksAt w' Bd A n l := h.keep fun _ hp => hb.cell hp
theorem ToksAt.at_ {w : World} {Bd n k : Nat} {A : Option Addr} {l : List Tok} (h : ToksAt w Bd A n l) (hk : k < n) : ∃ b off t, A = some ⟨b, off, none⟩ ∧ b < Bd ∧ l[k]? = some t ∧
  w.cell? ⟨b, off + k * 3, none⟩ = some (S t.lit) ∧ w.cell? ⟨b, off + k * 3 + 1, none⟩ = some (I t.far) ∧ w.cell? ⟨b, off + k * 3 + 2, none⟩ = some (I t.len) := by
 obtain ⟨b, off, e, hb, hc⟩ := h.2 (by omega)
 have hl : k < l.length := by have := h.1; omega
 exact ⟨b, off, l[k], e, hb, List.getElem?_eq_getElem hl, hc k _ (List.getElem?_eq_getElem hl)⟩
end Go.Proofs.YtjpgoeimclipjaaGreat
namespace Go.Proofs.YtjpgoeimclipjaaGreat
open Go.RowKit Go.Lib Pl
def tokCells (t : Tok) : List Value := [S t.lit, I t.far, I t.len]
def toksCells (l : List Tok) : List Value := l.flatMap tokCells
theorem toksCells_len (l : List Tok) : (toksCells l).length = l.length * 3 := by
 induction l with
 | nil => rfl
 | cons t l ih => simp [toksCells, tokCells] at ih ⊢; omega
theorem toksCells_snoc (l : List Tok) (t : Tok) : toksCells (l ++ [t]) = toksCells l ++ tokCells t := by simp [toksCells]
theorem toksCells_get : ∀ (l : List Tok) (i : Nat) (t : Tok), l[i]? = some t → (toksCells l)[i * 3]? = some (S t.lit) ∧ (toksCells l)[i * 3 + 1]? = some (I t.far) ∧ (toksCells l)[i * 3 + 2]? = some (I t.len)
 | [], i, t, h => by simp at h
 | u :: l, 0, t, h => by simp at h; subst h; simp [toksCells, tokCells]
 | u :: l, i + 1, t, h => by
  have h' : l[i]? = some t := by simpa using h
  obtain ⟨a, b, c⟩ := toksCells_get l i t h'
  have e : toksCells (u :: l) = tokCells u ++ toksCells l := by simp [toksCells]
  have hl : (tokCells u).length = 3 := rfl
  rw [e]
  refine ⟨?_, ?_, ?_⟩
  ·rw [List.getElem?_append_right (by omega), hl, show (i + 1) * 3 - 3 = i * 3 from by omega]; exact a
  ·rw [List.getElem?_append_right (by omega), hl, show (i + 1) * 3 + 1 - 3 = i * 3 + 1 from by omega]; exact b
  ·rw [List.getElem?_append_right (by omega), hl, show (i + 1) * 3 + 2 - 3 = i * 3 + 2 from by omega]; exact c
theorem info_tok : (Tryz.prog.info? 183).map (fun i => (i.zero, i.size, i.bytes)) = some (some (.agg #[.string ByteArray.empty, .int .i64 0, .int .i64 0]), 3, 32) := by kernel_rfl
theorem toksAt_of_own {w : World} {base n : Nat} {v : Value} {l : List Tok} (h : w.ownsRow base 183 3 v n (toksCells l)) : ∃ A cap, v = .slice A n cap ∧ ToksAt w w.heap.size A n l ∧ l.length = n := by
 have hn : l.length = n := by have := h.1; rw [toksCells_len] at this; omega
 rcases h.2 with ⟨rfl, h0⟩ | ⟨g, cap, cur, rfl, hb, hg, _⟩
 ·subst h0
  exact ⟨_, _, rfl, ⟨hn, fun h => absurd h (by omega)⟩, hn⟩
 ·refine ⟨_, _, rfl, ⟨hn, fun _ => ⟨g, 0, rfl, (Array.getElem?_eq_some_iff.1 hg).1, fun i t hi => ?_⟩⟩, hn⟩
  obtain ⟨a, b, c⟩ := toksCells_get l i t hi
  have hc := h.cells (g := g) rfl
  have e : ∀ j, (⟨g, 0, none⟩ : Addr).add j = ⟨g, 0 + j, none⟩ := fun j => by unfold Addr.add; split <;> simp_all
  have h0 := hc _ _ a
  have h1 := hc _ _ b
  have h2 := hc _ _ c
  rw [e] at h0 h1 h2
  exact ⟨h0, by rw [← h1, Nat.add_assoc], by rw [← h2, Nat.add_assoc]⟩
theorem own_slice {w : World} {base e size n : Nat} {v : Value} {xs : List Value} (h : w.ownsRow base e size v n xs) : ∃ A cap, v = .slice A n cap := by
 rcases h.2 with ⟨rfl, rfl⟩ | ⟨g, cap, cur, rfl, _⟩
 ·exact ⟨_, _, rfl⟩
 ·exact ⟨_, _, rfl⟩
theorem cells3_new (w : World) (x y z : Value) (t : TypeId) : ∀ j u, [x, y, z][j]? = some u → (w.alloc (.cells #[x, y, z] t)).cell? ((⟨w.heap.size, 0, none⟩ : Addr).add j) = some u := by
 intro j u hj
 have e : (⟨w.heap.size, 0, none⟩ : Addr).add j = ⟨w.heap.size, j, none⟩ := by unfold Addr.add; split <;> simp_all
 rw [e, World.cell?_alloc_new]
 simpa using hj
theorem wpList_push_tok {w : World} {ops : Array Oper} {rest : List Oper} {o : Oper} {a : Act} {Q : Exit → Act → World → Prop} (hgd : o.guard = none) (s x : Operand)
  (ho : o.op = .call { callee := .builtin .append, args := #[s, x], argTypes := #[147, 147] })
  (base : Nat) (v : Value) (n : Nat) (l : List Tok) (hs : a.eval s = v) (hown : w.ownsRow base 183 3 v n (toksCells l)) (b : Bytes) (f m : Int)
  (hx : a.eval x = .slice (some ⟨w.heap.size, 0, none⟩) 1 1)
  (hn : n ≤ 1000000) (hbase : base ≤ w.heap.size)
  (h : ∀ A' cap' w', w'.ownsRow base 183 3 (.slice A' (n + 1) cap') (n + 1) (toksCells (l ++ [⟨b, f, m⟩])) → Below base w w' → (w.alloc (.cells #[S b, I f, I m] 183)).grownBy w' v.ownBlock → wpList Tryz.prog ops Q rest (a.put o.dst (.slice A' (n + 1) cap')) w') :
  wpList Tryz.prog ops Q (o :: rest) a (w.alloc (.cells #[S b, I f, I m] 183)) := by
 obtain ⟨i0, hi, hz0, hz1, hz2⟩ := info_parts info_tok
 refine wpList_append_own _ hgd s x _ ho base 183 i0 _ 3 32 Tryz.underlying147 hi hz0 hz1 hz2 rfl (by decide) v n (toksCells l) hs (hown.alloc _) ⟨w.heap.size, 0, none⟩ 1 1 [S b, I f, I m] hx rfl (cells3_new _ _ _ _ _) ?_ (by unfold maxLen; omega) (by omega) (by simp; omega) ?_
 ·intro y hy
  simp at hy
  rcases hy with rfl | rfl | rfl <;> rfl
 ·intro v' w' hown' hg _
  have hown2 : w'.ownsRow base 183 3 v' (n + 1) (toksCells (l ++ [⟨b, f, m⟩])) := by
   rw [toksCells_snoc]; exact hown'
  obtain ⟨A', cap', rfl, _⟩ := toksAt_of_own hown2
  refine h A' cap' w' hown2 ?_ hg
  exact ((Below.refl _ _).alloc hbase _).grown hg (by simp; omega) (fun k hk => (hown.lt k hk).1)
theorem wpList_push_tok_at {w : World} {ops : Array Oper} {rest : List Oper} {o : Oper} {a : Act} {Q : Exit → Act → World → Prop} (hgd : o.guard = none) (s x : Operand)
  (ho : o.op = .call { callee := .builtin .append, args := #[s, x], argTypes := #[147, 147] })
  (base : Nat) (v : Value) (n : Nat) (l : List Tok) (hs : a.eval s = v) (hown : w.ownsRow base 183 3 v n (toksCells l)) (b : Bytes) (f m : Int)
  (H : Nat) (hH : w.heap.size = H) (hx : a.eval x = .slice (some ⟨H, 0, none⟩) 1 1)
  (hn : n ≤ 1000000) (hbase : base ≤ w.heap.size)
  (h : ∀ A' cap' w', w'.ownsRow base 183 3 (.slice A' (n + 1) cap') (n + 1) (toksCells (l ++ [⟨b, f, m⟩])) → Below base w w' → (w.alloc (.cells #[S b, I f, I m] 183)).grownBy w' v.ownBlock → wpList Tryz.prog ops Q rest (a.put o.dst (.slice A' (n + 1) cap')) w') :
  wpList Tryz.prog ops Q (o :: rest) a (w.alloc (.cells #[S b, I f, I m] 183)) := by
 subst hH
 exact wpList_push_tok hgd s x ho base v n l hs hown b f m hx hn hbase h
end Go.Proofs.YtjpgoeimclipjaaGreat
namespace Go.Proofs.YtjpgoeimclipjaaGreat
open Go.RowKit Go.Lib Pl
def has (t : Tr) (i : Nat) : Bool := decide (i ∈ t.2)
def encR (t : Tr) : List Value := [.bool (has t 0), .bool (has t 1), .bool (has t 2), .bool (has t 3), .bool (has t 4), .bool (has t 5), .bool (has t 6), .bool (has t 7), .bool (has t 8), .bool (has t 9), .bool (has t 10), .bool (has t 11), .bool (has t 12), .bool (has t 13), .bool (has t 14), .bool (has t 15), I t.1]
abbrev VR (t : Tr) : Value := .agg (encR t).toArray
theorem encR_len (t : Tr) : (encR t).length = 17 := rfl
theorem encR_get (t : Tr) {j : Nat} (h : j < 16) : (encR t)[j]? = some (.bool (has t j)) := by
 match j, h with
 | 0, _ => rfl | 1, _ => rfl | 2, _ => rfl | 3, _ => rfl | 4, _ => rfl | 5, _ => rfl | 6, _ => rfl | 7, _ => rfl
 | 8, _ => rfl | 9, _ => rfl | 10, _ => rfl | 11, _ => rfl | 12, _ => rfl | 13, _ => rfl | 14, _ => rfl | 15, _ => rfl
 | n + 16, h => exact absurd h (by omega)
theorem encR_w (t : Tr) : (encR t)[16]? = some (I t.1) := rfl
theorem has_hd {t : Tr} (h : VT t) : has t (hd t) = true := by unfold has; simpa using hd_mem h
theorem has_lt {t : Tr} (h : VT t) {j : Nat} (hj : j < hd t) : has t j = false := by
 unfold has
 rw [decide_eq_false_iff_not]
 intro hm
 have h2 := h.asc
 unfold hd at hj
 cases e : t.2 with
 | nil => rw [e] at hm; simp at hm
 | cons x l =>
  rw [e] at hm hj h2
  have h3 := List.pairwise_cons.1 h2
  simp at hj
  rcases List.mem_cons.1 hm with rfl | hm
  ·omega
  ·have := h3.1 j hm; omega
set_option maxHeartbeats 1000000 in
set_option maxRecDepth 100000 in
theorem leastSign_any (t : Tr) (w : World) (hv : VT t) :
  Calls Tryz.prog 178 #[VR t] w fun e w' => e = .returned (I (hd t)) ∧ w' = w.alloc (.cells (encR t).toArray 219) := by
 have hg := heap_alloc_new w (.cells (encR t).toArray 219)
 have h16 := hv.lt _ (hd_mem hv)
 have HH := hide (has_hd hv)
 have HL := hide (fun j => @has_lt t hv j)
 obtain ⟨d, hd'⟩ : ∃ d, d = hd t := ⟨_, rfl⟩
 rw [← hd'] at h16 HH HL ⊢
 obtain ⟨w0, hw0⟩ : ∃ w0, w0 = w.alloc (.cells (encR t).toArray 219) := ⟨_, rfl⟩
 obtain ⟨cs, hcs⟩ : ∃ cs, cs = (encR t).toArray := ⟨_, rfl⟩
 rw [← hw0] at hg ⊢
 have HG := hide hg
 have HW := hide hw0
 have HC := hide hcs
 rw [← hcs] at hw0
 show Calls Tryz.prog 178 #[.agg (encR t).toArray] w _
 rw [← hcs]
 clear hd' hv hg hcs
 go_enter Tryz.func178, Tryz.ntmps178
 go_wp2_with fail
 rw [← hw0]
 clear hw0
 go_loop [3] (fun i => ∃ k : Nat, k ≤ d ∧ i = .int .i64 k) (fun i => 16 - (intOf i).toNat)
 case atStart => exact ⟨0, by omega, rfl⟩
 case round =>
  obtain ⟨k, hk, rfl⟩ := hrel
  have hc : w0.cell? ⟨w.heap.size, k, none⟩ = some (.bool (has t k)) := by
   rw [cell_of_row _ _ _ _ _ _ (unhide HG), List.getElem?_toArray]; exact encR_get t (by omega)
  have d1 : decide ((k : Int) < 16) = true := by rw [decide_eq_true_eq]; omega
  by_cases hkd : k = d
  ·rw [hkd, unhide HH, ← hkd] at hc
   have HKD := hide hkd
   clear hkd
   go_wp2_with fail
   go_ret
   rw [← unhide HKD]
   exact ⟨rfl, rfl⟩
  ·rw [unhide HL k (by omega)] at hc
   have hk2 : k + 1 ≤ d := by omega
   clear hkd
   go_wp2_with fail
   go_round
   case rel => exact ⟨k + 1, hk2, by go_num⟩
   case measure => simp [intOf]; omega
theorem keyLt_ne {a b : Tr} (h : a.1 ≠ b.1) : keyLt a b = decide (a.1 < b.1) := by
 have := keyLt_iff a b
 cases hk : keyLt a b with
 | true =>
  have h2 := this.1 hk
  symm; rw [decide_eq_true_eq]; omega
 | false =>
  symm; rw [decide_eq_false_iff_not]
  intro h3
  have := this.2 (.inl (by omega))
  rw [hk] at this; cases this
theorem keyLt_eq {a b : Tr} (h : a.1 = b.1) : keyLt a b = decide (hd a < hd b) := by
 have := keyLt_iff a b
 cases hk : keyLt a b with
 | true =>
  have h2 := this.1 hk
  symm; rw [decide_eq_true_eq]; omega
 | false =>
  symm; rw [decide_eq_false_iff_not]
  intro h3
  have := this.2 (.inr ⟨h, by omega⟩)
  rw [hk] at this; cases this
def CR (w : World) (g : Nat) (t : Tr) : Prop := ∀ j v, (encR t)[j]? = some v → w.cell? ⟨g, j, none⟩ = some v
abbrev litP (p : Nat → Bool) (m : Nat) : Array Value := #[.bool (p 0), .bool (p 1), .bool (p 2), .bool (p 3), .bool (p 4), .bool (p 5), .bool (p 6), .bool (p 7), .bool (p 8), .bool (p 9), .bool (p 10), .bool (p 11), .bool (p 12), .bool (p 13), .bool (p 14), .bool (p 15), I (m : Nat)]
def CP (w : World) (g : Nat) (p : Nat → Bool) (m : Nat) : Prop := w.heap[g]? = some (.cells (litP p m) 219 (0, 0))
theorem CP.alloc {w : World} {g m : Nat} {p : Nat → Bool} (h : CP w g p m) (o : Obj) : CP (w.alloc o) g p m := (Below.heap_alloc w o g (Array.getElem?_eq_some_iff.1 h).1).trans h
theorem CP.cell {w : World} {g m : Nat} {p : Nat → Bool} (h : CP w g p m) (j : Nat) (v : Value) (hv : (litP p m)[j]? = some v) : w.cell? ⟨g, j, none⟩ = some v := by
 rw [cell_of_row _ _ _ _ _ _ h]; exact hv
theorem sizeP : (Tryz.prog.info? 219).map (·.size) = some 17 := by kernel_rfl
theorem yieldsIf_load_R {ops : Array Oper} {S : World → Prop} {op : Oper} {a : Act} (hw : Region.wanted op (yielded ops a.tmps) = true) (x : Operand) (ho : op.op = .load 219 x)
  (g : Nat) (hx : a.eval x = .pointer (some ⟨g, 0, none⟩)) {p : Nat → Bool} {m : Nat} (hS : ∀ w, S w → CP w g p m) : YieldsIf Tryz.prog ops S op (.agg (litP p m)) a :=
 .inl ⟨hw, fun w hw' => by
  unfold execOp
  simp only [ho, hx, Instr.loadAt, Instr.sureAddr, Sem.run_bind, Sem.run_pure, Result.andThen_ok, run_loadVar_row w g 219 219 (litP p m) (0, 0) _ (hS w hw') Tryz.underlying219 rfl sizeP]⟩
abbrev LS (p : Nat → Bool) (m d : Nat) : Prop := ∀ W : World, Calls Tryz.prog 178 #[.agg (litP p m)] W fun e w' => e = .returned (I (d : Nat)) ∧ w' = W.alloc (.cells (litP p m) 219)
set_option maxHeartbeats 2000000 in
set_option maxRecDepth 100000 in
theorem lighter_raw (p q : Nat → Bool) (m n da db : Nat) (w : World) (ha : LS p m da) (hb : LS q n db) :
  Calls Tryz.prog 203 #[.agg (litP p m), .agg (litP q n)] w fun e w' => e = .returned (.bool (if m = n then decide (da < db) else decide (m < n))) ∧ Below w.heap.size w w' := by
 obtain ⟨B0, hB⟩ : ∃ B0, B0 = w.heap.size := ⟨_, rfl⟩
 obtain ⟨w0, hw0⟩ : ∃ w0, w0 = (w.alloc (.cells (litP p m) 219)).alloc (.cells (litP q n) 219) := ⟨_, rfl⟩
 have h1 : CP w0 B0 p m := by subst hB; rw [hw0]; exact heap_alloc2_old _ _ _
 have h2 : CP w0 (B0 + 1) q n := by subst hB; rw [hw0]; exact heap_alloc2_new _ _ _
 have h3 : Below B0 w w0 := by subst hB; rw [hw0]; exact ((Below.refl _ _).alloc (Nat.le_refl _) _).alloc (by simp) _
 have h4 : w0.heap.size = B0 + 2 := by subst hB; rw [hw0]; simp
 have HC := hide (And.intro h1 h2)
 have H3 := hide h3
 have H4 := hide h4
 have HB := hide hB
 have KA := hide ha
 have KBB := hide hb
 clear h1 h2 h3 h4 hB ha hb
 have a16 : w0.cell? ⟨B0, 16, none⟩ = some (I (m : Nat)) := (unhide HC).1.cell 16 _ rfl
 have b16 : w0.cell? ⟨B0 + 1, 16, none⟩ = some (I (n : Nat)) := (unhide HC).2.cell 16 _ rfl
 go_enter Tryz.func203, Tryz.ntmps203
 go_upto_region 1 with fail
 rw [← hw0, ← unhide HB]
 clear hw0
 by_cases hne : m = n
 ·have z1 : ((m : Int) != (n : Int)) = false := by rw [hne]; simp
  have z2 : (m != n) = false := by rw [hne]; simp
  have HNE := hide hne
  clear hne
  go_wp2_with fail
  refine wp_region_noPanic ?_
  refine wp_region_held_drew (S := fun w' => CP w' B0 p m ∧ CP w' (B0 + 1) q n) (by kernel_rfl) (unhide HC) (fun hHeld => ?_)
  refine wpAnyH_take (i := 0) (oi := _) (v := .agg (litP p m)) rfl (by kernel_rfl) (by kernel_rfl) (by kernel_rfl) (fun _ _ _ h => h) (yieldsIf_load_R rfl _ rfl B0 rfl fun w h => h.1) hHeld ?_
  try simp only [Act.put, List.setIfInBounds_toArray]
  refine wpAnyH_take (i := 2) (oi := _) (v := .agg (litP q n)) rfl (by kernel_rfl) (by kernel_rfl) (by kernel_rfl) (fun _ _ _ h => h) (yieldsIf_load_R rfl _ rfl (B0 + 1) rfl fun w h => h.2) hHeld ?_
  try simp only [Act.put]
  refine wpAnyH_ready (rs := [1]) (by kernel_rfl) (by simp) ?_
  refine AllReadyH.cons (o := _) rfl (fun K hK => ?_) AllReadyH.nil
  go_simp
  refine (unhide KA _).mono ?_
  rintro e w1 ⟨rfl, rfl⟩
  refine hK.out _ _ ⟨hHeld.1.alloc _, hHeld.2.alloc _⟩ (fun hHeld2 => ?_)
  clear hK K hHeld
  try simp only [Act.put, List.setIfInBounds_toArray, List.set_cons_zero, List.set_cons_succ]
  refine wpAnyH_ready (rs := [3]) (by kernel_rfl) (by simp) ?_
  refine AllReadyH.cons (o := _) rfl (fun K hK => ?_) AllReadyH.nil
  go_simp
  refine (unhide KBB _).mono ?_
  rintro e w1 ⟨rfl, rfl⟩
  refine hK.out _ _ ⟨hHeld2.1.alloc _, hHeld2.2.alloc _⟩ (fun hHeld3 => ?_)
  clear hK K hHeld2
  try simp only [Act.put, List.setIfInBounds_toArray, List.set_cons_zero, List.set_cons_succ]
  refine wpAnyH_take (i := 4) (oi := _) (v := .bool (decide (da < db))) rfl (by kernel_rfl) (by kernel_rfl) (by kernel_rfl) (fun _ _ _ h => h) (Or.inl ⟨rfl, fun w _ => by go_simp⟩) hHeld3 ?_
  try simp only [Act.put, List.setIfInBounds_toArray]
  refine wpAnyH_take (i := 5) (oi := _) (v := .bool (decide (da < db))) rfl (by kernel_rfl) (by kernel_rfl) (by kernel_rfl) (fun _ _ _ h => h) (Or.inl ⟨rfl, fun w _ => by go_simp⟩) hHeld3 ?_
  try simp only [Act.put]
  refine wpAnyH_done (by kernel_rfl) ?_ _
  refine NoPanic.normal ?_
  all_goals
   go_wp2_with fail
   go_ret
   rw [← unhide HB]
   refine ⟨rfl, ?_⟩
   have hl := unhide H4
   refine Below.drew (Below.alloc ?_ ?_ _)
   ·exact (unhide H3).alloc (by omega) _
   ·simp; omega
 ·have z1 : ((m : Int) != (n : Int)) = true := by rw [bne_iff_ne]; omega
  have z2 : (m != n) = true := by rw [bne_iff_ne]; exact hne
  have HNE := hide hne
  clear hne
  go_wp2_with fail
  go_ret
  rw [← unhide HB]
  exact ⟨rfl, unhide H3⟩
theorem keyLt_if (a b : Tr) : keyLt a b = if a.1 = b.1 then decide (hd a < hd b) else decide (a.1 < b.1) := by
 split
 ·exact keyLt_eq ‹_›
 ·exact keyLt_ne ‹_›
theorem lighter_any (a b : Tr) (w : World) (ha : VT a) (hb : VT b) :
  Calls Tryz.prog 203 #[VR a, VR b] w fun e w' => e = .returned (.bool (keyLt a b)) ∧ Below w.heap.size w w' := by
 rw [keyLt_if]
 exact lighter_raw (has a) (has b) a.1 b.1 (hd a) (hd b) w (fun W => leastSign_any a W ha) (fun W => leastSign_any b W hb)
end Go.Proofs.YtjpgoeimclipjaaGreat
