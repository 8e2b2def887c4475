/- The walk of (*maker).tok. -/
import Derived.Test.YtgfkkjcnnecefabCtG2
import Derived.RegionTactic
import Derived.Deep.QuietTactic
import Derived.BigQuiet
import Derived.Deep.RegionHeld3
import Derived.Deep.RegionLaw
import Derived.Deep.AppendLies
import Derived.Deep.DeepCutAuto
import Derived.Deep.RegionWith
import Derived.Laws.Rows
import Derived.Deep.WholeRow
import Derived.Laws.CopyOwn
import Derived.OneCell

namespace Go.Proofs.Ytgfkkjcnnecefab
open Go.RowKit Go.Lib Pl
attribute [local go_sem] ext_list app_list

theorem free_row (w : World) (b i : Nat) (c : Array Value) (t : TypeId) (h : w.heap[b]? = some (.cells c t (0, 0))) : w.frozen? ⟨b, i, none⟩ = false := by simp [World.frozen?, h]
theorem after_grown {w w1 : World} {base M n k : Nat} {o : Obj} {cs : Array Value} {fz : Nat × Nat} {v : Value} {xs : List Value} (hblk : w.heap[M]? = some (.cells cs 114 fz)) (hown : OwnM w base 5 1 v n xs)
    (hg : ((w.alloc o).drewN k).drew.grownBy w1 v.ownBlock) : w1.heap[M]? = some (.cells cs 114 fz) := by
  have hlt : M < w.heap.size := (Array.getElem?_eq_some_iff.1 hblk).1
  have h1 : M < ((w.alloc o).drewN k).drew.heap.size := by
    show M < (w.alloc o).heap.size
    simp; omega
  exact (hg.block M h1 (fun e => mk_far hblk hown e.symm)).trans ((Below.heap_alloc w o M hlt).trans hblk)

theorem below_drew_alloc (w : World) (o : Obj) (k : Nat) : Below w.heap.size w ((w.alloc o).drewN k).drew := (below_drewN ((Below.refl _ _).alloc (Nat.le_refl _) o) k).drew

set_option maxHeartbeats 1000000 in
set_option maxRecDepth 100000 in
theorem tok_litok (base M d : Nat) (lit : Bool) (s l : Bytes) (far len : Int) (w : World) (hM : Mk w base M d lit s) (hd : d ≤ s.length) (hs : s.length ≤ d + 512) (hd2 : d ≤ 256)
    (hl : l ≠ []) (h0 : far = 0 ∧ len = 0 ∧ lit = false) (hr : l.length + (s.length - d) ≤ 512) :
    Calls Try.prog 70 #[.pointer (some ⟨M, 0, none⟩), .agg #[S l, I far, I len]] w fun e w' => e = .returned (I 0) ∧ Mk w' base M d true (s ++ l) ∧ Below base w w' ∧ Keeps badMk w w' := by
  obtain ⟨hbM, A, cap, hblk, hown⟩ := hM
  obtain ⟨rfl, rfl, rfl⟩ := h0
  have hlt : M < w.heap.size := (Array.getElem?_eq_some_iff.1 hblk).1
  have c0 : w.cell? ⟨M, 0, none⟩ = some (.slice A s.length cap) := by rw [cell_of_row w M 0 _ _ _ hblk]; rfl
  have c1 : w.cell? ⟨M, 1, none⟩ = some (.int .i64 d) := by rw [cell_of_row w M 1 _ _ _ hblk]; rfl
  have c2 : w.cell? ⟨M, 2, none⟩ = some (.bool false) := by rw [cell_of_row w M 2 _ _ _ hblk]; rfl
  have f0 : w.frozen? ⟨M, 0, none⟩ = false := by simp [World.frozen?, hblk]
  have f2 : w.frozen? ⟨M, 2, none⟩ = false := by simp [World.frozen?, hblk]
  have hl1 : l.isEmpty = false := by simpa using hl
  have hl2 : (l == []) = false := by simpa using hl
  have hk1 : (0 : Int) ≤ (s.length : Int) - (d : Int) := by omega
  have hk2 : (s.length : Int) - (d : Int) ≤ 512 := by omega
  have hbH : base ≤ w.heap.size := by omega
  have hk3 : (l.length : Int) ≤ 512 - ((s.length : Int) - (d : Int)) := by omega
  obtain ⟨i0, hi0, hz0, hz1, hz2⟩ := info_parts info_u8
  have hB := hide hblk
  have hO := hide hown
  clear hblk hown hl
  go_enter Try.func70, Try.ntmps70
  go_wp2_with fail
  go_quiet (fail)
  go_wp2_with fail
  go_region_law (refine step_append_M_string rfl _ _ _ _ rfl base 5 i0 Try.underlying41 Try.underlying9 hi0 hz0 hz1 hz2 _ s.length (s.map B) rfl (by first | exact ((unhide hO).alloc _).drew | exact (((unhide hO).alloc _).drewN _) | exact (((unhide hO).alloc _).drewN _).drew) ⟨l.toArray⟩ rfl (by show s.length + l.length ≤ 9223372036854775807; omega) (by show s.length + l.length ≤ 140737488355328; omega) (by show base ≤ (w.alloc _).heap.size; simp; omega) ?_; intro A1 cap1 w1 hown1 hgrow1 hat1; have hm1 := after_grown (unhide hB) (unhide hO) hgrow1; have c0' := cell_of_row w1 M 0 _ _ _ hm1; have c2' := cell_of_row w1 M 2 _ _ _ hm1; simp at c0' c2'; have f0' := free_row w1 M 0 _ _ hm1; have f2' := free_row w1 M 2 _ _ hm1)
  all_goals
    go_wp2_with fail
    go_ret
    refine ⟨rfl, ?_⟩
    rw [strCells_list, ← List.map_append] at hown1
    refine mk_end hbM (unhide hB) (unhide hO) (below_drew_alloc w _ _) hown1 hgrow1 ?_ (fun k hk => ?_) (by rw [size_setCell, size_setCell]) rfl rfl rfl
    · rw [set_row (set_row hm1 _ _) _ _]; rfl
    · rw [Below.heap_setCell _ _ _ _ hk, Below.heap_setCell _ _ _ _ hk]

set_option maxHeartbeats 1000000 in
set_option maxRecDepth 100000 in
theorem tok_form1 (base M d : Nat) (lit : Bool) (s : Bytes) (l : Bytes) (far len : Int) (w : World) (hM : Mk w base M d lit s) (hd : d ≤ s.length) (hs : s.length ≤ d + 512)
    (hl : l ≠ []) (h0 : far ≠ 0) :
    Calls Try.prog 70 #[.pointer (some ⟨M, 0, none⟩), .agg #[S l, I far, I len]] w fun e w' => e = .returned (I 1) ∧ Below base w w' ∧ Keeps badMk w w' := by
  obtain ⟨hbM, A, cap, hblk, hown⟩ := hM
  have hlt : M < w.heap.size := (Array.getElem?_eq_some_iff.1 hblk).1
  have c0 : w.cell? ⟨M, 0, none⟩ = some (.slice A s.length cap) := by rw [cell_of_row w M 0 _ _ _ hblk]; rfl
  have c1 : w.cell? ⟨M, 1, none⟩ = some (.int .i64 d) := by rw [cell_of_row w M 1 _ _ _ hblk]; rfl
  have c2 : w.cell? ⟨M, 2, none⟩ = some (.bool lit) := by rw [cell_of_row w M 2 _ _ _ hblk]; rfl
  have hk1 : (0 : Int) ≤ (s.length : Int) - (d : Int) := by omega
  have hk2 : (s.length : Int) - (d : Int) ≤ 512 := by omega
  have hbH : base ≤ w.heap.size := by omega
  have hl1 : l.isEmpty = false := by simpa using hl
  have hl2 : (l == []) = false := by simpa using hl
  clear hl
  have h1 : (far == 0) = false := beq_eq_false_iff_ne.2 h0
  have h2 : (far != 0) = true := by rw [bne_iff_ne]; exact h0
  clear h0
  clear hblk hown
  go_enter Try.func70, Try.ntmps70
  go_wp2_with fail
  go_quiet (fail)
  go_wp2_with fail
  go_ret
  first | exact ⟨rfl, below_drewN ((Below.refl _ _).alloc hbH _) _, ((Keeps.refl _ _).alloc _).drewN _⟩ | exact ⟨rfl, below_drewN (below_drewN ((Below.refl _ _).alloc hbH _) _) _, (((Keeps.refl _ _).alloc _).drewN _).drewN _⟩

set_option maxHeartbeats 1000000 in
set_option maxRecDepth 100000 in
theorem tok_form2 (base M d : Nat) (lit : Bool) (s : Bytes) (l : Bytes) (far len : Int) (w : World) (hM : Mk w base M d lit s) (hd : d ≤ s.length) (hs : s.length ≤ d + 512)
    (hl : l ≠ []) (h0 : far = 0) (h9 : len ≠ 0) :
    Calls Try.prog 70 #[.pointer (some ⟨M, 0, none⟩), .agg #[S l, I far, I len]] w fun e w' => e = .returned (I 1) ∧ Below base w w' ∧ Keeps badMk w w' := by
  obtain ⟨hbM, A, cap, hblk, hown⟩ := hM
  have hlt : M < w.heap.size := (Array.getElem?_eq_some_iff.1 hblk).1
  have c0 : w.cell? ⟨M, 0, none⟩ = some (.slice A s.length cap) := by rw [cell_of_row w M 0 _ _ _ hblk]; rfl
  have c1 : w.cell? ⟨M, 1, none⟩ = some (.int .i64 d) := by rw [cell_of_row w M 1 _ _ _ hblk]; rfl
  have c2 : w.cell? ⟨M, 2, none⟩ = some (.bool lit) := by rw [cell_of_row w M 2 _ _ _ hblk]; rfl
  have hk1 : (0 : Int) ≤ (s.length : Int) - (d : Int) := by omega
  have hk2 : (s.length : Int) - (d : Int) ≤ 512 := by omega
  have hbH : base ≤ w.heap.size := by omega
  have hl1 : l.isEmpty = false := by simpa using hl
  have hl2 : (l == []) = false := by simpa using hl
  clear hl
  subst h0
  have h1 : (len == 0) = false := beq_eq_false_iff_ne.2 h9
  have h2 : (len != 0) = true := by rw [bne_iff_ne]; exact h9
  clear h9
  clear hblk hown
  go_enter Try.func70, Try.ntmps70
  go_wp2_with fail
  go_quiet (fail)
  go_wp2_with fail
  go_ret
  first | exact ⟨rfl, below_drewN ((Below.refl _ _).alloc hbH _) _, ((Keeps.refl _ _).alloc _).drewN _⟩ | exact ⟨rfl, below_drewN (below_drewN ((Below.refl _ _).alloc hbH _) _) _, (((Keeps.refl _ _).alloc _).drewN _).drewN _⟩

set_option maxHeartbeats 1000000 in
set_option maxRecDepth 100000 in
theorem tok_form3 (base M d : Nat) (lit : Bool) (s : Bytes) (l : Bytes) (far len : Int) (w : World) (hM : Mk w base M d lit s) (hd : d ≤ s.length) (hs : s.length ≤ d + 512)
    (hl : l ≠ []) (h0 : far = 0) (h9 : len = 0) (h8 : lit = true) :
    Calls Try.prog 70 #[.pointer (some ⟨M, 0, none⟩), .agg #[S l, I far, I len]] w fun e w' => e = .returned (I 1) ∧ Below base w w' ∧ Keeps badMk w w' := by
  obtain ⟨hbM, A, cap, hblk, hown⟩ := hM
  have hlt : M < w.heap.size := (Array.getElem?_eq_some_iff.1 hblk).1
  have c0 : w.cell? ⟨M, 0, none⟩ = some (.slice A s.length cap) := by rw [cell_of_row w M 0 _ _ _ hblk]; rfl
  have c1 : w.cell? ⟨M, 1, none⟩ = some (.int .i64 d) := by rw [cell_of_row w M 1 _ _ _ hblk]; rfl
  have c2 : w.cell? ⟨M, 2, none⟩ = some (.bool lit) := by rw [cell_of_row w M 2 _ _ _ hblk]; rfl
  have hk1 : (0 : Int) ≤ (s.length : Int) - (d : Int) := by omega
  have hk2 : (s.length : Int) - (d : Int) ≤ 512 := by omega
  have hbH : base ≤ w.heap.size := by omega
  have hl1 : l.isEmpty = false := by simpa using hl
  have hl2 : (l == []) = false := by simpa using hl
  clear hl
  subst h0 h9 h8
  clear hblk hown
  go_enter Try.func70, Try.ntmps70
  go_wp2_with fail
  go_quiet (fail)
  go_wp2_with fail
  go_ret
  first | exact ⟨rfl, below_drewN ((Below.refl _ _).alloc hbH _) _, ((Keeps.refl _ _).alloc _).drewN _⟩ | exact ⟨rfl, below_drewN (below_drewN ((Below.refl _ _).alloc hbH _) _) _, (((Keeps.refl _ _).alloc _).drewN _).drewN _⟩

set_option maxHeartbeats 1000000 in
set_option maxRecDepth 100000 in
theorem tok_many (base M d : Nat) (lit : Bool) (s : Bytes) (l : Bytes) (far len : Int) (w : World) (hM : Mk w base M d lit s) (hd : d ≤ s.length) (hs : s.length ≤ d + 512)
    (hl : l ≠ []) (h0 : far = 0) (h9 : len = 0) (h8 : lit = false) (hr : 512 < l.length + (s.length - d)) :
    Calls Try.prog 70 #[.pointer (some ⟨M, 0, none⟩), .agg #[S l, I far, I len]] w fun e w' => e = .returned (I 2) ∧ Below base w w' ∧ Keeps badMk w w' := by
  obtain ⟨hbM, A, cap, hblk, hown⟩ := hM
  have hlt : M < w.heap.size := (Array.getElem?_eq_some_iff.1 hblk).1
  have c0 : w.cell? ⟨M, 0, none⟩ = some (.slice A s.length cap) := by rw [cell_of_row w M 0 _ _ _ hblk]; rfl
  have c1 : w.cell? ⟨M, 1, none⟩ = some (.int .i64 d) := by rw [cell_of_row w M 1 _ _ _ hblk]; rfl
  have c2 : w.cell? ⟨M, 2, none⟩ = some (.bool lit) := by rw [cell_of_row w M 2 _ _ _ hblk]; rfl
  have hk1 : (0 : Int) ≤ (s.length : Int) - (d : Int) := by omega
  have hk2 : (s.length : Int) - (d : Int) ≤ 512 := by omega
  have hbH : base ≤ w.heap.size := by omega
  have hl1 : l.isEmpty = false := by simpa using hl
  have hl2 : (l == []) = false := by simpa using hl
  clear hl
  subst h0 h9 h8
  have hk3 : 512 - ((s.length : Int) - (d : Int)) < (l.length : Int) := by omega
  clear hblk hown
  go_enter Try.func70, Try.ntmps70
  go_wp2_with fail
  go_quiet (fail)
  go_wp2_with fail
  go_ret
  first | exact ⟨rfl, below_drewN ((Below.refl _ _).alloc hbH _) _, ((Keeps.refl _ _).alloc _).drewN _⟩ | exact ⟨rfl, below_drewN (below_drewN ((Below.refl _ _).alloc hbH _) _) _, (((Keeps.refl _ _).alloc _).drewN _).drewN _⟩

set_option maxHeartbeats 1000000 in
set_option maxRecDepth 100000 in
theorem tok_copy1 (base M d : Nat) (lit : Bool) (s : Bytes) (l : Bytes) (far len : Int) (w : World) (hM : Mk w base M d lit s) (hd : d ≤ s.length) (hs : s.length ≤ d + 512)
    (hl : l = []) (h0 : len < 3) :
    Calls Try.prog 70 #[.pointer (some ⟨M, 0, none⟩), .agg #[S l, I far, I len]] w fun e w' => e = .returned (I 1) ∧ Below base w w' ∧ Keeps badMk w w' := by
  obtain ⟨hbM, A, cap, hblk, hown⟩ := hM
  have hlt : M < w.heap.size := (Array.getElem?_eq_some_iff.1 hblk).1
  have c0 : w.cell? ⟨M, 0, none⟩ = some (.slice A s.length cap) := by rw [cell_of_row w M 0 _ _ _ hblk]; rfl
  have c1 : w.cell? ⟨M, 1, none⟩ = some (.int .i64 d) := by rw [cell_of_row w M 1 _ _ _ hblk]; rfl
  have c2 : w.cell? ⟨M, 2, none⟩ = some (.bool lit) := by rw [cell_of_row w M 2 _ _ _ hblk]; rfl
  have hk1 : (0 : Int) ≤ (s.length : Int) - (d : Int) := by omega
  have hk2 : (s.length : Int) - (d : Int) ≤ 512 := by omega
  have hbH : base ≤ w.heap.size := by omega
  subst hl
  have e1 : decide (len < 3) = true := by simpa using h0
  clear hblk hown
  go_enter Try.func70, Try.ntmps70
  go_wp2_with fail
  go_quiet (fail)
  go_wp2_with fail
  go_quiet (fail)
  go_wp2_with fail
  go_ret
  first | exact ⟨rfl, below_drewN ((Below.refl _ _).alloc hbH _) _, ((Keeps.refl _ _).alloc _).drewN _⟩ | exact ⟨rfl, below_drewN (below_drewN ((Below.refl _ _).alloc hbH _) _) _, (((Keeps.refl _ _).alloc _).drewN _).drewN _⟩

set_option maxHeartbeats 1000000 in
set_option maxRecDepth 100000 in
theorem tok_copy2 (base M d : Nat) (lit : Bool) (s : Bytes) (l : Bytes) (far len : Int) (w : World) (hM : Mk w base M d lit s) (hd : d ≤ s.length) (hs : s.length ≤ d + 512)
    (hl : l = []) (h0 : 64 < len) :
    Calls Try.prog 70 #[.pointer (some ⟨M, 0, none⟩), .agg #[S l, I far, I len]] w fun e w' => e = .returned (I 1) ∧ Below base w w' ∧ Keeps badMk w w' := by
  obtain ⟨hbM, A, cap, hblk, hown⟩ := hM
  have hlt : M < w.heap.size := (Array.getElem?_eq_some_iff.1 hblk).1
  have c0 : w.cell? ⟨M, 0, none⟩ = some (.slice A s.length cap) := by rw [cell_of_row w M 0 _ _ _ hblk]; rfl
  have c1 : w.cell? ⟨M, 1, none⟩ = some (.int .i64 d) := by rw [cell_of_row w M 1 _ _ _ hblk]; rfl
  have c2 : w.cell? ⟨M, 2, none⟩ = some (.bool lit) := by rw [cell_of_row w M 2 _ _ _ hblk]; rfl
  have hk1 : (0 : Int) ≤ (s.length : Int) - (d : Int) := by omega
  have hk2 : (s.length : Int) - (d : Int) ≤ 512 := by omega
  have hbH : base ≤ w.heap.size := by omega
  subst hl
  have e1 : decide (len < 3) = false := by simp; omega
  have e2 : decide (64 < len) = true := by simpa using h0
  clear hblk hown
  go_enter Try.func70, Try.ntmps70
  go_wp2_with fail
  go_quiet (fail)
  go_wp2_with fail
  go_quiet (fail)
  go_wp2_with fail
  go_ret
  first | exact ⟨rfl, below_drewN ((Below.refl _ _).alloc hbH _) _, ((Keeps.refl _ _).alloc _).drewN _⟩ | exact ⟨rfl, below_drewN (below_drewN ((Below.refl _ _).alloc hbH _) _) _, (((Keeps.refl _ _).alloc _).drewN _).drewN _⟩

set_option maxHeartbeats 1000000 in
set_option maxRecDepth 100000 in
theorem tok_copy3 (base M d : Nat) (lit : Bool) (s : Bytes) (l : Bytes) (far len : Int) (w : World) (hM : Mk w base M d lit s) (hd : d ≤ s.length) (hs : s.length ≤ d + 512)
    (hl : l = []) (h0 : 3 ≤ len) (h1 : len ≤ 64) (h2 : far < 1) :
    Calls Try.prog 70 #[.pointer (some ⟨M, 0, none⟩), .agg #[S l, I far, I len]] w fun e w' => e = .returned (I 1) ∧ Below base w w' ∧ Keeps badMk w w' := by
  obtain ⟨hbM, A, cap, hblk, hown⟩ := hM
  have hlt : M < w.heap.size := (Array.getElem?_eq_some_iff.1 hblk).1
  have c0 : w.cell? ⟨M, 0, none⟩ = some (.slice A s.length cap) := by rw [cell_of_row w M 0 _ _ _ hblk]; rfl
  have c1 : w.cell? ⟨M, 1, none⟩ = some (.int .i64 d) := by rw [cell_of_row w M 1 _ _ _ hblk]; rfl
  have c2 : w.cell? ⟨M, 2, none⟩ = some (.bool lit) := by rw [cell_of_row w M 2 _ _ _ hblk]; rfl
  have hk1 : (0 : Int) ≤ (s.length : Int) - (d : Int) := by omega
  have hk2 : (s.length : Int) - (d : Int) ≤ 512 := by omega
  have hbH : base ≤ w.heap.size := by omega
  subst hl
  have e1 : decide (len < 3) = false := by simp; omega
  have e2 : decide (64 < len) = false := by simp; omega
  have e3 : decide (far < 1) = true := by simpa using h2
  clear hblk hown
  go_enter Try.func70, Try.ntmps70
  go_wp2_with fail
  go_quiet (fail)
  go_wp2_with fail
  go_quiet (fail)
  go_wp2_with fail
  go_ret
  first | exact ⟨rfl, below_drewN ((Below.refl _ _).alloc hbH _) _, ((Keeps.refl _ _).alloc _).drewN _⟩ | exact ⟨rfl, below_drewN (below_drewN ((Below.refl _ _).alloc hbH _) _) _, (((Keeps.refl _ _).alloc _).drewN _).drewN _⟩

set_option maxHeartbeats 1000000 in
set_option maxRecDepth 100000 in
theorem tok_copy4 (base M d : Nat) (lit : Bool) (s : Bytes) (l : Bytes) (far len : Int) (w : World) (hM : Mk w base M d lit s) (hd : d ≤ s.length) (hs : s.length ≤ d + 512)
    (hl : l = []) (h0 : 3 ≤ len) (h1 : len ≤ 64) (h2 : 1 ≤ far) (h3 : (s.length : Int) < far) :
    Calls Try.prog 70 #[.pointer (some ⟨M, 0, none⟩), .agg #[S l, I far, I len]] w fun e w' => e = .returned (I 1) ∧ Below base w w' ∧ Keeps badMk w w' := by
  obtain ⟨hbM, A, cap, hblk, hown⟩ := hM
  have hlt : M < w.heap.size := (Array.getElem?_eq_some_iff.1 hblk).1
  have c0 : w.cell? ⟨M, 0, none⟩ = some (.slice A s.length cap) := by rw [cell_of_row w M 0 _ _ _ hblk]; rfl
  have c1 : w.cell? ⟨M, 1, none⟩ = some (.int .i64 d) := by rw [cell_of_row w M 1 _ _ _ hblk]; rfl
  have c2 : w.cell? ⟨M, 2, none⟩ = some (.bool lit) := by rw [cell_of_row w M 2 _ _ _ hblk]; rfl
  have hk1 : (0 : Int) ≤ (s.length : Int) - (d : Int) := by omega
  have hk2 : (s.length : Int) - (d : Int) ≤ 512 := by omega
  have hbH : base ≤ w.heap.size := by omega
  subst hl
  have e1 : decide (len < 3) = false := by simp; omega
  have e2 : decide (64 < len) = false := by simp; omega
  have e3 : decide (far < 1) = false := by simp; omega
  have e4 : decide ((s.length : Int) < far) = true := by simpa using h3
  clear hblk hown
  go_enter Try.func70, Try.ntmps70
  go_wp2_with fail
  go_quiet (fail)
  go_wp2_with fail
  go_quiet (fail)
  go_wp2_with fail
  go_ret
  first | exact ⟨rfl, below_drewN ((Below.refl _ _).alloc hbH _) _, ((Keeps.refl _ _).alloc _).drewN _⟩ | exact ⟨rfl, below_drewN (below_drewN ((Below.refl _ _).alloc hbH _) _) _, (((Keeps.refl _ _).alloc _).drewN _).drewN _⟩

set_option maxHeartbeats 1000000 in
set_option maxRecDepth 100000 in
theorem tok_copy5 (base M d : Nat) (lit : Bool) (s : Bytes) (l : Bytes) (far len : Int) (w : World) (hM : Mk w base M d lit s) (hd : d ≤ s.length) (hs : s.length ≤ d + 512)
    (hl : l = []) (h0 : 3 ≤ len) (h1 : len ≤ 64) (h2 : 1 ≤ far) (h3 : far ≤ (s.length : Int)) (hr : 512 < len + ((s.length - d : Nat) : Int)) :
    Calls Try.prog 70 #[.pointer (some ⟨M, 0, none⟩), .agg #[S l, I far, I len]] w fun e w' => e = .returned (I 2) ∧ Below base w w' ∧ Keeps badMk w w' := by
  obtain ⟨hbM, A, cap, hblk, hown⟩ := hM
  have hlt : M < w.heap.size := (Array.getElem?_eq_some_iff.1 hblk).1
  have c0 : w.cell? ⟨M, 0, none⟩ = some (.slice A s.length cap) := by rw [cell_of_row w M 0 _ _ _ hblk]; rfl
  have c1 : w.cell? ⟨M, 1, none⟩ = some (.int .i64 d) := by rw [cell_of_row w M 1 _ _ _ hblk]; rfl
  have c2 : w.cell? ⟨M, 2, none⟩ = some (.bool lit) := by rw [cell_of_row w M 2 _ _ _ hblk]; rfl
  have hk1 : (0 : Int) ≤ (s.length : Int) - (d : Int) := by omega
  have hk2 : (s.length : Int) - (d : Int) ≤ 512 := by omega
  have hbH : base ≤ w.heap.size := by omega
  subst hl
  have e1 : decide (len < 3) = false := by simp; omega
  have e2 : decide (64 < len) = false := by simp; omega
  have e3 : decide (far < 1) = false := by simp; omega
  have e4 : decide ((s.length : Int) < far) = false := by simp; omega
  have hk3 : 512 - ((s.length : Int) - (d : Int)) < len := by omega
  clear hblk hown
  go_enter Try.func70, Try.ntmps70
  go_wp2_with fail
  go_quiet (fail)
  go_wp2_with fail
  go_quiet (fail)
  go_wp2_with fail
  go_ret
  first | exact ⟨rfl, below_drewN ((Below.refl _ _).alloc hbH _) _, ((Keeps.refl _ _).alloc _).drewN _⟩ | exact ⟨rfl, below_drewN (below_drewN ((Below.refl _ _).alloc hbH _) _) _, (((Keeps.refl _ _).alloc _).drewN _).drewN _⟩

end Go.Proofs.Ytgfkkjcnnecefab

/- The walk of (*maker).tok where it copies. -/
namespace Go.Proofs.Ytgfkkjcnnecefab
open Go.RowKit Go.Lib Pl
attribute [local go_sem] ext_list app_list

set_option maxHeartbeats 1000000 in
set_option maxRecDepth 100000 in
theorem tok_copyok (base M d : Nat) (lit : Bool) (s : Bytes) (far len : Nat) (w : World) (hM : Mk w base M d lit s) (hd : d ≤ s.length) (hs : s.length ≤ d + 512) (hd2 : d ≤ 256)
    (h0 : 3 ≤ len) (h1 : len ≤ 64) (h2 : 1 ≤ far) (h3 : far ≤ s.length) (hr : len + (s.length - d) ≤ 512) :
    Calls Try.prog 70 #[.pointer (some ⟨M, 0, none⟩), .agg #[S [], I far, I len]] w fun e w' => e = .returned (I 0) ∧ Mk w' base M d false (copyB len far s) ∧ Below base w w' ∧ Keeps badMk w w' := by
  have hM0 := hM
  obtain ⟨hbM, A, cap, hblk, hown⟩ := hM
  have hlt : M < w.heap.size := (Array.getElem?_eq_some_iff.1 hblk).1
  have c0 : w.cell? ⟨M, 0, none⟩ = some (.slice A s.length cap) := by rw [cell_of_row w M 0 _ _ _ hblk]; rfl
  have c1 : w.cell? ⟨M, 1, none⟩ = some (.int .i64 d) := by rw [cell_of_row w M 1 _ _ _ hblk]; rfl
  have hk1 : (0 : Int) ≤ (s.length : Int) - (d : Int) := by omega
  have hk2 : (s.length : Int) - (d : Int) ≤ 512 := by omega
  have hbH : base ≤ w.heap.size := by omega
  have e1 : decide ((len : Int) < 3) = false := by simp; omega
  have e2 : decide (64 < (len : Int)) = false := by simp; omega
  have e3 : decide ((far : Int) < 1) = false := by simp; omega
  have e4 : decide ((s.length : Int) < (far : Int)) = false := by simp; omega
  have e5 : decide (s.length < far) = false := by simp; omega
  have hk3 : (len : Int) ≤ 512 - ((s.length : Int) - (d : Int)) := by omega
  have HM := hide hM0
  obtain ⟨i0, hi0, hz0, hz1, hz2⟩ := info_parts info_u8
  clear hblk hown hM0
  go_enter Try.func70, Try.ntmps70
  go_wp2_with fail
  go_quiet (fail)
  go_wp2_with fail
  go_quiet (fail)
  go_wp2_with fail
  clear e1 e2 e3 e4 e5 c0 c1
  go_loopw [82] (fun i wr => ∃ k : Nat, k ≤ len ∧ i = .int .i64 k ∧ Mk wr base M d lit (copyB k far s) ∧ Below base w wr ∧ Keeps badMk w wr ∧ wr.heap[w.heap.size]? = some (.cells #[S [], I far, I len] 75 (0, 0)))
    (fun i _ => len - (intOf i).toNat)
  case atStart =>
    refine ⟨0, by omega, rfl, ?_, ?_, ?_, ?_⟩
    · obtain ⟨a1, A, cap, a2, a3⟩ := unhide HM
      exact ⟨a1, A, cap, (Below.heap_alloc w _ M hlt).trans a2, (a3.alloc _)⟩
    · exact below_drewN ((Below.refl _ _).alloc hbH _) _
    · exact ((Keeps.refl _ _).alloc _).drewN _
    · exact heap_alloc_new w _
  case round =>
    obtain ⟨k, hk, rfl, hMk, hbel, hkeep, hpar⟩ := hrel
    have hlen := copyB_len k far s
    obtain ⟨s', hs'⟩ : ∃ s', s' = copyB k far s := ⟨_, rfl⟩
    rw [← hs'] at hlen hMk
    have hMk' := hMk
    obtain ⟨_, A1, cap1, hblk1, hown1⟩ := hMk
    have hMlt1 : M < wr.heap.size := (Array.getElem?_eq_some_iff.1 hblk1).1
    have c0 : wr.cell? ⟨M, 0, none⟩ = some (.slice A1 s'.length cap1) := by rw [cell_of_row wr M 0 _ _ _ hblk1]; rfl
    have c2 : wr.cell? ⟨M, 2, none⟩ = some (.bool lit) := by rw [cell_of_row wr M 2 _ _ _ hblk1]; rfl
    have p1 : wr.cell? ⟨w.heap.size, 1, none⟩ = some (I far) := by rw [cell_of_row wr _ 1 _ _ _ hpar]; rfl
    have p2 : wr.cell? ⟨w.heap.size, 2, none⟩ = some (I len) := by rw [cell_of_row wr _ 2 _ _ _ hpar]; rfl
    have f0 : wr.frozen? ⟨M, 0, none⟩ = false := by simp [World.frozen?, hblk1]
    have f2 : wr.frozen? ⟨M, 2, none⟩ = false := by simp [World.frozen?, hblk1]
    have hln : (s'.length : Int) = (s.length : Int) + k := by omega
    have HL := hide hln
    have hb3 : s'.length ≤ 832 := by omega
    by_cases hlk : k < len
    · obtain ⟨j, hj⟩ : ∃ j : Nat, j = s'.length - far := ⟨_, rfl⟩
      have hjlt : j < s'.length := by omega
      have hj2 : ((s'.length : Int) - (far : Int)).toNat = j := by omega
      have hj3 : (0 : Int) ≤ (s'.length : Int) - (far : Int) := by omega
      have hj4 : (s'.length : Int) - (far : Int) < (s'.length : Int) := by omega
      obtain ⟨g, capg, u, hv, hbg, hu, hcell⟩ := hown1.at_ (k := j) (by omega)
      injection hv with hvA _ hvc
      subst hvA hvc
      obtain ⟨c, hc⟩ : ∃ c, s'[j]? = some c := ⟨_, List.getElem?_eq_getElem hjlt⟩
      have huc : u = B c := by
        rw [List.getElem?_map, hc] at hu; simpa using hu.symm
      subst huc
      have HS := hide hs'
      have HJ := hide hj
      have HC := hide hc
      have HB := hide hblk1
      have HO := hide hown1
      have HP := hide hpar
      clear hlen hs' hj hu hblk1 hown1 hpar hln hc
      go_wp2_with fail
      go_quiet (fail)
      go_wp2_with (at_builtin; refine wpList_push_M rfl _ _ _ rfl base 5 i0 _ 1 Try.underlying41 hi0 hz0 hz1 hz2 rfl _ s'.length (s'.map B) rfl _ _ (by exact (unhide HO).drewN _) rfl rfl (by unfold maxLen; omega) (by omega) (by show base ≤ wr.heap.size; omega) ?_; intro g1 cap2 w1 hown1 hg1 hat1; have hm1 := mk_after (unhide HB) (unhide HO) (below_drewN_alloc wr _ _) hg1; have c0' := cell_of_row w1 M 0 _ _ _ hm1; simp at c0'; have f0' := free_row w1 M 0 _ _ hm1)
      have hend := mk_end (w2 := w1.setCell ⟨M, 0, none⟩ (.slice (some ⟨g1, 0, none⟩) (s'.length + 1) cap2)) (s1 := s' ++ [c]) hbM (unhide HB) (unhide HO) (below_drewN_alloc wr _ _) (by simpa using hown1) hg1 (by rw [set_row hm1]; rfl) (fun k hk => Below.heap_setCell _ _ _ _ hk) (size_setCell _ _ _) rfl rfl rfl
      obtain ⟨n1, n2, n3⟩ := hend
      clear hown1 hg1 hat1 hm1 c0' f0'
      go_roundw
      case rel =>
        refine ⟨k + 1, by omega, by go_num, ?_, hbel.trans n2, hkeep.trans n3, n3.block _ _ (unhide HP) rfl⟩
        rw [copyB_snoc, ← unhide HS, ← unhide HJ]
        have : s'.getD j 0 = c := by rw [List.getD_eq_getElem?_getD, unhide HC]; rfl
        rw [this]; exact n1
      case measure => simp [intOf]; omega
    · have hkl : k = len := by omega
      have HS := hide hs'
      have HB := hide hblk1
      have HO := hide hown1
      have HK := hide hkl
      clear hlen hs' hblk1 hown1 hpar hln hkl
      go_wp2_with fail
      go_ret
      rw [← unhide HK, ← unhide HS]
      refine ⟨rfl, ⟨hbM, A1, cap1, (set_row (unhide HB) _ _), (unhide HO).setCell (mk_far (unhide HB) (unhide HO)) _⟩, hbel.trans ?_, hkeep.trans ((Keeps.refl _ _).setCell _ (unhide HB) rfl)⟩
      exact (Below.refl _ _).setCell hbM _

end Go.Proofs.Ytgfkkjcnnecefab

/- (*maker).tok by one contract. -/
namespace Go.Proofs.Ytgfkkjcnnecefab
open Go.RowKit Go.Lib Pl

theorem tokE_le (d : Nat) (s : Bytes) (lit : Bool) (t : Tok) : tokE d s lit t ≤ 2 := by
  unfold tokE
  by_cases h1 : t.lit ≠ []
  · rw [if_pos h1]
    by_cases h2 : t.far ≠ 0 ∨ t.len ≠ 0 ∨ lit = true
    · rw [if_pos h2]; omega
    · rw [if_neg h2]; by_cases h3 : 512 < t.lit.length + (s.length - d)
      · rw [if_pos h3]; omega
      · rw [if_neg h3]; omega
  · rw [if_neg h1]
    by_cases h2 : t.len < 3 ∨ 64 < t.len ∨ t.far < 1 ∨ (s.length : Int) < t.far
    · rw [if_pos h2]; omega
    · rw [if_neg h2]; by_cases h3 : 512 < t.len + ((s.length - d : Nat) : Int)
      · rw [if_pos h3]; omega
      · rw [if_neg h3]; omega

theorem tok_any (base M d : Nat) (lit : Bool) (s : Bytes) (t : Tok) (w : World) (hM : Mk w base M d lit s) (hd : d ≤ s.length) (hs : s.length ≤ d + 512) (hd2 : d ≤ 256) :
    Calls Try.prog 70 #[.pointer (some ⟨M, 0, none⟩), TokV t] w fun e w' =>
      e = .returned (I (tokE d s lit t)) ∧ (tokE d s lit t = 0 → Mk w' base M d (isLit t) (tokS s t)) ∧ Below base w w' ∧ Keeps badMk w w' := by
  obtain ⟨l, far, len⟩ := t
  have noz : ∀ (n : Nat) (P : Prop), n ≠ 0 → (n = 0 → P) := fun n P h h2 => absurd h2 h
  by_cases hl : l = []
  · subst hl
    by_cases h1 : len < 3
    · have e : tokE d s lit ⟨[], far, len⟩ = 1 := by simp [tokE, h1]
      rw [e]; exact (tok_copy1 base M d lit s [] far len w hM hd hs rfl h1).mono fun _ _ ⟨a, b⟩ => ⟨a, noz _ _ (by omega), b⟩
    by_cases h2 : 64 < len
    · have e : tokE d s lit ⟨[], far, len⟩ = 1 := by simp [tokE, h2]
      rw [e]; exact (tok_copy2 base M d lit s [] far len w hM hd hs rfl h2).mono fun _ _ ⟨a, b⟩ => ⟨a, noz _ _ (by omega), b⟩
    by_cases h3 : far < 1
    · have e : tokE d s lit ⟨[], far, len⟩ = 1 := by simp [tokE, h3]
      rw [e]; exact (tok_copy3 base M d lit s [] far len w hM hd hs rfl (by omega) (by omega) h3).mono fun _ _ ⟨a, b⟩ => ⟨a, noz _ _ (by omega), b⟩
    by_cases h4 : (s.length : Int) < far
    · have e : tokE d s lit ⟨[], far, len⟩ = 1 := by simp [tokE, h4]
      rw [e]; exact (tok_copy4 base M d lit s [] far len w hM hd hs rfl (by omega) (by omega) (by omega) h4).mono fun _ _ ⟨a, b⟩ => ⟨a, noz _ _ (by omega), b⟩
    have hbad : ¬ (len < 3 ∨ 64 < len ∨ far < 1 ∨ (s.length : Int) < far) := by omega
    by_cases h5 : 512 < len + ((s.length - d : Nat) : Int)
    · have e : tokE d s lit ⟨[], far, len⟩ = 2 := by
        unfold tokE
        rw [if_neg (by simp), if_neg hbad, if_pos h5]
      rw [e]; exact (tok_copy5 base M d lit s [] far len w hM hd hs rfl (by omega) (by omega) (by omega) (by omega) h5).mono fun _ _ ⟨a, b⟩ => ⟨a, noz _ _ (by omega), b⟩
    · have e : tokE d s lit ⟨[], far, len⟩ = 0 := by
        unfold tokE
        rw [if_neg (by simp), if_neg hbad, if_neg h5]
      obtain ⟨f', rfl⟩ := Int.eq_ofNat_of_zero_le (show 0 ≤ far by omega)
      obtain ⟨n', rfl⟩ := Int.eq_ofNat_of_zero_le (show 0 ≤ len by omega)
      rw [e]
      refine (tok_copyok base M d lit s f' n' w hM hd hs hd2 (by omega) (by omega) (by omega) (by omega) (by omega)).mono fun _ _ ⟨a, b, c⟩ => ⟨a, fun _ => ?_, c⟩
      simpa [isLit, tokS] using b
  · by_cases h1 : far = 0
    · by_cases h2 : len = 0
      · by_cases h3 : lit = true
        · have e : tokE d s lit ⟨l, far, len⟩ = 1 := by simp [tokE, hl, h3]
          rw [e]; exact (tok_form3 base M d lit s l far len w hM hd hs hl h1 h2 h3).mono fun _ _ ⟨a, b⟩ => ⟨a, noz _ _ (by omega), b⟩
        · have h3 : lit = false := by simpa using h3
          by_cases h4 : 512 < l.length + (s.length - d)
          · have e : tokE d s lit ⟨l, far, len⟩ = 2 := by simp [tokE, hl, h1, h2, h3, h4]
            rw [e]; exact (tok_many base M d lit s l far len w hM hd hs hl h1 h2 h3 h4).mono fun _ _ ⟨a, b⟩ => ⟨a, noz _ _ (by omega), b⟩
          · have e : tokE d s lit ⟨l, far, len⟩ = 0 := by simp [tokE, hl, h1, h2, h3]; omega
            rw [e]
            refine (tok_litok base M d lit s l far len w hM hd hs hd2 hl ⟨h1, h2, h3⟩ (by omega)).mono fun _ _ ⟨a, b, c⟩ => ⟨a, fun _ => ?_, c⟩
            have e1 : l.isEmpty = false := by simpa using hl
            simpa [isLit, tokS, hl, e1] using b
      · have e : tokE d s lit ⟨l, far, len⟩ = 1 := by simp [tokE, hl, h2]
        rw [e]; exact (tok_form2 base M d lit s l far len w hM hd hs hl h1 h2).mono fun _ _ ⟨a, b⟩ => ⟨a, noz _ _ (by omega), b⟩
    · have e : tokE d s lit ⟨l, far, len⟩ = 1 := by simp [tokE, hl, h1]
      rw [e]; exact (tok_form1 base M d lit s l far len w hM hd hs hl h1).mono fun _ _ ⟨a, b⟩ => ⟨a, noz _ _ (by omega), b⟩

theorem tokS_len {d : Nat} {s : Bytes} {lit : Bool} {t : Tok} (h : tokE d s lit t = 0) (hs : s.length ≤ d + 512) (hd : d ≤ s.length) : d ≤ (tokS s t).length ∧ (tokS s t).length ≤ d + 512 ∧ s.length < (tokS s t).length := by
  obtain ⟨l, far, len⟩ := t
  unfold tokE at h
  unfold tokS
  by_cases hl : l = []
  · subst hl
    simp only [ne_eq, not_true_eq_false, if_false] at h ⊢
    rw [copyB_len]
    by_cases h1 : len < 3 ∨ 64 < len ∨ far < 1 ∨ (s.length : Int) < far
    · rw [if_pos h1] at h; cases h
    · rw [if_neg h1] at h
      by_cases h2 : 512 < len + ((s.length - d : Nat) : Int)
      · rw [if_pos h2] at h; cases h
      · omega
  · have hlp : 0 < l.length := List.length_pos_iff.2 hl
    simp only [ne_eq, hl, not_false_eq_true, if_true] at h ⊢
    rw [List.length_append]
    by_cases h1 : far ≠ 0 ∨ len ≠ 0 ∨ lit = true
    · rw [if_pos h1] at h; cases h
    · rw [if_neg h1] at h
      by_cases h2 : 512 < l.length + (s.length - d)
      · rw [if_pos h2] at h; cases h
      · omega

end Go.Proofs.Ytgfkkjcnnecefab

/- A slice of toks that reads as a list. -/
namespace Go.Proofs.Ytgfkkjcnnecefab
open Go.RowKit Go.Lib Pl

/-- The slice of address A and length n reads as the list l, below block Bd. -/
def ToksAt (w : World) (Bd : Nat) (A : Option Addr) (n : Nat) (l : List Tok) : Prop :=
  l.length = n ∧ (0 < n → ∃ b off, A = some ⟨b, off, none⟩ ∧ b < Bd ∧ ∀ i t, l[i]? = some t →
    w.cell? ⟨b, off + i * 3, none⟩ = some (S t.lit) ∧ w.cell? ⟨b, off + i * 3 + 1, none⟩ = some (I t.far) ∧ w.cell? ⟨b, off + i * 3 + 2, none⟩ = some (I t.len))

theorem ToksAt.keep {w w' : World} {Bd n : Nat} {A : Option Addr} {l : List Tok} (h : ToksAt w Bd A n l) (hk : ∀ p : Addr, p.block < Bd → w'.cell? p = w.cell? p) : ToksAt w' Bd A n l :=
  ⟨h.1, fun hn => by
    obtain ⟨b, off, e, hb, hc⟩ := h.2 hn
    refine ⟨b, off, e, hb, fun i t hi => ?_⟩
    obtain ⟨h1, h2, h3⟩ := hc i t hi
    exact ⟨(hk _ hb).trans h1, (hk _ hb).trans h2, (hk _ hb).trans h3⟩⟩
theorem ToksAt.below {w w' : World} {Bd n : Nat} {A : Option Addr} {l : List Tok} (h : ToksAt w Bd A n l) (hb : Below Bd w w') : ToksAt w' Bd A n l := h.keep fun _ hp => hb.cell hp
theorem ToksAt.at_ {w : World} {Bd n k : Nat} {A : Option Addr} {l : List Tok} (h : ToksAt w Bd A n l) (hk : k < n) : ∃ b off t, A = some ⟨b, off, none⟩ ∧ b < Bd ∧ l[k]? = some t ∧
    w.cell? ⟨b, off + k * 3, none⟩ = some (S t.lit) ∧ w.cell? ⟨b, off + k * 3 + 1, none⟩ = some (I t.far) ∧ w.cell? ⟨b, off + k * 3 + 2, none⟩ = some (I t.len) := by
  obtain ⟨b, off, e, hb, hc⟩ := h.2 (by omega)
  have hl : k < l.length := by have := h.1; omega
  exact ⟨b, off, l[k], e, hb, List.getElem?_eq_getElem hl, hc k _ (List.getElem?_eq_getElem hl)⟩

end Go.Proofs.Ytgfkkjcnnecefab

/- The walks of the references of chapter 1. -/
namespace Go.Proofs.Ytgfkkjcnnecefab
open Go.RowKit Pl
attribute [local go_sem] ext_list app_list

end Go.Proofs.Ytgfkkjcnnecefab

/- Plain mathematics of chapter 2: reading toks; the laws of going back. No program in sight. -/
namespace Go.Proofs.Ytgfkkjcnnecefab
namespace Pl

theorem takeF_len : ∀ (f i n : Nat) (s : Bytes) (k : Nat) (r : Bytes), takeF f i n s = some (k, r) → r.length < s.length
  | 0, _, _, _, _, _, h => by simp [takeF] at h
  | f + 1, _, _, [], _, _, h => by simp [takeF] at h
  | f + 1, i, n, c :: t, k, r, h => by
    rw [takeF] at h
    split at h
    · have := takeF_len f _ _ t k r h; simp; omega
    · split at h
      · simp at h
      · simp only [Option.some.injEq, Prod.mk.injEq] at h
        obtain ⟨_, rfl⟩ := h; simp
theorem take_len {s : Bytes} {k : Nat} {r : Bytes} (h : take s = some (k, r)) : r.length < s.length := takeF_len 5 0 0 s k r h
theorem tokFrom_len {s r : Bytes} {t : Tok} (h : tokFrom s = some (t, r)) : r.length < s.length := by
  unfold tokFrom at h
  cases hk : take s with
  | none => rw [hk] at h; simp at h
  | some p =>
    obtain ⟨n, q⟩ := p
    have h1 := take_len hk
    rw [hk] at h
    simp only at h
    by_cases h2 : n % 2 = 0
    · rw [if_pos h2] at h
      by_cases h3 : q.length < n / 2
      · rw [if_pos h3] at h; simp at h
      · rw [if_neg h3] at h
        simp only [Option.some.injEq, Prod.mk.injEq] at h
        obtain ⟨_, rfl⟩ := h
        simp; omega
    · rw [if_neg h2] at h
      cases hf : take q with
      | none => rw [hf] at h; simp at h
      | some p2 =>
        obtain ⟨f, q2⟩ := p2
        have h3 := take_len hf
        rw [hf] at h
        simp only [Option.some.injEq, Prod.mk.injEq] at h
        obtain ⟨_, rfl⟩ := h
        omega

/-- all toks of some bytes, their form alone -/
def toksF : Nat → Bytes → Option (List Tok)
  | _, [] => some []
  | 0, _ :: _ => none
  | f + 1, c :: s' =>
    match tokFrom (c :: s') with
    | none => none
    | some (t, rest) => (toksF f rest).map (t :: ·)
def toksOf (s : Bytes) : Option (List Tok) := toksF s.length s

theorem toksF_fuel : ∀ (f g : Nat) (s : Bytes), s.length ≤ f → s.length ≤ g → toksF f s = toksF g s
  | f, g, [], _, _ => by cases f <;> cases g <;> rfl
  | 0, _, _ :: _, h, _ => by simp at h
  | _, 0, _ :: _, _, h => by simp at h
  | f + 1, g + 1, c :: s', hf, hg => by
    rw [toksF, toksF]
    cases h : tokFrom (c :: s') with
    | none => rfl
    | some p =>
      obtain ⟨t, r⟩ := p
      have := tokFrom_len h
      simp at this hf hg
      simp only
      rw [toksF_fuel f g r (by omega) (by omega)]
theorem readF_fuel (d : Nat) : ∀ (f g : Nat) (m : Bytes) (b : Bool) (s : Bytes), s.length ≤ f → s.length ≤ g → readF d f m b s = readF d g m b s
  | f, g, _, _, [], _, _ => by cases f <;> cases g <;> rfl
  | 0, _, _, _, _ :: _, h, _ => by simp at h
  | _, 0, _, _, _ :: _, _, h => by simp at h
  | f + 1, g + 1, m, b, c :: s', hf, hg => by
    rw [readF, readF]
    cases h : tokFrom (c :: s') with
    | none => rfl
    | some p =>
      obtain ⟨t, r⟩ := p
      have := tokFrom_len h
      simp at this hf hg
      simp only
      rw [readF_fuel d f g _ _ r (by omega) (by omega)]

theorem toksOf_nil : toksOf [] = some [] := rfl
theorem toksOf_none {s : Bytes} (hs : s ≠ []) (h : tokFrom s = none) : toksOf s = none := by
  cases s with
  | nil => exact absurd rfl hs
  | cons c s => unfold toksOf; rw [List.length_cons, toksF, h]
theorem toksOf_some {s r : Bytes} {t : Tok} (hs : s ≠ []) (h : tokFrom s = some (t, r)) : toksOf s = (toksOf r).map (t :: ·) := by
  cases s with
  | nil => exact absurd rfl hs
  | cons c s =>
    have := tokFrom_len h
    simp at this
    unfold toksOf; rw [List.length_cons, toksF, h]
    simp only
    rw [toksF_fuel s.length r.length r (by omega) (Nat.le_refl _)]
/-- what is read from a place on -/
def readR (d : Nat) (m : Bytes) (b : Bool) (s : Bytes) : Option (List Tok) := readF d s.length m b s
theorem readR_nil (d : Nat) (m : Bytes) (b : Bool) : readR d m b [] = some [] := rfl
theorem readR_none {d : Nat} {m : Bytes} {b : Bool} {s : Bytes} (hs : s ≠ []) (h : tokFrom s = none) : readR d m b s = none := by
  cases s with
  | nil => exact absurd rfl hs
  | cons c s => unfold readR; rw [List.length_cons, readF, h]
theorem readR_bad {d : Nat} {m : Bytes} {b : Bool} {s r : Bytes} {t : Tok} (hs : s ≠ []) (h : tokFrom s = some (t, r)) (he : tokE d m b t ≠ 0) : readR d m b s = none := by
  cases s with
  | nil => exact absurd rfl hs
  | cons c s => unfold readR; rw [List.length_cons, readF, h]; simp only; rw [if_pos he]
theorem readR_some {d : Nat} {m : Bytes} {b : Bool} {s r : Bytes} {t : Tok} (hs : s ≠ []) (h : tokFrom s = some (t, r)) (he : tokE d m b t = 0) :
    readR d m b s = (readR d (tokS m t) (isLit t) r).map (t :: ·) := by
  cases s with
  | nil => exact absurd rfl hs
  | cons c s =>
    have := tokFrom_len h
    simp at this
    unfold readR; rw [List.length_cons, readF, h]; simp only; rw [if_neg (by omega)]
    rw [readF_fuel d s.length r.length _ _ r (by omega) (Nat.le_refl _)]

/-- no error: some bytes more, and no more than there may be -/
theorem tokS_grow {d : Nat} {s : Bytes} {b : Bool} {t : Tok} (h : tokE d s b t = 0) (hd : d ≤ s.length) : s.length < (tokS s t).length ∧ (tokS s t).length - d ≤ 512 := by
  unfold tokE at h
  unfold tokS
  by_cases h1 : t.lit ≠ []
  · rw [if_pos h1] at h ⊢
    have hl : 0 < t.lit.length := List.length_pos_iff.2 h1
    split at h
    · omega
    · split at h
      · omega
      · simp; omega
  · rw [if_neg h1] at h ⊢
    rw [copyB_len]
    split at h
    · omega
    · split at h
      · omega
      · omega
theorem playF_room (d : Nat) : ∀ (l : List Tok) (s : Bytes) (b : Bool), (playF d s b l).2 = 0 → d ≤ s.length → s.length - d ≤ 512 → l.length + (s.length - d) ≤ 512
  | [], _, _, _, _, h => by simpa using h
  | t :: l, s, b, h, hd, hr => by
    rw [playF] at h
    by_cases he : tokE d s b t ≠ 0
    · rw [if_pos he] at h; exact absurd h he
    · rw [if_neg he] at h
      obtain ⟨h1, h2⟩ := tokS_grow (Decidable.not_not.1 he) hd
      have := playF_room d l _ _ h (by omega) h2
      simp; omega
theorem play_room {dict : Bytes} {l : List Tok} (h : (play dict l).2 = 0) : l.length ≤ 512 := by
  unfold play at h
  by_cases hd : maxDict < dict.length
  · rw [if_pos hd] at h; simp at h
  · rw [if_neg hd] at h
    have := playF_room dict.length l dict false h (Nat.le_refl _) (by omega)
    omega

/-- the toks of what is right -/
theorem playF_each (d : Nat) : ∀ (l : List Tok) (s : Bytes) (b : Bool), (playF d s b l).2 = 0 → d ≤ s.length → s.length - d ≤ 512 → ∀ t ∈ l, t.lit.length ≤ 512 ∧ 0 ≤ t.len ∧ t.len ≤ 64 ∧ 0 ≤ t.far ∧ t.far ≤ (d + 512 : Nat)
  | [], _, _, _, _, _ => by simp
  | t :: l, s, b, h, hd, hr => by
    rw [playF] at h
    by_cases he : tokE d s b t ≠ 0
    · rw [if_pos he] at h; exact absurd h he
    · rw [if_neg he] at h
      have he : tokE d s b t = 0 := Decidable.not_not.1 he
      obtain ⟨h1, h2⟩ := tokS_grow he hd
      intro u hu
      rcases List.mem_cons.1 hu with rfl | hu
      · unfold tokE at he
        by_cases h3 : u.lit ≠ []
        · rw [if_pos h3] at he
          split at he
          · omega
          · split at he
            · omega
            · rename_i h4 h5
              simp only [not_or, Decidable.not_not] at h4
              exact ⟨by omega, by omega, by omega, by omega, by omega⟩
        · rw [if_neg h3] at he
          simp only [ne_eq, Decidable.not_not] at h3
          rw [h3]
          split at he
          · omega
          · split at he
            · omega
            · exact ⟨by simp, by omega, by omega, by omega, by omega⟩
      · exact playF_each d l _ _ h (by omega) h2 u hu
theorem play_each {dict : Bytes} {l : List Tok} (h : (play dict l).2 = 0) : ∀ t ∈ l, t.lit.length ≤ 512 ∧ 0 ≤ t.len ∧ t.len ≤ 64 ∧ 0 ≤ t.far ∧ t.far ≤ 1000 := by
  unfold play at h
  by_cases hd : maxDict < dict.length
  · rw [if_pos hd] at h; simp at h
  · rw [if_neg hd] at h
    intro t ht
    have := playF_each dict.length l dict false h (Nat.le_refl _) (by omega) t ht
    unfold maxDict at hd
    omega

theorem readF_eq (d : Nat) : ∀ (f : Nat) (m : Bytes) (b : Bool) (s : Bytes), s.length ≤ f →
    readF d f m b s = match toksF f s with | none => none | some l => if (playF d m b l).2 = 0 then some l else none
  | f, m, b, [], _ => by cases f <;> simp [readF, toksF, playF]
  | 0, _, _, _ :: _, h => by simp at h
  | f + 1, m, b, c :: s', hf => by
    rw [readF, toksF]
    cases h : tokFrom (c :: s') with
    | none => rfl
    | some p =>
      obtain ⟨t, r⟩ := p
      have := tokFrom_len h
      simp at this hf
      simp only
      rw [readF_eq d f _ _ r (by omega)]
      cases toksF f r with
      | none => simp
      | some l =>
        simp only [Option.map_some]
        rw [playF]
        by_cases he : tokE d m b t ≠ 0
        · rw [if_pos he, if_pos he, if_neg he]
        · rw [if_neg he, if_neg he]
          by_cases h0 : (playF d (tokS m t) (isLit t) l).2 = 0
          · rw [if_pos h0, if_pos h0]; rfl
          · rw [if_neg h0, if_neg h0]; rfl
/-- B3: what is read -/
theorem read_eq {dict : Bytes} (hd : dict.length ≤ 256) (s : Bytes) : read dict s = match toksOf s with | none => none | some l => if (play dict l).2 = 0 then some l else none := by
  unfold read toksOf
  rw [readF_eq dict.length s.length dict false s (Nat.le_refl _)]
  cases toksF s.length s with
  | none => rfl
  | some l =>
    have e : play dict l = playF dict.length dict false l := by unfold play; exact if_neg (by unfold maxDict; omega)
    simp only; rw [e]
theorem read_none {dict s : Bytes} (hd : dict.length ≤ 256) (h : toksOf s = none) : read dict s = none := by rw [read_eq hd, h]
theorem read_bad {dict s : Bytes} {l : List Tok} (hd : dict.length ≤ 256) (h : toksOf s = some l) (hp : (play dict l).2 ≠ 0) : read dict s = none := by rw [read_eq hd, h]; exact if_neg hp
theorem read_good {dict s : Bytes} {l : List Tok} (hd : dict.length ≤ 256) (h : toksOf s = some l) (hp : (play dict l).2 = 0) : read dict s = some l := by rw [read_eq hd, h]; exact if_pos hp
theorem read_many {dict s r : Bytes} {l : List Tok} (hd : dict.length ≤ 256) (h : toksOf s = (toksOf r).map (l ++ ·)) (hl : 512 < l.length) : read dict s = none := by
  cases hr : toksOf r with
  | none => rw [hr] at h; exact read_none hd h
  | some k =>
    rw [hr] at h
    refine read_bad hd h fun hp => ?_
    have := play_room hp
    simp at this; omega

/-- a right tok's bytes, read -/
theorem tokFrom_tokB {d : Nat} {s : Bytes} {b : Bool} {t : Tok} (h : tokE d s b t = 0) (hs : s.length ≤ 1000) (rest : Bytes) : tokFrom (tokB t ++ rest) = some (t, rest) := by
  unfold tokE at h
  unfold tokB tokFrom
  by_cases h1 : t.lit ≠ []
  · rw [if_pos h1] at h ⊢
    split at h
    · omega
    · split at h
      · omega
      · rename_i h2 h3
        rw [List.append_assoc, take_nb (by unfold maxNum; omega)]
        have e1 : 2 * t.lit.length % 2 = 0 := by omega
        have e2 : 2 * t.lit.length / 2 = t.lit.length := by omega
        simp only [e1, e2, if_true]
        rw [if_neg (by simp)]
        obtain ⟨lit, far, len⟩ := t
        simp at h2 ⊢
        exact ⟨h2.1.symm, h2.2.1.symm⟩
  · rw [if_neg h1] at h ⊢
    split at h
    · omega
    · split at h
      · omega
      · rename_i h2 h3
        obtain ⟨lit, far, len⟩ := t
        simp only [ne_eq, Decidable.not_not] at h1
        subst h1
        simp only [not_or, Int.not_lt] at h2
        rw [List.append_assoc, take_nb (by unfold maxNum; omega)]
        have e1 : (2 * len.toNat + 1) % 2 = 1 := by omega
        have e2 : (2 * len.toNat + 1) / 2 = len.toNat := by omega
        simp only [e1, e2]
        rw [if_neg (by omega), take_nb (by unfold maxNum; omega)]
        simp only [Option.some.injEq, Prod.mk.injEq, and_true]
        congr 1 <;> omega
theorem tokB_ne (t : Tok) (h : tokB t = []) : False := by
  unfold tokB at h
  split at h <;> (have := congrArg List.length h; simp at this; have h2 := nb_pos (2 * t.lit.length); have h3 := nb_pos (2 * t.len.toNat + 1); first | (simp at h2; simp_all; done) | simp_all)
theorem toksOf_toksB (d : Nat) : ∀ (l : List Tok) (s : Bytes) (b : Bool), (playF d s b l).2 = 0 → d ≤ s.length → s.length - d ≤ 512 → d ≤ 256 → toksOf (toksB l) = some l
  | [], _, _, _, _, _, _ => rfl
  | t :: l, s, b, h, hd, hr, hd2 => by
    rw [playF] at h
    by_cases he : tokE d s b t ≠ 0
    · rw [if_pos he] at h; exact absurd h he
    · rw [if_neg he] at h
      have he : tokE d s b t = 0 := by omega
      obtain ⟨h1, h2⟩ := tokS_grow he hd
      rw [toksB, toksOf_some (fun e => tokB_ne t (List.append_eq_nil_iff.1 e).1) (tokFrom_tokB he (by omega) (toksB l)), toksOf_toksB d l _ _ h (by omega) h2 hd2]
      rfl
/-- READ OF WRITE IS THE TOKS -/
theorem read_write {dict : Bytes} {l : List Tok} (h : (write dict l).2 = 0) : read dict (write dict l).1 = some l := by
  unfold write at h ⊢
  by_cases hp : (play dict l).2 ≠ 0
  · rw [if_pos hp] at h; exact absurd h hp
  · rw [if_neg hp]
    have hp : (play dict l).2 = 0 := by omega
    have hd : dict.length ≤ 256 := by
      by_cases hd : dict.length ≤ 256
      · exact hd
      · unfold play at hp; rw [if_pos (by unfold maxDict; omega)] at hp; simp at hp
    refine read_good hd (toksOf_toksB dict.length l dict false ?_ (Nat.le_refl _) (by omega) hd) hp
    unfold play at hp; rwa [if_neg (by unfold maxDict; omega)] at hp

/-- what is read was written so -/
theorem tokB_tokFrom {d : Nat} {m : Bytes} {b : Bool} {s r : Bytes} {t : Tok} (h : tokFrom s = some (t, r)) (he : tokE d m b t = 0) : s = tokB t ++ r := by
  unfold tokFrom at h
  cases hk : take s with
  | none => rw [hk] at h; simp at h
  | some p =>
    obtain ⟨n, q⟩ := p
    obtain ⟨hs, _⟩ := take_some hk
    rw [hk] at h
    simp only at h
    by_cases h2 : n % 2 = 0
    · rw [if_pos h2] at h
      by_cases h3 : q.length < n / 2
      · rw [if_pos h3] at h; simp at h
      · rw [if_neg h3] at h
        simp only [Option.some.injEq, Prod.mk.injEq] at h
        obtain ⟨rfl, rfl⟩ := h
        have hne : q.take (n / 2) ≠ [] := by
          intro e
          unfold tokE at he
          simp only [e] at he
          simp at he
        have hl : (q.take (n / 2)).length = n / 2 := by simp; omega
        unfold tokB
        rw [if_pos hne]
        simp only [hl]
        rw [show 2 * (n / 2) = n from by omega, List.append_assoc, List.take_append_drop]; exact hs
    · rw [if_neg h2] at h
      cases hf : take q with
      | none => rw [hf] at h; simp at h
      | some p2 =>
        obtain ⟨f, q2⟩ := p2
        obtain ⟨hq, _⟩ := take_some hf
        rw [hf] at h
        simp only [Option.some.injEq, Prod.mk.injEq] at h
        obtain ⟨rfl, rfl⟩ := h
        unfold tokB
        rw [if_neg (by simp)]
        simp only [Int.toNat_natCast]
        rw [show 2 * (n / 2) + 1 = n from by omega, List.append_assoc, ← hq]; exact hs
theorem readF_back (d : Nat) : ∀ (f : Nat) (m : Bytes) (b : Bool) (s : Bytes) (l : List Tok), readF d f m b s = some l → s = toksB l
  | f, m, b, [], l, h => by cases f <;> (simp [readF] at h; subst h; rfl)
  | 0, _, _, _ :: _, _, h => by simp [readF] at h
  | f + 1, m, b, c :: s', l, h => by
    rw [readF] at h
    cases hk : tokFrom (c :: s') with
    | none => rw [hk] at h; simp at h
    | some p =>
      obtain ⟨t, r⟩ := p
      rw [hk] at h
      simp only at h
      by_cases he : tokE d m b t ≠ 0
      · rw [if_pos he] at h; simp at h
      · rw [if_neg he] at h
        cases hr : readF d f (tokS m t) (isLit t) r with
        | none => rw [hr] at h; simp at h
        | some k =>
          rw [hr] at h
          simp at h
          subst h
          rw [tokB_tokFrom hk (Decidable.not_not.1 he), toksB, readF_back d f _ _ _ _ hr]
/-- WRITE OF READ IS THE BYTES -/
theorem write_read {dict s : Bytes} {l : List Tok} (hd : dict.length ≤ 256) (h : read dict s = some l) : write dict l = (s, 0) := by
  have hb : s = toksB l := by unfold read at h; exact readF_back _ _ _ _ _ _ h
  have hp : (play dict l).2 = 0 := by
    rw [read_eq hd] at h
    cases hk : toksOf s with
    | none => rw [hk] at h; simp at h
    | some k =>
      rw [hk] at h
      simp only at h
      by_cases h0 : (play dict k).2 = 0
      · rw [if_pos h0] at h; simp at h; subst h; exact h0
      · rw [if_neg h0] at h; simp at h
  unfold write
  rw [if_neg (by omega), hb]

end Pl
end Go.Proofs.Ytgfkkjcnnecefab

/- The walk of the reference's TokBytes. -/
namespace Go.Proofs.Ytgfkkjcnnecefab
open Go.RowKit Go.Lib Pl
attribute [local go_sem] ext_list app_list

theorem concat_list (x y : List UInt8) (h : x.length + y.length ≤ 9223372036854775807) : Op.stringOp .add ⟨x.toArray⟩ ⟨y.toArray⟩ = (pure (S (x ++ y)) : Sem Value) := by
  unfold Op.stringOp
  have hx : (⟨x.toArray⟩ : ByteArray).size = x.length := rfl
  have hy : (⟨y.toArray⟩ : ByteArray).size = y.length := rfl
  have hm : IntKind.i64.max = 9223372036854775807 := rfl
  simp only [hx, hy, hm]
  rw [if_neg (by omega), app_list]

theorem toksB_snoc (l : List Tok) (t : Tok) : toksB (l ++ [t]) = toksB l ++ tokB t := by
  induction l with
  | nil => simp [toksB]
  | cons u l ih => simp [toksB, ih]
theorem toksB_take {l : List Tok} {k : Nat} {t : Tok} (h : l[k]? = some t) : toksB (l.take (k + 1)) = toksB (l.take k) ++ tokB t := by
  rw [List.take_add_one, h]; exact toksB_snoc _ _

/-- a tok of some sizes -/
def Small (t : Tok) : Prop := t.lit.length ≤ 512 ∧ 0 ≤ t.len ∧ t.len ≤ 64 ∧ 0 ≤ t.far ∧ t.far ≤ 1000

theorem nb_len5 {n : Nat} (h : n ≤ 2000) : (nb n).length ≤ 5 := by
  have := nb_len 4 n (by omega)
  omega
theorem tokB_small {t : Tok} (h : Small t) : (tokB t).length ≤ 1000 := by
  obtain ⟨h1, h2, h3, h4, h5⟩ := h
  have a := nb_len5 (n := 2 * t.lit.length) (by omega)
  have b := nb_len5 (n := 2 * t.len.toNat + 1) (by omega)
  have c := nb_len5 (n := t.far.toNat) (by omega)
  unfold tokB
  split <;> simp <;> omega
theorem toksB_small : ∀ (l : List Tok), (∀ t ∈ l, Small t) → (toksB l).length ≤ 1000 * l.length
  | [], _ => by simp [toksB]
  | t :: l, h => by
    have a := tokB_small (h t (by simp))
    have b := toksB_small l (fun u hu => h u (by simp [hu]))
    simp [toksB]; omega

end Go.Proofs.Ytgfkkjcnnecefab

/- The walk of the reference's bits. -/
namespace Go.Proofs.Ytgfkkjcnnecefab
open Go.RowKit Go.Lib Pl
attribute [local go_sem] ext_list app_list

def bch (b : Bool) : UInt8 := if b then 49 else 48
def bstr (l : List Bool) : Bytes := l.map bch
theorem bstr_len (l : List Bool) : (bstr l).length = l.length := List.length_map ..
theorem bstr_app (a b : List Bool) : bstr (a ++ b) = bstr a ++ bstr b := List.map_append ..
theorem bstr_inj {a b : List Bool} (h : bstr a = bstr b) : a = b := by
  induction a generalizing b with
  | nil => cases b with
    | nil => rfl
    | cons y b => simp [bstr] at h
  | cons x a ih => cases b with
    | nil => simp [bstr] at h
    | cons y b =>
      simp only [bstr, List.map_cons, List.cons.injEq] at h
      rw [ih h.2]
      congr 1
      have h1 := h.1
      cases x <;> cases y <;> first | rfl | (exact absurd h1 (by decide))

end Go.Proofs.Ytgfkkjcnnecefab

/- Arrays of 16 numbers. -/
namespace Go.Proofs.Ytgfkkjcnnecefab
open Go.RowKit Go.Lib Pl

abbrev cells16 (l : List Int) : Array Value := (l.map (Value.int .i64)).toArray
abbrev A16 (l : List Int) : Value := .agg (cells16 l)
theorem info16 : (Try.prog.info? 22).map (·.size) = some 16 := by kernel_rfl

/-- the whole array, read out of its variable -/
theorem wpList_load16 {ops : Array Oper} {rest : List Oper} {o : Oper} {a : Act} {w : World} {Q : Exit → Act → World → Prop} (hgd : o.guard = none) (x : Operand) (ho : o.op = .load 22 x)
    (g : Nat) (hx : a.eval x = .pointer (some ⟨g, 0, none⟩)) (l : List Int) (hl : l.length = 16) {t : TypeId} {fz : Nat × Nat} (hg : w.heap[g]? = some (.cells (cells16 l) t fz))
    (h : wpList Try.prog ops Q rest (a.put o.dst (A16 l)) w) : wpList Try.prog ops Q (o :: rest) a w :=
  wpList_load_row hgd 22 x ho g hx t (cells16 l) fz _ hg Try.underlying22 rfl (by rw [info16]; simp [hl]) h

theorem cell16 {w : World} {g : Nat} {l : List Int} {t : TypeId} {fz : Nat × Nat} (hg : w.heap[g]? = some (.cells (cells16 l) t fz)) {k : Nat} {x : Int} (hk : l[k]? = some x) : w.cell? ⟨g, k, none⟩ = some (.int .i64 x) := by
  rw [cell_of_row w _ k _ _ _ hg]
  simp [cells16, hk]
theorem run_index16 (l : List Int) (hl : l.length = 16) (k : Nat) (x : Int) (hk : l[k]? = some x) (w : World) : (Instr.index 22 (A16 l) (.int .i64 k)).run Try.prog w = .ok (.int .i64 x) w := by
  have hk2 : k < l.length := (List.getElem?_eq_some_iff.1 hk).1
  have hk3 : l[k] = x := (List.getElem?_eq_some_iff.1 hk).2
  unfold Instr.index
  simp [run_underlying Try.underlying22, asIntOf, Result.andThen, part, Try.isAgg3, Try.sizeOf3, cells16, hk]
  intro h2; omega

end Go.Proofs.Ytgfkkjcnnecefab

/- The walk of Play, Check. -/
namespace Go.Proofs.Ytgfkkjcnnecefab
open Go.RowKit Go.Lib Pl
attribute [local go_sem] ext_list app_list

theorem drop_cons {α : Type} {l : List α} {k : Nat} {t : α} (h : l[k]? = some t) : l.drop k = t :: l.drop (k + 1) := by
  have hk : k < l.length := (List.getElem?_eq_some_iff.1 h).1
  rw [List.drop_eq_getElem_cons hk]
  congr 1
  rw [List.getElem?_eq_getElem hk] at h
  injection h

set_option maxHeartbeats 1000000 in
set_option maxRecDepth 100000 in
theorem play_walk (dict : Bytes) (A : Option Addr) (n cap : Nat) (l : List Tok) (w : World) (hl : ToksAt w w.heap.size A n l) (hd : dict.length ≤ 256) (hn : n ≤ 4611686018427387904) :
    Calls Try.prog 45 #[S dict, .slice A n cap] w fun e w' => e = .returned (.tuple #[S (play dict l).1, I (play dict l).2]) ∧ Below w.heap.size w w' := by
  have kb := fun (W : World) => run_bytes_of_string (P := Try.prog) W 9 41 5 ⟨dict.toArray⟩ Try.underlying9 Try.underlying41 Try.underlying5
  go_enter Try.func45, Try.ntmps45
  go_wp2_with fail
  go_loopw [21] (fun i wr => ∃ (k : Nat) (lit : Bool) (s : Bytes), k ≤ n ∧ i = .int .i64 k ∧ Mk wr w.heap.size (w.heap.size + 1) dict.length lit s ∧ dict.length ≤ s.length ∧ s.length ≤ dict.length + 512 ∧
      playF dict.length s lit (l.drop k) = play dict l ∧ Below w.heap.size w wr)
    (fun i _ => n - (intOf i).toNat)
  case atStart =>
    refine ⟨0, false, dict, by omega, rfl, Mk.made w _ dict (Nat.le_refl _) (by omega), by omega, by omega, ?_, ?_⟩
    · unfold play; rw [if_neg (by unfold maxDict; omega)]; rfl
    · exact ((Below.refl _ _).drew.alloc (Nat.le_refl _) _).alloc (by simp) _
  case round =>
    obtain ⟨k, lit, s, hk, rfl, hMk, hs1, hs2, hpl, hbel⟩ := hrel
    by_cases hkn : k < n
    · obtain ⟨b, off, t, rfl, hb, ht, q0, q1, q2⟩ := (hl.below hbel).at_ hkn
      obtain ⟨c, hc⟩ : ∃ c, c = tokE dict.length s lit t := ⟨_, rfl⟩
      have c1 := fun (W : World) (h : Mk W w.heap.size (w.heap.size + 1) dict.length lit s) => tok_any w.heap.size (w.heap.size + 1) dict.length lit s t W h hs1 hs2 hd
      rw [← hc] at c1
      have C1 := hide c1
      have HC := hide hc
      have HP := hide hpl
      have HT := hide ht
      clear c1 hc hpl ht
      by_cases hz : c = 0
      · subst hz
        go_wp2_with fail
        refine (unhide C1 _ (hMk.alloc _)).mono ?_
        rintro e w1 ⟨rfl, hmk1, hb1, _⟩
        have hmk1 := hmk1 (by first | trivial | exact (unhide HC).symm)
        go_wp2_with fail
        go_roundw
        case rel =>
          obtain ⟨h1, h2, _⟩ := tokS_len (unhide HC).symm hs2 hs1
          refine ⟨k + 1, isLit t, tokS s t, by omega, by go_num, hmk1, h1, h2, ?_, (hbel.alloc hbel.size _).trans hb1⟩
          rw [← unhide HP, drop_cons (unhide HT), playF, if_neg (by rw [← unhide HC]; omega)]
        case measure => simp [intOf]; omega
      · have HZ := hide hz
        have z1 : ((c : Int) == 0) = false := beq_eq_false_iff_ne.2 (by omega)
        have z2 : ((c : Int) != 0) = true := by rw [bne_iff_ne]; omega
        clear hz
        go_wp2_with fail
        refine (unhide C1 _ (hMk.alloc _)).mono ?_
        rintro e w1 ⟨rfl, _, hb1, _⟩
        go_wp2_with fail
        go_ret2
        rw [← unhide HP, drop_cons (unhide HT), playF, if_pos (by rw [← unhide HC]; exact unhide HZ), ← unhide HC]
        exact ⟨rfl, (hbel.alloc hbel.size _).trans hb1⟩
    · have hkn2 : k = n := by omega
      have hpl2 : play dict l = (s.drop dict.length, 0) := by
        rw [← hpl, hkn2, List.drop_of_length_le (by have := hl.1; omega), playF]
      obtain ⟨hbM, A1, cap1, hblk, hown⟩ := hMk
      have c0 : wr.cell? ⟨w.heap.size + 1, 0, none⟩ = some (.slice A1 s.length cap1) := by rw [cell_of_row wr _ 0 _ _ _ hblk]; rfl
      have HP := hide hpl2
      have HO := hide hown
      clear hpl2 hkn2 hblk hown hpl
      have st1 := run_str_cut (P := Try.prog) (k := dict.length) (unhide HO) 41 9 Try.underlying41 Try.underlying5 Try.underlying9
      have hnc : s.length ≤ cap1 := by
        rcases (unhide HO).2 with ⟨hv, h0⟩ | ⟨g, cap', cur, fz, hv, _, _, _, h5, _⟩
        · omega
        · injection hv with _ _ h6; omega
      by_cases hcd : cap1 = dict.length
      · have hsl : s.length - dict.length = 0 := by omega
        have st0 := fun (p : Option Addr) (c : Nat) => run_str_zero (P := Try.prog) wr p c 41 9 5 Try.underlying41 Try.underlying5 Try.underlying9
        have hdr : s.drop dict.length = [] := List.drop_of_length_le (by omega)
        have HD := hide hdr
        clear st1 hdr
        go_wp2_with fail
        go_ret2
        rw [unhide HP, unhide HD]
        exact ⟨rfl, hbel⟩
      · go_wp2_with fail
        go_ret2
        rw [unhide HP]
        exact ⟨rfl, hbel⟩

set_option maxHeartbeats 1000000 in
set_option maxRecDepth 100000 in
theorem play_many (dict : Bytes) (A : Option Addr) (n cap : Nat) (w : World) (hd : 256 < dict.length) (hd2 : dict.length ≤ 9223372036854775807) :
    Calls Try.prog 45 #[S dict, .slice A n cap] w fun e w' => e = .returned (.tuple #[S [], I 2]) ∧ Below w.heap.size w w' := by
  go_enter Try.func45, Try.ntmps45
  go_wp2_with fail
  go_ret2
  exact ⟨rfl, Below.refl _ _⟩

/-- Play -/
theorem play_any (dict : Bytes) (A : Option Addr) (n cap : Nat) (l : List Tok) (w : World) (hl : ToksAt w w.heap.size A n l) (hd : dict.length ≤ 9223372036854775807) (hn : n ≤ 4611686018427387904) :
    Calls Try.prog 45 #[S dict, .slice A n cap] w fun e w' => e = .returned (.tuple #[S (play dict l).1, I (play dict l).2]) ∧ Below w.heap.size w w' := by
  by_cases h : dict.length ≤ 256
  · exact play_walk dict A n cap l w hl h hn
  · have e : play dict l = ([], 2) := by unfold play; exact if_pos (by unfold maxDict; omega)
    rw [e]; exact play_many dict A n cap w (by omega) hd

set_option maxHeartbeats 1000000 in
set_option maxRecDepth 100000 in
/-- Check -/
theorem check_any (dict : Bytes) (A : Option Addr) (n cap : Nat) (l : List Tok) (w : World) (hl : ToksAt w w.heap.size A n l) (hd : dict.length ≤ 9223372036854775807) (hn : n ≤ 4611686018427387904) :
    Calls Try.prog 38 #[S dict, .slice A n cap] w fun e w' => e = .returned (I (play dict l).2) ∧ Below w.heap.size w w' := by
  have c1 := hide (play_any dict A n cap l w hl hd hn)
  go_enter Try.func38, Try.ntmps38
  go_wp2_with fail
  refine (unhide c1).mono ?_
  rintro e w1 ⟨rfl, hb⟩
  go_wp2_with fail
  go_ret
  exact ⟨rfl, hb⟩

end Go.Proofs.Ytgfkkjcnnecefab

/- The walk of the reference's CheckToks. -/
namespace Go.Proofs.Ytgfkkjcnnecefab
open Go.RowKit Go.Lib Pl
attribute [local go_sem] ext_list app_list

theorem slice_one {s : Bytes} {a : Nat} {c : UInt8} (h : s[a]? = some c) : slice s a (a + 1) = [c] := by
  unfold slice
  rw [List.take_add_one, h]
  have : a < s.length := (List.getElem?_eq_some_iff.1 h).1
  rw [List.drop_append_of_le_length (by simp; omega), List.drop_of_length_le (by simp; omega)]
  rfl

/-- the tok before the k-th is as it is -/
def prevLit (l : List Tok) (k : Nat) : Bool := decide (0 < k) && (match l[k - 1]? with | some t => isLit t | none => false)
theorem prevLit_succ {l : List Tok} {k : Nat} {t : Tok} (h : l[k]? = some t) : prevLit l (k + 1) = isLit t := by
  unfold prevLit; simp [h]

end Go.Proofs.Ytgfkkjcnnecefab

/- The walks of code.Check and the reference's CheckCode. -/
namespace Go.Proofs.Ytgfkkjcnnecefab
open Go.RowKit Go.Lib Pl

theorem pw_wrap (m : Nat) : wrap64 ((2 : Int) ^ (15 - m)) = (pw m : Int) := by
  have h : (2 : Int) ^ (15 - m) = ((pw m : Nat) : Int) := by unfold pw; norm_cast
  have := pw_le m
  rw [h]; exact IntWalk.wrap64_in _ ⟨by omega, by omega⟩
theorem kr1_zero {x : Int} (h : ¬ 0 < x) : kr1 x = 0 := by unfold kr1; rw [if_neg h]
theorem kr1_pos {m : Nat} (h : 0 < m) : kr1 (m : Int) = pw m := by unfold kr1; rw [if_pos (by omega)]; rfl
theorem kr_take_le (l : List Int) (k : Nat) (hk : k ≤ 16) : kr (l.take k) ≤ 524288 := by
  have := kr_le (l.take k)
  rw [List.length_take] at this
  omega

set_option maxHeartbeats 2000000 in
set_option maxRecDepth 100000 in
theorem checkCode_any (l : List Int) (w : World) (hl : l.length = 16) :
    Calls Try.prog 11 #[A16 l] w fun e w' => e = .returned (I (checkE l)) ∧ Below w.heap.size w w' := by
  have hg0 := heap_alloc_new w (.cells (cells16 l) 22)
  have HG0 := hide hg0
  have HL := hide hl
  have hbel := (Below.refl w.heap.size w).alloc (Nat.le_refl _) (.cells (cells16 l) 22)
  have HBEL := hide hbel
  clear hl hg0 hbel
  go_enter Try.func11, Try.ntmps11
  go_wp2_with (first | (refine wpList_load16 rfl (.tmp 1) rfl w.heap.size rfl l (unhide HL) (unhide HG0) ?_) | fail)
  go_loop [3, 5, 7] (fun s _ i => ∃ (k : Nat) (r : Int), k ≤ 16 ∧ i = .int .i64 k ∧ s = .int .i64 r ∧ r = 32768 - (kr (l.take k) : Int) ∧ (l.take k).any badL = false) (fun _ _ i => 16 - (intOf i).toNat)
  case atStart => exact ⟨0, 32768, by omega, rfl, rfl, by simp [kr], by simp⟩
  case round =>
    obtain ⟨k, r, hk, rfl, rfl, hr, hnb⟩ := hrel
    have hkl := kr_take_le l k hk
    have hr1 : -1000000 ≤ r := by omega
    have hr2 : r ≤ 32768 := by omega
    have HR := hide hr
    have HNB := hide hnb
    clear hr hnb hkl
    by_cases hk16 : k < 16
    · obtain ⟨x, hx⟩ : ∃ x, l[k]? = some x := ⟨_, List.getElem?_eq_getElem (by have := unhide HL; omega)⟩
      have hix := run_index16 l (unhide HL) k x hx
      have HX := hide hx
      clear hx
      by_cases hb : x < 0 ∨ 15 < x
      · have hres : checkE l = 3 := checkE_bad (bad_of_take (k := k + 1) (by rw [bad_take (unhide HX)]; simp [badL, hb]))
        have HRES := hide hres
        have hsz : (x < 0) ∨ (decide (x < 0) = false ∧ 15 < x) := by
          rcases hb with h | h
          · exact .inl h
          · exact .inr ⟨by simp; omega, h⟩
        clear hres hb
        rcases hsz with h0 | ⟨h0, h1⟩
        all_goals
          go_wp2_with fail
          go_ret
          exact ⟨by rw [unhide HRES]; rfl, unhide HBEL⟩
      · have hnb2 : (l.take (k + 1)).any badL = false := by rw [bad_take (unhide HX), unhide HNB]; simp [badL]; omega
        have HN2 := hide hnb2
        obtain ⟨m, rfl⟩ := Int.eq_ofNat_of_zero_le (show 0 ≤ x by omega)
        have hm15 : m ≤ 15 := by omega
        have d1 : decide ((m : Int) < 0) = false := by simp
        have hkt := kr_take (unhide HX)
        have HKT := hide hkt
        have hpw := pw_wrap m
        have hpl := pw_le m
        clear hnb2 hkt hb
        by_cases hp : 0 < m
        · have hk1 := kr1_pos hp
          have HK1 := hide hk1
          clear hk1
          go_wp2_with fail
          go_round
          case rel => exact ⟨k + 1, r - (pw m : Nat), by omega, by go_num, rfl, by rw [unhide HR, unhide HKT, unhide HK1]; omega, unhide HN2⟩
          case measure => simp [intOf]; omega
        · have hk1 := kr1_zero (x := (m : Int)) (by omega)
          have HK1 := hide hk1
          clear hk1
          go_wp2_with fail
          go_round
          case rel => exact ⟨k + 1, r, by omega, by go_num, rfl, by rw [unhide HR, unhide HKT, unhide HK1]; omega, unhide HN2⟩
          case measure => simp [intOf]; omega
    · have hfin : l.take k = l := List.take_of_length_le (by have := unhide HL; omega)
      have hnb := unhide HNB
      have hr := unhide HR
      rw [hfin] at hnb hr
      by_cases hbad : kr l = 0 ∨ 32768 < kr l
      · have hres := checkE_form hnb hbad
        have HRES := hide hres
        have hsz : (r < 0) ∨ (decide (r < 0) = false ∧ (r == 32768) = true) := by
          rcases hbad with h | h
          · exact .inr ⟨by simp; omega, by rw [beq_iff_eq]; omega⟩
          · exact .inl (by omega)
        clear hres hbad hnb hr hfin
        rcases hsz with h0 | ⟨h0, h1⟩
        all_goals
          go_wp2_with fail
          go_ret
          exact ⟨by rw [unhide HRES]; rfl, unhide HBEL⟩
      · have hres := checkE_ok hnb hbad
        have HRES := hide hres
        have h0 : decide (r < 0) = false := by simp; omega
        have h1 : (r == 32768) = false := by rw [beq_eq_false_iff_ne]; omega
        clear hres hbad hnb hr hfin
        go_wp2_with fail
        go_ret
        exact ⟨by rw [unhide HRES]; rfl, unhide HBEL⟩

end Go.Proofs.Ytgfkkjcnnecefab

/- The walk of the reference's words. -/
namespace Go.Proofs.Ytgfkkjcnnecefab
open Go.RowKit Go.Lib Pl

/-- an array of sixteen strings -/
abbrev cellsS (o : Nat → Bytes) : Array Value := ((List.range 16).map fun j => S (o j)).toArray
abbrev AS (o : Nat → Bytes) : Value := .agg (cellsS o)
theorem cellsS_get (o : Nat → Bytes) (k : Nat) (hk : k < 16) : (cellsS o)[k]? = some (S (o k)) := by simp [cellsS, hk]
theorem cellsS_set (o : Nat → Bytes) (k : Nat) (b : Bytes) (hk : k < 16) : (cellsS o).setIfInBounds k (S b) = cellsS fun j => if j = k then b else o j := by
  apply Array.ext_getElem?
  intro j
  rw [Array.getElem?_setIfInBounds]
  by_cases hj : j < 16
  · rw [cellsS_get _ j hj]
    by_cases e : k = j
    · subst e; simp [hj]
    · rw [if_neg e, cellsS_get _ j hj, if_neg (fun h => e h.symm)]
  · have e1 : ∀ o, (cellsS o)[j]? = none := fun o => by simp [cellsS]; omega
    rw [e1, e1]
    split
    · split
      · rename_i h1 h2; subst h1; simp [cellsS] at h2; omega
      · rfl
    · rfl
theorem cellsS_congr {o o' : Nat → Bytes} (h : ∀ j, j < 16 → o j = o' j) : cellsS o = cellsS o' := by
  apply Array.ext_getElem?
  intro j
  by_cases hj : j < 16
  · rw [cellsS_get _ j hj, cellsS_get _ j hj, h j hj]
  · have e1 : ∀ o, (cellsS o)[j]? = none := fun o => by simp [cellsS]; omega
    rw [e1, e1]
theorem cellsS_one (o : Nat → Bytes) : (cellsS o).all (·.oneCell') = true := by
  rw [Array.all_eq_true_iff_forall_mem]
  intro v hv
  simp only [cellsS, List.mem_toArray, List.mem_map] at hv
  obtain ⟨j, _, rfl⟩ := hv
  rfl
theorem cellsS_size (o : Nat → Bytes) : (cellsS o).size = 16 := by simp [cellsS]

/-- what lies there when the words of the earlier ones are written -/
def outW (l : List Int) (s i : Nat) (j : Nat) : Bytes := if Pl.early l s i j = true then bstr (wordB l j) else []
/-- where the reference stands -/
structure RefAt (l : List Int) (s i n q : Nat) : Prop where
  le : q ≤ s
  q15 : q ≤ 15
  val : n * pw q = preS l s i
theorem RefAt.small {l : List Int} {s i n q : Nat} (h : RefAt l s i n q) (hr : Right l) : n ≤ 32768 := by
  have h1 := Nat.le_trans (preS_le l s i) hr.sum
  rw [← h.val] at h1
  exact Nat.le_trans (Nat.le_mul_of_pos_right n (pw_pos q)) h1
theorem RefAt.start (l : List Int) : RefAt l 1 0 0 0 := ⟨by omega, by omega, by rw [preS_zero]; omega⟩
theorem RefAt.skip {l : List Int} {s i n q : Nat} (h : RefAt l s i n q) (hn : ln l i ≠ s) : RefAt l s (i + 1) n q := ⟨h.le, h.q15, by rw [preS_skip hn]; exact h.val⟩
theorem RefAt.row {l : List Int} {s n q : Nat} (h : RefAt l s 16 n q) : RefAt l (s + 1) 0 n q := ⟨by have := h.le; omega, h.q15, by rw [preS_row]; exact h.val⟩
theorem RefAt.number {l : List Int} {s i n q : Nat} (h : RefAt l s i n q) (hs : s ≤ 15) (hn : ln l i = s) : wv l i = n * 2 ^ (s - q) := by
  have h1 := wv_mul l i
  rw [hn, ← h.val, pw_split h.le hs, ← Nat.mul_assoc] at h1
  exact Nat.eq_of_mul_eq_mul_right (pw_pos s) h1
theorem RefAt.hit {l : List Int} {s i n q : Nat} (_h : RefAt l s i n q) (hs : s ≤ 15) (h0 : 0 < s) (hi : i < 16) (hn : ln l i = s) : RefAt l s (i + 1) (wv l i + 1) s := by
  refine ⟨Nat.le_refl _, hs, ?_⟩
  have h1 := wv_mul l i
  rw [hn] at h1
  rw [preS_hit hn h0 hi, Nat.add_mul, h1, Nat.one_mul]
theorem outW_start (l : List Int) : outW l 1 0 = fun _ => [] := by
  funext j
  unfold outW
  rw [if_neg]
  rw [early_iff]; omega
theorem outW_skip {l : List Int} {s i : Nat} (hn : ln l i ≠ s) : outW l s (i + 1) = outW l s i := by
  funext j
  unfold outW
  rw [early_skip hn]
theorem outW_hit {l : List Int} {s i : Nat} (hn : ln l i = s) (h0 : 0 < s) : outW l s (i + 1) = fun j => if j = i then bstr (bt (wv l i) s) else outW l s i j := by
  funext j
  unfold outW
  rw [early_hit hn h0]
  by_cases e : j = i
  · subst e; simp [wordB, hn]
  · simp [e]
theorem outW_row (l : List Int) (s : Nat) : cellsS (outW l s 16) = cellsS (outW l (s + 1) 0) :=
  cellsS_congr fun j hj => by unfold outW; rw [early_row hj]
theorem outW_end {l : List Int} (hr : Right l) : cellsS (outW l 16 0) = cellsS fun j => bstr (wordB l j) :=
  cellsS_congr fun j _ => by
    unfold outW
    by_cases e : Pl.early l 16 0 j = true
    · rw [if_pos e]
    · rw [if_neg e]
      rw [early_iff] at e
      have := hr.one j
      have h0 : ln l j = 0 := by omega
      unfold wordB
      rw [h0]; rfl
theorem ln_get {l : List Int} (hr : Right l) {i : Nat} (hi : i < 16) : l[i]? = some (ln l i : Int) := by
  have hl := hr.len
  have h1 : l[i]? = some l[i] := List.getElem?_eq_getElem (by omega)
  have h2 := hr.nn _ (List.getElem_mem (show i < l.length by omega))
  rw [h1]
  unfold ln
  rw [List.getD_eq_getElem?_getD, h1]
  simp; omega

theorem shl_fact {x d v : Nat} (h : v = x * 2 ^ d) (hd : d ≤ 64) (hv : v ≤ 100000) : wrap64 ((x : Int) * 2 ^ min d 64) = (v : Int) := by
  have e : (x : Int) * 2 ^ d = ((x * 2 ^ d : Nat) : Int) := by norm_cast
  rw [Nat.min_eq_left hd, e, ← h]
  clear e h
  exact IntWalk.wrap64_in _ ⟨by omega, by omega⟩

end Go.Proofs.Ytgfkkjcnnecefab

/- Plain mathematics of chapter 3: writing and reading with a code. No program in sight. -/
namespace Go.Proofs.Ytgfkkjcnnecefab
namespace Pl

def zeros (n : Nat) : List Bool := List.replicate n false
theorem zeros_len (n : Nat) : (zeros n).length = n := List.length_replicate
theorem zeros_add (a b : Nat) : zeros a ++ zeros b = zeros (a + b) := List.replicate_append_replicate
theorem val_zeros (n : Nat) : val (zeros n) = 0 := by
  induction n with
  | zero => rfl
  | succ n ih =>
    have : zeros (n + 1) = zeros n ++ [false] := by rw [← zeros_add]; rfl
    rw [this, val_snoc, ih]; rfl
/-- bytes as bits -/
def unpackB (b : Bytes) : List Bool := b.flatMap fun c => bt c.toNat 8
theorem unpackB_cons (c : UInt8) (b : Bytes) : unpackB (c :: b) = bt c.toNat 8 ++ unpackB b := by simp [unpackB]
theorem unpackB_len (b : Bytes) : (unpackB b).length = 8 * b.length := by
  induction b with
  | nil => rfl
  | cons c b ih => rw [unpackB_cons, List.length_append, bt_len, ih, List.length_cons]; omega
theorem unpackB_app (a b : Bytes) : unpackB (a ++ b) = unpackB a ++ unpackB b := by simp [unpackB]
/-- at most eight bits, as a byte -/
def byteOfB (x : List Bool) : UInt8 := UInt8.ofNat (val x * 2 ^ (8 - x.length))
theorem byteOfB_nat {x : List Bool} (h : x.length ≤ 8) : (byteOfB x).toNat = val x * 2 ^ (8 - x.length) := by
  have h1 := val_lt x
  have h2 : val x * 2 ^ (8 - x.length) < 2 ^ x.length * 2 ^ (8 - x.length) := Nat.mul_lt_mul_of_pos_right h1 (Nat.pow_pos (by omega))
  rw [← Nat.pow_add, show x.length + (8 - x.length) = 8 from by omega] at h2
  show (UInt8.ofNat _).toNat = _
  rw [UInt8.toNat_ofNat']
  exact Nat.mod_eq_of_lt (by simpa using h2)
theorem bt_byteOfB {x : List Bool} (h : x.length ≤ 8) : bt (byteOfB x).toNat 8 = x ++ zeros (8 - x.length) := by
  rw [byteOfB_nat h]
  have h1 : val (x ++ zeros (8 - x.length)) = val x * 2 ^ (8 - x.length) := by rw [val_app, val_zeros, zeros_len]; omega
  have h2 := bt_val (x ++ zeros (8 - x.length))
  rw [h1, List.length_append, zeros_len, show x.length + (8 - x.length) = 8 from by omega] at h2
  exact h2
theorem byteOfB_bt (c : UInt8) : byteOfB (bt c.toNat 8) = c := by
  have := c.toNat_lt
  apply UInt8.toNat_inj.1
  rw [byteOfB_nat (by rw [bt_len]; omega), val_bt, bt_len]
  simp
def packN : Nat → List Bool → Bytes
  | 0, _ => []
  | n + 1, x => byteOfB (x.take 8) :: packN n (x.drop 8)
def packB (x : List Bool) : Bytes := packN ((x.length + 7) / 8) x
theorem packN_len (n : Nat) (x : List Bool) : (packN n x).length = n := by
  induction n generalizing x with
  | zero => rfl
  | succ n ih => rw [packN, List.length_cons, ih]
theorem unpack_packN : ∀ (n : Nat) (x : List Bool), x.length ≤ 8 * n → unpackB (packN n x) = x ++ zeros (8 * n - x.length)
  | 0, x, h => by
    have : x = [] := List.length_eq_zero_iff.1 (by omega)
    subst this; rfl
  | n + 1, x, h => by
    rw [packN, unpackB_cons, bt_byteOfB (by rw [List.length_take]; omega), unpack_packN n _ (by rw [List.length_drop]; omega), List.length_take, List.length_drop]
    by_cases h8 : 8 ≤ x.length
    · rw [show 8 - min 8 x.length = 0 from by omega, show 8 * n - (x.length - 8) = 8 * (n + 1) - x.length from by omega]
      rw [show zeros 0 = [] from rfl, List.append_nil, ← List.append_assoc, List.take_append_drop]
    · rw [List.take_of_length_le (by omega), List.drop_eq_nil_of_le (by omega), List.nil_append, List.append_assoc, zeros_add]
      congr 2; omega
theorem packN_unpack (b : Bytes) : packN b.length (unpackB b) = b := by
  induction b with
  | nil => rfl
  | cons c b ih =>
    rw [List.length_cons, packN, unpackB_cons]
    have h8 := bt_len 8 c.toNat
    rw [List.take_append_of_le_length (by omega), List.take_of_length_le (by omega), byteOfB_bt, List.drop_append_of_le_length (by omega), List.drop_eq_nil_of_le (by omega), List.nil_append, ih]
theorem unpackB_inj {a b : Bytes} (h : unpackB a = unpackB b) : a = b := by
  have hl := congrArg List.length h
  rw [unpackB_len, unpackB_len] at hl
  rw [← packN_unpack a, ← packN_unpack b, h, show a.length = b.length from by omega]
theorem packB_len (x : List Bool) : (packB x).length = (x.length + 7) / 8 := packN_len _ _
theorem unpack_packB (x : List Bool) : unpackB (packB x) = x ++ zeros (8 * ((x.length + 7) / 8) - x.length) := unpack_packN _ _ (by omega)
theorem pack_iff (x rest : List Bool) (b : Bytes) (h : unpackB b = x ++ rest) : packB x = b ↔ rest.length < 8 ∧ rest = zeros rest.length := by
  constructor
  · intro e
    have h2 := unpack_packB x
    rw [e, h] at h2
    have h3 := List.append_cancel_left h2
    rw [h3, zeros_len]
    exact ⟨by omega, rfl⟩
  · rintro ⟨h1, h2⟩
    apply unpackB_inj
    rw [unpack_packB, h]
    have hl := congrArg List.length h
    rw [unpackB_len, List.length_append] at hl
    rw [h2]
    congr 2; omega
/-- one byte more -/
theorem packN_app (n m : Nat) (x y : List Bool) (h : x.length = 8 * n) : packN (n + m) (x ++ y) = packN n x ++ packN m y := by
  induction n generalizing x with
  | zero =>
    have : x = [] := List.length_eq_zero_iff.1 (by omega)
    subst this; simp [packN]
  | succ n ih =>
    rw [show n + 1 + m = (n + m) + 1 from by omega, packN, packN, List.take_append_of_le_length (by omega), List.drop_append_of_le_length (by omega), ih _ (by rw [List.length_drop]; omega), List.cons_append]

theorem packN_snoc : ∀ (n : Nat) (x : List Bool), packN (n + 1) x = packN n x ++ [byteOfB ((x.drop (8 * n)).take 8)]
  | 0, x => by simp [packN]
  | n + 1, x => by
    rw [packN, packN_snoc n (x.drop 8), packN, List.cons_append, List.drop_drop, show 8 + 8 * n = 8 * (n + 1) from by omega]
theorem packN_pad (x : List Bool) (n : Nat) (h : x.length ≤ 8 * n) : packN n (x ++ zeros (8 * n - x.length)) = packN n x := by
  apply unpackB_inj
  rw [unpack_packN _ _ (by rw [List.length_append, zeros_len]; omega), unpack_packN _ _ h, List.length_append, zeros_len, show 8 * n - (x.length + (8 * n - x.length)) = 0 from by omega]
  simp [zeros]
/-- half bytes -/
def nibs (s : Bytes) : List Nat := s.flatMap fun c => [c.toNat / 16, c.toNat % 16]
theorem nibs_cons (c : UInt8) (s : Bytes) : nibs (c :: s) = c.toNat / 16 :: c.toNat % 16 :: nibs s := by simp [nibs]
theorem nibs_len (s : Bytes) : (nibs s).length = 2 * s.length := by
  induction s with
  | nil => rfl
  | cons c s ih => rw [nibs_cons, List.length_cons, List.length_cons, ih, List.length_cons]; omega
theorem nibs_lt (s : Bytes) : ∀ k ∈ nibs s, k < 16 := by
  induction s with
  | nil => intro k hk; simp [nibs] at hk
  | cons c s ih =>
    intro k hk
    have := c.toNat_lt
    rw [nibs_cons, List.mem_cons, List.mem_cons] at hk
    rcases hk with rfl | rfl | hk
    · omega
    · omega
    · exact ih k hk
theorem nibs_app (a b : Bytes) : nibs (a ++ b) = nibs a ++ nibs b := by simp [nibs]
def half : List Nat → Bytes
  | [] => []
  | [a] => [UInt8.ofNat (16 * a)]
  | a :: b :: r => UInt8.ofNat (16 * a + b) :: half r
theorem half_nibs (s : Bytes) : half (nibs s) = s := by
  induction s with
  | nil => rfl
  | cons c s ih =>
    rw [nibs_cons, half, ih, Nat.div_add_mod]
    congr 1
    exact UInt8.ofNat_toNat
theorem nibs_half : ∀ (ks : List Nat), ks.length % 2 = 0 → (∀ k ∈ ks, k < 16) → nibs (half ks) = ks
  | [], _, _ => rfl
  | [_], h, _ => by simp at h
  | a :: b :: r, h, hk => by
    have ha := hk a (by simp)
    have hb := hk b (by simp)
    have e : (UInt8.ofNat (16 * a + b)).toNat = 16 * a + b := by rw [UInt8.toNat_ofNat']; exact Nat.mod_eq_of_lt (by simp; omega)
    rw [half, nibs_cons, e, nibs_half r (by simp at h; omega) (fun k hk' => hk k (by simp [hk']))]
    congr 1
    · omega
    · congr 1; omega
theorem half_app : ∀ (a b : List Nat), a.length % 2 = 0 → half (a ++ b) = half a ++ half b
  | [], _, _ => rfl
  | [_], _, h => by simp at h
  | x :: y :: r, b, h => by
    rw [List.cons_append, List.cons_append, half, half, List.cons_append, half_app r b (by simp at h; omega)]
theorem half_len : ∀ (ks : List Nat), (half ks).length = (ks.length + 1) / 2
  | [] => rfl
  | [_] => by simp [half]
  | a :: b :: r => by rw [half, List.length_cons, half_len r, List.length_cons, List.length_cons]; omega

/-- the bits of a text -/
def encK (l : List Int) (ks : List Nat) : List Bool := ks.flatMap (wordB l)
theorem encK_app (l : List Int) (a b : List Nat) : encK l (a ++ b) = encK l a ++ encK l b := by simp [encK]
theorem encK_cons (l : List Int) (a : Nat) (b : List Nat) : encK l (a :: b) = wordB l a ++ encK l b := by simp [encK]
theorem encK_len {l : List Int} (h : Right l) (ks : List Nat) : (encK l ks).length ≤ 15 * ks.length := by
  induction ks with
  | nil => simp [encK]
  | cons a ks ih =>
    have := h.one a
    rw [encK_cons, List.length_append, wordB_len, List.length_cons]; omega
def lacks (l : List Int) (ks : List Nat) : Bool := ks.any fun k => decide (ln l k = 0)
def writeE (l : List Int) (s : Bytes) : Nat := if checkE l ≠ 0 then checkE l else if 1024 < s.length then 2 else if lacks l (nibs s) = true then 5 else 0
def writeS (l : List Int) (s : Bytes) : Bytes := if writeE l s = 0 then packB (encK l (nibs s)) else []

/-- the sign with whose word bits begin -/
def hitB (l : List Int) (b : List Bool) (i : Nat) : Bool := decide (0 < ln l i) && (wordB l i).isPrefixOf b
def frontP (l : List Int) (b : List Bool) : Option Nat := (List.range 16).find? (hitB l b)
theorem hit_iff (l : List Int) (b : List Bool) (i : Nat) : hitB l b i = true ↔ 0 < ln l i ∧ wordB l i <+: b := by
  unfold hitB
  rw [Bool.and_eq_true, decide_eq_true_eq, List.isPrefixOf_iff_prefix]
theorem front_some {l : List Int} {b : List Bool} {i : Nat} (h : frontP l b = some i) : i < 16 ∧ 0 < ln l i ∧ wordB l i <+: b := by
  unfold frontP at h
  rw [List.find?_range_eq_some] at h
  have := (hit_iff l b i).1 h.1
  exact ⟨by simpa using h.2.1, this.1, this.2⟩
theorem front_hit {l : List Int} (hr : Right l) {b : List Bool} {i : Nat} (hi : i < 16) (h0 : 0 < ln l i) (hp : wordB l i <+: b) : frontP l b = some i := by
  unfold frontP
  rw [List.find?_range_eq_some]
  refine ⟨(hit_iff _ _ _).2 ⟨h0, hp⟩, by simpa using hi, fun j hj => ?_⟩
  rw [Bool.not_eq_true']
  cases hq : hitB l b j with
  | false => rfl
  | true =>
    exfalso
    obtain ⟨h1, h2⟩ := (hit_iff _ _ _).1 hq
    rcases Nat.le_total (ln l i) (ln l j) with hle | hle
    · have := word_free hr hi (by omega) h0 h1 (List.prefix_of_prefix_length_le hp h2 (by rw [wordB_len, wordB_len]; exact hle))
      omega
    · have := word_free hr (by omega) hi h1 h0 (List.prefix_of_prefix_length_le h2 hp (by rw [wordB_len, wordB_len]; exact hle))
      omega
theorem front_none {l : List Int} {b : List Bool} (h : frontP l b = none) {i : Nat} (hi : i < 16) : ¬ (0 < ln l i ∧ wordB l i <+: b) := by
  unfold frontP at h
  rw [List.find?_range_eq_none] at h
  have := h i hi
  rw [Bool.not_eq_true'] at this
  rw [← hit_iff, this]; simp

/-- so many signs, and the bits behind them -/
def decN (l : List Int) : Nat → List Bool → Option (List Nat × List Bool)
  | 0, b => some ([], b)
  | k + 1, b => match frontP l b with
    | none => none
    | some i => match decN l k (b.drop (ln l i)) with
      | none => none
      | some (ks, r) => some (i :: ks, r)
theorem dec_some {l : List Int} : ∀ (k : Nat) (b : List Bool) (ks : List Nat) (r : List Bool), decN l k b = some (ks, r) → ks.length = k ∧ b = encK l ks ++ r ∧ ∀ i ∈ ks, i < 16 ∧ 0 < ln l i
  | 0, b, ks, r, h => by
    rw [decN] at h
    injection h with h; injection h with h1 h2
    subst h1; subst h2
    exact ⟨rfl, rfl, by simp⟩
  | k + 1, b, ks, r, h => by
    rw [decN] at h
    cases hf : frontP l b with
    | none => rw [hf] at h; cases h
    | some i =>
      rw [hf] at h
      simp only at h
      cases hd : decN l k (b.drop (ln l i)) with
      | none => rw [hd] at h; cases h
      | some q =>
        obtain ⟨ks', r'⟩ := q
        rw [hd] at h
        simp only at h
        injection h with h; injection h with h1 h2
        subst h1; subst h2
        obtain ⟨e1, e2, e3⟩ := dec_some k _ _ _ hd
        obtain ⟨h1, h2, h3⟩ := front_some hf
        refine ⟨by rw [List.length_cons, e1], ?_, ?_⟩
        · obtain ⟨t, ht⟩ := h3
          have h4 : b.drop (ln l i) = t := by rw [← ht, List.drop_append_of_le_length (by rw [wordB_len]; omega), List.drop_eq_nil_of_le (by rw [wordB_len]; omega), List.nil_append]
          rw [encK_cons, List.append_assoc, ← e2, h4, ht]
        · intro j hj
          rcases List.mem_cons.1 hj with rfl | hj
          · exact ⟨h1, h2⟩
          · exact e3 j hj
theorem dec_enc {l : List Int} (hr : Right l) (r : List Bool) : ∀ (ks : List Nat), (∀ i ∈ ks, i < 16 ∧ 0 < ln l i) → decN l ks.length (encK l ks ++ r) = some (ks, r)
  | [], _ => rfl
  | i :: ks, h => by
    obtain ⟨h1, h2⟩ := h i (by simp)
    rw [List.length_cons, decN, encK_cons, List.append_assoc, front_hit hr h1 h2 ⟨_, rfl⟩]
    simp only
    rw [List.drop_append_of_le_length (by rw [wordB_len]; omega), List.drop_eq_nil_of_le (by rw [wordB_len]; omega), List.nil_append, dec_enc hr r ks fun j hj => h j (by simp [hj])]
def goodRest (r : List Bool) : Bool := decide (r.length < 8) && r.all (fun b => !b)
theorem goodRest_iff (r : List Bool) : goodRest r = true ↔ r.length < 8 ∧ r = zeros r.length := by
  unfold goodRest
  rw [Bool.and_eq_true, decide_eq_true_eq, List.all_eq_true]
  refine and_congr_right fun _ => ⟨fun h => List.eq_replicate_iff.2 ⟨rfl, fun b hb => by simpa using h b hb⟩, fun h b hb => ?_⟩
  rw [h] at hb
  simp [zeros] at hb
  rw [hb.2]; rfl
def readE (l : List Int) (b : Bytes) (n : Int) : Nat :=
  if checkE l ≠ 0 then checkE l else if n < 0 ∨ 1024 < n then 3 else
  match decN l (2 * n.toNat) (unpackB b) with
  | none => 1
  | some (_, r) => if goodRest r = true then 0 else 1
def readS (l : List Int) (b : Bytes) (n : Int) : Bytes :=
  if readE l b n ≠ 0 then [] else
  match decN l (2 * n.toNat) (unpackB b) with
  | none => []
  | some (ks, _) => half ks
/-- so many signs are found -/
structure DecAt (l : List Int) (U : List Bool) (N i : Nat) (ks : List Nat) (R : List Bool) : Prop where
  len : ks.length = i
  le : i ≤ N
  rest : decN l N U = (match decN l (N - i) R with
    | none => none
    | some (a, r) => some (ks ++ a, r))
  fine : ∀ k ∈ ks, k < 16 ∧ 0 < ln l k
  short : R.length ≤ U.length
theorem DecAt.start (l : List Int) (U : List Bool) (N : Nat) : DecAt l U N 0 [] U := by
  refine ⟨rfl, by omega, ?_, by simp, Nat.le_refl _⟩
  rw [Nat.sub_zero]
  cases decN l N U <;> rfl
theorem DecAt.step {l : List Int} {U R : List Bool} {N i k : Nat} {ks : List Nat} (h : DecAt l U N i ks R) (hi : i < N) (hf : frontP l R = some k) : DecAt l U N (i + 1) (ks ++ [k]) (R.drop (ln l k)) := by
  obtain ⟨h1, h2, h3⟩ := front_some hf
  refine ⟨by rw [List.length_append, h.len]; rfl, by omega, ?_, ?_, ?_⟩
  · rw [h.rest, show N - i = (N - (i + 1)) + 1 from by omega, decN, hf]
    simp only
    cases decN l (N - (i + 1)) (R.drop (ln l k)) with
    | none => rfl
    | some q => obtain ⟨a, r⟩ := q; simp
  · intro j hj
    rcases List.mem_append.1 hj with hj | hj
    · exact h.fine j hj
    · have : j = k := by simpa using hj
      subst this; exact ⟨h1, h2⟩
  · have := h.short
    rw [List.length_drop]; omega
theorem DecAt.none {l : List Int} {U R : List Bool} {N i : Nat} {ks : List Nat} (h : DecAt l U N i ks R) (hi : i < N) (hf : frontP l R = none) : decN l N U = none := by
  rw [h.rest, show N - i = (N - (i + 1)) + 1 from by omega, decN, hf]
theorem DecAt.done {l : List Int} {U R : List Bool} {N : Nat} {ks : List Nat} (h : DecAt l U N N ks R) : decN l N U = some (ks, R) := by
  rw [h.rest, Nat.sub_self, decN]; simp
theorem half_odd {ks : List Nat} (h : ks.length % 2 = 1) (hk : ∀ k ∈ ks, k < 16) (b : Nat) :
    ∃ (h0 : Bytes) (a : Nat), a < 16 ∧ half ks = h0 ++ [UInt8.ofNat (16 * a)] ∧ half (ks ++ [b]) = h0 ++ [UInt8.ofNat (16 * a + b)] ∧ h0.length = ks.length / 2 := by
  have hne : ks ≠ [] := by intro e; rw [e] at h; simp at h
  obtain ⟨k0, a, rfl⟩ : ∃ k0 a, ks = k0 ++ [a] := ⟨ks.dropLast, ks.getLast hne, (List.dropLast_concat_getLast hne).symm⟩
  have h2 : k0.length % 2 = 0 := by rw [List.length_append, List.length_singleton] at h; omega
  refine ⟨half k0, a, hk a (by simp), half_app k0 [a] h2, ?_, ?_⟩
  · rw [List.append_assoc, half_app k0 _ h2]; rfl
  · rw [half_len, List.length_append, List.length_singleton]
theorem half_even {ks : List Nat} (h : ks.length % 2 = 0) (b : Nat) : half (ks ++ [b]) = half ks ++ [UInt8.ofNat (16 * b)] := half_app ks [b] h
theorem readE_code {l : List Int} {b : Bytes} {n : Int} (h : checkE l ≠ 0) : readE l b n = checkE l ∧ readS l b n = [] := by
  have : readE l b n = checkE l := by unfold readE; rw [if_pos h]
  exact ⟨this, by unfold readS; rw [if_pos (by omega)]⟩
theorem readE_range {l : List Int} {b : Bytes} {n : Int} (h : checkE l = 0) (h2 : n < 0 ∨ 1024 < n) : readE l b n = 3 ∧ readS l b n = [] := by
  have : readE l b n = 3 := by unfold readE; rw [if_neg (by omega), if_pos h2]
  exact ⟨this, by unfold readS; rw [if_pos (by omega)]⟩
theorem readE_none {l : List Int} {b : Bytes} {n : Int} (h : checkE l = 0) (h2 : ¬ (n < 0 ∨ 1024 < n)) (h3 : decN l (2 * n.toNat) (unpackB b) = none) : readE l b n = 1 ∧ readS l b n = [] := by
  have : readE l b n = 1 := by unfold readE; rw [if_neg (by omega), if_neg h2, h3]
  exact ⟨this, by unfold readS; rw [if_pos (by omega)]⟩
theorem readE_left {l : List Int} {b : Bytes} {n : Int} {ks : List Nat} {r : List Bool} (h : checkE l = 0) (h2 : ¬ (n < 0 ∨ 1024 < n)) (h3 : decN l (2 * n.toNat) (unpackB b) = some (ks, r)) (h4 : goodRest r = false) : readE l b n = 1 ∧ readS l b n = [] := by
  have : readE l b n = 1 := by unfold readE; rw [if_neg (by omega), if_neg h2, h3]; simp only [h4]; rfl
  exact ⟨this, by unfold readS; rw [if_pos (by omega)]⟩
theorem readE_ok {l : List Int} {b : Bytes} {n : Int} {ks : List Nat} {r : List Bool} (h : checkE l = 0) (h2 : ¬ (n < 0 ∨ 1024 < n)) (h3 : decN l (2 * n.toNat) (unpackB b) = some (ks, r)) (h4 : goodRest r = true) : readE l b n = 0 ∧ readS l b n = half ks := by
  have : readE l b n = 0 := by unfold readE; rw [if_neg (by omega), if_neg h2, h3]; simp only [h4]; rfl
  exact ⟨this, by unfold readS; rw [if_neg (by omega), h3]⟩
/-- too many bytes -/
theorem dec_long {l : List Int} (hr : Right l) {b : Bytes} {n : Nat} (h : 4 * n < b.length) {ks : List Nat} {r : List Bool} (hd : decN l (2 * n) (unpackB b) = some (ks, r)) : goodRest r = false := by
  obtain ⟨h1, h2, h3⟩ := dec_some _ _ _ _ hd
  have hl := congrArg List.length h2
  rw [unpackB_len, List.length_append] at hl
  have := encK_len hr ks
  cases hg : goodRest r with
  | false => rfl
  | true =>
    have := ((goodRest_iff r).1 hg).1
    omega
theorem lacks_false {l : List Int} {ks : List Nat} (h : ∀ i ∈ ks, i < 16 ∧ 0 < ln l i) : lacks l ks = false := by
  unfold lacks
  rw [List.any_eq_false]
  intro k hk
  have := (h k hk).2
  simp; omega
/-- what was read is written so again just if nothing is left over -/
theorem write_dec {l : List Int} (hc : checkE l = 0) {b : Bytes} {n : Nat} (hn : n ≤ 1024) {ks : List Nat} {r : List Bool} (hd : decN l (2 * n) (unpackB b) = some (ks, r)) :
    writeE l (half ks) = 0 ∧ (writeS l (half ks) = b ↔ goodRest r = true) ∧ (half ks).length = n := by
  obtain ⟨h1, h2, h3⟩ := dec_some _ _ _ _ hd
  have hl : (half ks).length = n := by rw [half_len]; omega
  have hnb : nibs (half ks) = ks := nibs_half ks (by omega) fun k hk => (h3 k hk).1
  have hw : writeE l (half ks) = 0 := by
    unfold writeE
    rw [if_neg (by omega), if_neg (by omega), hnb, lacks_false h3]; rfl
  refine ⟨hw, ?_, hl⟩
  unfold writeS
  rw [if_pos hw, hnb, goodRest_iff]
  exact pack_iff _ _ _ h2

end Pl
end Go.Proofs.Ytgfkkjcnnecefab

/- The walk of the reference's front. -/
namespace Go.Proofs.Ytgfkkjcnnecefab
open Go.RowKit Go.Lib Pl
attribute [local go_sem] ext_list app_list

def frontI (l : List Int) (b : List Bool) : Int := match frontP l b with
  | none => -1
  | some i => (i : Int)
theorem slice0 (x : Bytes) (m : Nat) : slice x 0 m = x.take m := by unfold slice; simp
/-- the test, in the reference's words -/
theorem hit_str (l : List Int) (b : List Bool) (k : Nat) : hitB l b k = true ↔ 0 < ln l k ∧ ln l k ≤ (bstr b).length ∧ slice (bstr b) 0 (ln l k) = bstr (wordB l k) := by
  rw [hit_iff, slice0, bstr_len, bstr, ← List.map_take]
  constructor
  · rintro ⟨h1, t, ht⟩
    have hl := congrArg List.length ht
    rw [List.length_append, wordB_len] at hl
    refine ⟨h1, by omega, ?_⟩
    rw [← ht, List.take_append_of_le_length (by rw [wordB_len]; omega), List.take_of_length_le (by rw [wordB_len]; omega)]; rfl
  · rintro ⟨h1, h2, h3⟩
    refine ⟨h1, ?_⟩
    have : b.take (ln l k) = wordB l k := bstr_inj h3
    rw [← this]; exact List.take_prefix _ _

end Go.Proofs.Ytgfkkjcnnecefab

/- The walk of the reference's WriteCode. -/
namespace Go.Proofs.Ytgfkkjcnnecefab
open Go.RowKit Go.Lib Pl
attribute [local go_sem] ext_list app_list

/-- the array in its variable -/
structure BoxAt (l : List Int) (w wr : World) (B : Nat) : Prop where
  a : wr.heap[B]? = some (.cells (cells16 l) 22 (0, 0))
  bel : Below B w wr
theorem BoxAt.below {l : List Int} {w wr w1 : World} {B : Nat} (h : BoxAt l w wr B) (hb : Below wr.heap.size wr w1) : BoxAt l w w1 B := by
  have s1 := (Array.getElem?_eq_some_iff.1 h.a).1
  exact ⟨(hb.block B s1).trans h.a, h.bel.trans (hb.mono (by omega))⟩
theorem BoxAt.boxed (l : List Int) (w : World) : BoxAt l w (w.alloc (.cells (cells16 l) 22)) w.heap.size := ⟨heap_alloc_new w _, (Below.refl _ _).alloc (Nat.le_refl _) _⟩
theorem writeE_code {l : List Int} {s : Bytes} (h : checkE l ≠ 0) : writeE l s = checkE l ∧ writeS l s = [] := by
  have : writeE l s = checkE l := by unfold writeE; rw [if_pos h]
  exact ⟨this, by unfold writeS; rw [if_neg (by omega)]⟩
theorem writeE_many {l : List Int} {s : Bytes} (h : checkE l = 0) (h2 : 1024 < s.length) : writeE l s = 2 ∧ writeS l s = [] := by
  have : writeE l s = 2 := by unfold writeE; rw [if_neg (by omega), if_pos h2]
  exact ⟨this, by unfold writeS; rw [if_neg (by omega)]⟩
theorem writeE_none {l : List Int} {s : Bytes} (h : checkE l = 0) (h2 : ¬ 1024 < s.length) (h3 : lacks l (nibs s) = true) : writeE l s = 5 ∧ writeS l s = [] := by
  have : writeE l s = 5 := by unfold writeE; rw [if_neg (by omega), if_neg h2, if_pos h3]
  exact ⟨this, by unfold writeS; rw [if_neg (by omega)]⟩
theorem writeE_ok {l : List Int} {s : Bytes} (h : checkE l = 0) (h2 : ¬ 1024 < s.length) (h3 : lacks l (nibs s) = false) : writeE l s = 0 ∧ writeS l s = packB (encK l (nibs s)) := by
  have : writeE l s = 0 := by unfold writeE; rw [if_neg (by omega), if_neg h2, h3]; rfl
  exact ⟨this, by unfold writeS; rw [if_pos this]⟩

def strLenB : Value → Nat
  | .string s => s.size
  | _ => 0
/-- so much of the text is written -/
structure WAt (l : List Int) (s : Bytes) (k : Nat) (X : List Bool) : Prop where
  bits : X = encK l (nibs (s.take k))
  fine : lacks l (nibs (s.take k)) = false
theorem WAt.start (l : List Int) (s : Bytes) : WAt l s 0 [] := ⟨rfl, rfl⟩
theorem WAt.len {l : List Int} {s : Bytes} {k : Nat} {X : List Bool} (h : WAt l s k X) (hr : Right l) (hk : k ≤ s.length) : X.length ≤ 30 * k := by
  have h1 := encK_len hr (nibs (s.take k))
  rw [nibs_len, List.length_take] at h1
  rw [h.bits]; omega
theorem nibs_take {s : Bytes} {k : Nat} {c : UInt8} (h : s[k]? = some c) : nibs (s.take (k + 1)) = nibs (s.take k) ++ [c.toNat / 16, c.toNat % 16] := by
  rw [List.take_add_one, h, nibs_app]; rfl
theorem WAt.step {l : List Int} {s : Bytes} {k : Nat} {X : List Bool} {c : UInt8} (h : WAt l s k X) (hc : s[k]? = some c) (h1 : ln l (c.toNat / 16) ≠ 0) (h2 : ln l (c.toNat % 16) ≠ 0) :
    WAt l s (k + 1) (X ++ wordB l (c.toNat / 16) ++ wordB l (c.toNat % 16)) := by
  refine ⟨?_, ?_⟩
  · rw [nibs_take hc, encK_app, ← h.bits, List.append_assoc]; simp [encK]
  · have h3 := h.fine
    unfold lacks at h3 ⊢
    rw [nibs_take hc, List.any_append, h3]
    simp [h1, h2]
theorem WAt.lack {l : List Int} {s : Bytes} {k : Nat} {c : UInt8} (hc : s[k]? = some c) (h1 : ln l (c.toNat / 16) = 0 ∨ ln l (c.toNat % 16) = 0) : lacks l (nibs s) = true := by
  have : lacks l (nibs (s.take (k + 1))) = true := by
    unfold lacks
    rw [nibs_take hc, List.any_append]
    rcases h1 with h | h <;> simp [h]
  rw [← List.take_append_drop (k + 1) s, nibs_app]
  unfold lacks at this ⊢
  rw [List.any_append, this]; rfl

end Go.Proofs.Ytgfkkjcnnecefab

/- Arrays of sixteen words; the signs that have words, in order. -/
namespace Go.Proofs.Ytgfkkjcnnecefab
open Go.RowKit Go.Lib Pl

/-- an array of sixteen words -/
abbrev cellsP (f : Nat → Nat × Nat) : Array Value := ((List.range 32).map fun j => if j % 2 = 0 then I (f (j / 2)).1 else I (f (j / 2)).2).toArray
abbrev AP (f : Nat → Nat × Nat) : Value := .agg (cellsP f)
theorem info16w : (Try.prog.info? 39).map (fun i => (i.zero, i.size)) = some (some (AP fun _ => (0, 0)), 32) := by kernel_rfl
theorem size16w : (Try.prog.info? 39).map (·.size) = some 32 := (zero_of_info info16w).2
theorem zero16w (w : World) : (zeroValue 39).run Try.prog w = .ok (AP fun _ => (0, 0)) w := (zero_of_info info16w).1 w
theorem cellsP_size (f : Nat → Nat × Nat) : (cellsP f).size = 32 := by simp [cellsP]
theorem cellsP_one (f : Nat → Nat × Nat) : (cellsP f).all (·.oneCell') = true := by
  rw [Array.all_eq_true_iff_forall_mem]
  intro v hv
  simp only [cellsP, List.mem_toArray, List.mem_map] at hv
  obtain ⟨j, _, rfl⟩ := hv
  split <;> rfl
theorem cellsP_get (f : Nat → Nat × Nat) (j : Nat) (hj : j < 32) : (cellsP f)[j]? = some (if j % 2 = 0 then I (f (j / 2)).1 else I (f (j / 2)).2) := by simp [cellsP, hj]
theorem cellsP_get0 (f : Nat → Nat × Nat) (k : Nat) (hk : k < 16) : (cellsP f)[k * 2]? = some (I (f k).1) := by
  rw [cellsP_get f _ (by omega), if_pos (by omega), show k * 2 / 2 = k from by omega]
theorem cellsP_get1 (f : Nat → Nat × Nat) (k : Nat) (hk : k < 16) : (cellsP f)[k * 2 + 1]? = some (I (f k).2) := by
  rw [cellsP_get f _ (by omega), if_neg (by omega), show (k * 2 + 1) / 2 = k from by omega]
theorem cellsP_none (f : Nat → Nat × Nat) (j : Nat) (hj : ¬ j < 32) : (cellsP f)[j]? = none := by simp [cellsP]; omega
theorem cellsP_set (f : Nat → Nat × Nat) (k : Nat) (a b : Nat) (hk : k < 16) : ((cellsP f).setIfInBounds (k * 2) (I a)).setIfInBounds (k * 2 + 1) (I b) = cellsP fun j => if j = k then (a, b) else f j := by
  apply Array.ext_getElem?
  intro j
  rw [Array.getElem?_setIfInBounds, Array.getElem?_setIfInBounds]
  simp only [Array.size_setIfInBounds, cellsP_size]
  by_cases hj : j < 32
  · rw [cellsP_get _ j hj]
    by_cases e1 : k * 2 + 1 = j
    · rw [if_pos e1, if_pos (by omega), cellsP_get _ j hj, if_neg (by omega), show j / 2 = k from by omega]; simp
    · rw [if_neg e1]
      by_cases e2 : k * 2 = j
      · rw [if_pos e2, if_pos (by omega), cellsP_get _ j hj, if_pos (by omega), show j / 2 = k from by omega]; simp
      · rw [if_neg e2, cellsP_get _ j hj]
        have : ¬ j / 2 = k := by omega
        simp [this]
  · rw [cellsP_none _ j hj, cellsP_none _ j hj, if_neg (by omega), if_neg (by omega)]
theorem cellsP_congr {f f' : Nat → Nat × Nat} (h : ∀ j, j < 16 → f j = f' j) : cellsP f = cellsP f' := by
  apply Array.ext_getElem?
  intro j
  by_cases hj : j < 32
  · rw [cellsP_get _ j hj, cellsP_get _ j hj, h (j / 2) (by omega)]
  · rw [cellsP_none _ j hj, cellsP_none _ j hj]

/-- the signs that have words, of the first so many -/
def used (l : List Int) : Nat → List (Fin 16)
  | 0 => []
  | k + 1 => used l k ++ (if h : k < 16 ∧ 0 < ln l k then [⟨k, h.1⟩] else [])
theorem used_mem (l : List Int) : ∀ (k : Nat) (i : Fin 16), i ∈ used l k ↔ i.val < k ∧ 0 < ln l i
  | 0, i => by simp [used]
  | k + 1, i => by
    rw [used, List.mem_append, used_mem l k i]
    by_cases h : k < 16 ∧ 0 < ln l k
    · rw [dif_pos h, List.mem_singleton]
      constructor
      · rintro (⟨h1, h2⟩ | rfl)
        · exact ⟨by omega, h2⟩
        · exact ⟨by simp, h.2⟩
      · rintro ⟨h1, h2⟩
        by_cases e : i.val = k
        · exact .inr (Fin.ext e)
        · exact .inl ⟨by omega, h2⟩
    · rw [dif_neg h]
      simp only [List.not_mem_nil, or_false]
      constructor
      · rintro ⟨h1, h2⟩; exact ⟨by omega, h2⟩
      · rintro ⟨h1, h2⟩
        refine ⟨?_, h2⟩
        by_cases e : i.val = k
        · exfalso
          apply h
          rw [← e]; exact ⟨i.isLt, h2⟩
        · omega
theorem used_lt (l : List Int) : ∀ k, (used l k).Pairwise (· < ·)
  | 0 => List.Pairwise.nil
  | k + 1 => by
    rw [used]
    refine List.pairwise_append.2 ⟨used_lt l k, ?_, ?_⟩
    · split <;> simp
    · intro a ha b hb
      have h1 := (used_mem l k a).1 ha
      split at hb
      · rw [List.mem_singleton] at hb
        subst hb
        rw [Fin.lt_def]; exact h1.1
      · simp at hb
theorem used_len (l : List Int) : ∀ k, (used l k).length ≤ k
  | 0 => Nat.le_refl _
  | k + 1 => by
    have := used_len l k
    rw [used, List.length_append]
    split <;> simp <;> omega
/-- the room of some signs -/
def sumP (l : List Int) (p : List (Fin 16)) : Nat := (p.map fun i : Fin 16 => pw (ln l i)).sum
theorem sumP_app (l : List Int) (a b : List (Fin 16)) : sumP l (a ++ b) = sumP l a + sumP l b := by unfold sumP; rw [List.map_append, List.sum_append]
theorem sumP_perm (l : List Int) {a b : List (Fin 16)} (h : a.Perm b) : sumP l a = sumP l b := (h.map _).sum_nat
theorem sumP_used (l : List Int) (q : Nat → Bool) (hq : ∀ j, q j = true → 0 < ln l j) : ∀ k, k ≤ 16 → sumP l ((used l k).filter fun i : Fin 16 => q i) = sumN (fun j => if q j = true then pw (ln l j) else 0) k
  | 0, _ => rfl
  | k + 1, hk => by
    rw [used, List.filter_append, sumP_app, sumP_used l q hq k (by omega), sumN]
    congr 1
    by_cases h : k < 16 ∧ 0 < ln l k
    · rw [dif_pos h]
      by_cases e : q k = true
      · rw [if_pos e]; simp [sumP, e]
      · rw [if_neg e]; simp [sumP, e]
    · rw [dif_neg h, if_neg (fun e => h ⟨by omega, hq k e⟩)]; rfl
def Lex (l : List Int) (a b : Fin 16) : Prop := ln l a < ln l b ∨ (ln l a = ln l b ∧ a < b)
theorem take_filter (l : List Int) {p : List (Fin 16)} (hp : p.Pairwise (Lex l)) (hu : ∀ i ∈ p, 0 < ln l i) {k : Nat} {x : Fin 16} (hk : p[k]? = some x) : p.filter (fun i : Fin 16 => Pl.early l (ln l x) x i) = p.take k := by
  obtain ⟨hlt, hx⟩ := List.getElem?_eq_some_iff.1 hk
  have hsp : p = p.take k ++ x :: p.drop (k + 1) := by
    rw [← hx, ← List.drop_eq_getElem_cons hlt, List.take_append_drop]
  have hp2 := hp
  rw [hsp] at hp2
  obtain ⟨_, h2, h3⟩ := List.pairwise_append.1 hp2
  have h4 := List.pairwise_cons.1 h2
  conv => lhs; rw [hsp]
  rw [List.filter_append]
  have e1 : (p.take k).filter (fun i : Fin 16 => Pl.early l (ln l x) x i) = p.take k := by
    rw [List.filter_eq_self]
    intro a ha
    rw [early_iff]
    have := h3 a ha x (by simp)
    unfold Lex at this
    rw [Fin.lt_def] at this
    exact ⟨hu a (List.mem_of_mem_take ha), this⟩
  have e2 : (x :: p.drop (k + 1)).filter (fun i : Fin 16 => Pl.early l (ln l x) x i) = [] := by
    rw [List.filter_eq_nil_iff]
    intro a ha
    rw [early_iff]
    rcases List.mem_cons.1 ha with rfl | ha
    · omega
    · have := h4.1 a ha
      unfold Lex at this
      rw [Fin.lt_def] at this
      omega
  rw [e1, e2, List.append_nil]
/-- the program's number is the room of the earlier ones -/
theorem sum_take (l : List Int) {p : List (Fin 16)} (hpm : p.Perm (used l 16)) (hp : p.Pairwise (Lex l)) {k : Nat} {x : Fin 16} (hk : p[k]? = some x) : sumP l (p.take k) = preS l (ln l x) x := by
  rw [← take_filter l hp (fun i hi => ((used_mem l 16 i).1 (hpm.mem_iff.1 hi)).2) hk, sumP_perm l (hpm.filter _)]
  rw [sumP_used l (fun j => Pl.early l (ln l x) x j) (fun j hj => ((early_iff _ _ _ _).1 hj).1) 16 (Nat.le_refl _)]
  rfl

theorem used_some {l : List Int} (hr : Right l) : used l 16 ≠ [] := by
  intro e
  have h1 := hr.some
  have : krS l = 0 := sumN_zero 16 fun j hj => by
    rw [if_neg]
    intro h
    have := (used_mem l 16 ⟨j, hj⟩).2 ⟨hj, h⟩
    rw [e] at this; simp at this
  omega
theorem row_at {w : World} {base n : Nat} {e : TypeId} {v : Value} {xs : List Value} (h : w.ownsRow base e 1 v n xs) (hn : n ≠ 0) : ∃ g cap, v = .slice (some ⟨g, 0, none⟩) n cap := by
  rcases h.2 with ⟨_, h0⟩ | ⟨g, cap, cur, hv, _⟩
  · exact absurd h0 hn
  · exact ⟨g, cap, hv⟩
/-- what lies in the words' array, so many of the sorted signs behind us -/
def outP (l : List Int) (p : List (Fin 16)) (k j : Nat) : Nat × Nat := if (p.take k).any (fun i => decide (i.val = j)) = true then (wv l j, ln l j) else (0, 0)
theorem outP_zero (l : List Int) (p : List (Fin 16)) : outP l p 0 = fun _ => (0, 0) := by funext j; simp [outP]
theorem outP_step (l : List Int) {p : List (Fin 16)} {k : Nat} {x : Fin 16} (hk : p[k]? = some x) : outP l p (k + 1) = fun j => if j = x.val then (wv l x, ln l x) else outP l p k j := by
  funext j
  unfold outP
  rw [List.take_add_one, hk, List.any_append]
  by_cases e : j = x.val
  · subst e; simp
  · have : ¬ x.val = j := fun h => e h.symm
    simp [this, e]
theorem outP_end {l : List Int} {p : List (Fin 16)} (hpm : p.Perm (used l 16)) {k : Nat} (hk : p.length ≤ k) : cellsP (outP l p k) = cellsP fun j => (wv l j, ln l j) :=
  cellsP_congr fun j hj => by
    unfold outP
    rw [List.take_of_length_le hk]
    by_cases h : 0 < ln l j
    · rw [if_pos]
      rw [List.any_eq_true]
      exact ⟨⟨j, hj⟩, hpm.mem_iff.2 ((used_mem l 16 ⟨j, hj⟩).2 ⟨hj, h⟩), by simp⟩
    · have h0 : ln l j = 0 := by omega
      rw [if_neg]
      · have : wv l j = 0 := by
          unfold wv preS
          rw [h0, sumN_zero 16 fun i _ => by rw [if_neg]; rw [early_iff]; omega]
          simp
        rw [this, h0]
      · intro ha
        rw [List.any_eq_true] at ha
        obtain ⟨i, hi, he⟩ := ha
        have h1 := ((used_mem l 16 i).1 (hpm.mem_iff.1 hi)).2
        have h2 : i.val = j := by simpa using he
        rw [h2] at h1; omega
theorem info_int : (Try.prog.info? 3).map (fun i => (i.zero, i.size, i.bytes)) = some (some (.int .i64 0), 1, 8) := by kernel_rfl

theorem meas_up {n k : Nat} (h : k < n) : n - (intOf (Value.int .i64 ((k : Int) + 1))).toNat < n - (intOf (Value.int .i64 (k : Int))).toNat := by simp [intOf]; omega
/-- what the program's words gives -/
def WordsSpec : Prop := ∀ (l : List Int) (w : World), Right l → Calls Try.prog 15 #[A16 l] w fun e w' => e = .returned (AP fun j => (wv l j, ln l j)) ∧ Below w.heap.size w w'

end Go.Proofs.Ytgfkkjcnnecefab
