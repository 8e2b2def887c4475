/- The walk of (*maker).tok. -/
import Derived.Test.YtgfkkjcnnecefaaMaker
import Derived.RegionTactic
import Derived.Deep.QuietTactic
import Derived.BigQuiet
import Derived.Deep.RegionHeld3
import Derived.Deep.RegionLaw
import Derived.Deep.AppendLies
import Derived.Deep.DeepCutAuto
namespace Go.Proofs.Ytgfkkjcnnecefaa
open Go.RowKit Go.Lib Pl
attribute [local go_sem] ext_list app_list

theorem free_row (w : World) (b i : Nat) (c : Array Value) (t : TypeId) (h : w.heap[b]? = some (.cells c t (0, 0))) : w.frozen? ⟨b, i, none⟩ = false := by simp [World.frozen?, h]
theorem after_grown {w w1 : World} {base M n k : Nat} {o : Obj} {cs : Array Value} {fz : Nat × Nat} {v : Value} {xs : List Value} (hblk : w.heap[M]? = some (.cells cs 78 fz)) (hown : OwnM w base 5 1 v n xs)
    (hg : ((w.alloc o).drewN k).drew.grownBy w1 v.ownBlock) : w1.heap[M]? = some (.cells cs 78 fz) := by
  have hlt : M < w.heap.size := (Array.getElem?_eq_some_iff.1 hblk).1
  have h1 : M < ((w.alloc o).drewN k).drew.heap.size := by
    show M < (w.alloc o).heap.size
    simp; omega
  exact (hg.block M h1 (fun e => mk_far hblk hown e.symm)).trans ((Below.heap_alloc w o M hlt).trans hblk)

theorem below_drew_alloc (w : World) (o : Obj) (k : Nat) : Below w.heap.size w ((w.alloc o).drewN k).drew := (below_drewN ((Below.refl _ _).alloc (Nat.le_refl _) o) k).drew

set_option maxHeartbeats 1000000 in
set_option maxRecDepth 100000 in
theorem tok_litok (base M d : Nat) (lit : Bool) (s l : Bytes) (far len : Int) (w : World) (hM : Mk w base M d lit s) (hd : d ≤ s.length) (hs : s.length ≤ d + 512) (hd2 : d ≤ 256)
    (hl : l ≠ []) (h0 : far = 0 ∧ len = 0 ∧ lit = false) (hr : l.length + (s.length - d) ≤ 512) :
    Calls Try.prog 53 #[.pointer (some ⟨M, 0, none⟩), .agg #[S l, I far, I len]] w fun e w' => e = .returned (I 0) ∧ Mk w' base M d true (s ++ l) ∧ Below base w w' ∧ Keeps badMk w w' := by
  obtain ⟨hbM, A, cap, hblk, hown⟩ := hM
  obtain ⟨rfl, rfl, rfl⟩ := h0
  have hlt : M < w.heap.size := (Array.getElem?_eq_some_iff.1 hblk).1
  have c0 : w.cell? ⟨M, 0, none⟩ = some (.slice A s.length cap) := by rw [cell_of_row w M 0 _ _ _ hblk]; rfl
  have c1 : w.cell? ⟨M, 1, none⟩ = some (.int .i64 d) := by rw [cell_of_row w M 1 _ _ _ hblk]; rfl
  have c2 : w.cell? ⟨M, 2, none⟩ = some (.bool false) := by rw [cell_of_row w M 2 _ _ _ hblk]; rfl
  have f0 : w.frozen? ⟨M, 0, none⟩ = false := by simp [World.frozen?, hblk]
  have f2 : w.frozen? ⟨M, 2, none⟩ = false := by simp [World.frozen?, hblk]
  have hl1 : l.isEmpty = false := by simpa using hl
  have hl2 : (l == []) = false := by simpa using hl
  have hk1 : (0 : Int) ≤ (s.length : Int) - (d : Int) := by omega
  have hk2 : (s.length : Int) - (d : Int) ≤ 512 := by omega
  have hbH : base ≤ w.heap.size := by omega
  have hk3 : (l.length : Int) ≤ 512 - ((s.length : Int) - (d : Int)) := by omega
  obtain ⟨i0, hi0, hz0, hz1, hz2⟩ := info_parts info_u8
  have hB := hide hblk
  have hO := hide hown
  clear hblk hown hl
  go_enter Try.func53, Try.ntmps53
  go_wp2_with fail
  go_quiet (fail)
  go_wp2_with fail
  go_region_law (refine step_append_M_string rfl _ _ _ _ rfl base 5 i0 Try.underlying73 Try.underlying9 hi0 hz0 hz1 hz2 _ s.length (s.map B) rfl (by first | exact ((unhide hO).alloc _).drew | exact (((unhide hO).alloc _).drewN _) | exact (((unhide hO).alloc _).drewN _).drew) ⟨l.toArray⟩ rfl (by show s.length + l.length ≤ 9223372036854775807; omega) (by show s.length + l.length ≤ 140737488355328; omega) (by show base ≤ (w.alloc _).heap.size; simp; omega) ?_; intro A1 cap1 w1 hown1 hgrow1 hat1; have hm1 := after_grown (unhide hB) (unhide hO) hgrow1; have c0' := cell_of_row w1 M 0 _ _ _ hm1; have c2' := cell_of_row w1 M 2 _ _ _ hm1; simp at c0' c2'; have f0' := free_row w1 M 0 _ _ hm1; have f2' := free_row w1 M 2 _ _ hm1)
  all_goals
    go_wp2_with fail
    go_ret
    refine ⟨rfl, ?_⟩
    rw [strCells_list, ← List.map_append] at hown1
    refine mk_end hbM (unhide hB) (unhide hO) (below_drew_alloc w _ _) hown1 hgrow1 ?_ (fun k hk => ?_) (by rw [size_setCell, size_setCell]) rfl rfl rfl
    · rw [set_row (set_row hm1 _ _) _ _]; rfl
    · rw [Below.heap_setCell _ _ _ _ hk, Below.heap_setCell _ _ _ _ hk]

set_option maxHeartbeats 1000000 in
set_option maxRecDepth 100000 in
theorem tok_form1 (base M d : Nat) (lit : Bool) (s : Bytes) (l : Bytes) (far len : Int) (w : World) (hM : Mk w base M d lit s) (hd : d ≤ s.length) (hs : s.length ≤ d + 512)
    (hl : l ≠ []) (h0 : far ≠ 0) :
    Calls Try.prog 53 #[.pointer (some ⟨M, 0, none⟩), .agg #[S l, I far, I len]] w fun e w' => e = .returned (I 1) ∧ Below base w w' ∧ Keeps badMk w w' := by
  obtain ⟨hbM, A, cap, hblk, hown⟩ := hM
  have hlt : M < w.heap.size := (Array.getElem?_eq_some_iff.1 hblk).1
  have c0 : w.cell? ⟨M, 0, none⟩ = some (.slice A s.length cap) := by rw [cell_of_row w M 0 _ _ _ hblk]; rfl
  have c1 : w.cell? ⟨M, 1, none⟩ = some (.int .i64 d) := by rw [cell_of_row w M 1 _ _ _ hblk]; rfl
  have c2 : w.cell? ⟨M, 2, none⟩ = some (.bool lit) := by rw [cell_of_row w M 2 _ _ _ hblk]; rfl
  have hk1 : (0 : Int) ≤ (s.length : Int) - (d : Int) := by omega
  have hk2 : (s.length : Int) - (d : Int) ≤ 512 := by omega
  have hbH : base ≤ w.heap.size := by omega
  have hl1 : l.isEmpty = false := by simpa using hl
  have hl2 : (l == []) = false := by simpa using hl
  clear hl
  have h1 : (far == 0) = false := beq_eq_false_iff_ne.2 h0
  have h2 : (far != 0) = true := by rw [bne_iff_ne]; exact h0
  clear h0
  clear hblk hown
  go_enter Try.func53, Try.ntmps53
  go_wp2_with fail
  go_quiet (fail)
  go_wp2_with fail
  go_ret
  first | exact ⟨rfl, below_drewN ((Below.refl _ _).alloc hbH _) _, ((Keeps.refl _ _).alloc _).drewN _⟩ | exact ⟨rfl, below_drewN (below_drewN ((Below.refl _ _).alloc hbH _) _) _, (((Keeps.refl _ _).alloc _).drewN _).drewN _⟩

set_option maxHeartbeats 1000000 in
set_option maxRecDepth 100000 in
theorem tok_form2 (base M d : Nat) (lit : Bool) (s : Bytes) (l : Bytes) (far len : Int) (w : World) (hM : Mk w base M d lit s) (hd : d ≤ s.length) (hs : s.length ≤ d + 512)
    (hl : l ≠ []) (h0 : far = 0) (h9 : len ≠ 0) :
    Calls Try.prog 53 #[.pointer (some ⟨M, 0, none⟩), .agg #[S l, I far, I len]] w fun e w' => e = .returned (I 1) ∧ Below base w w' ∧ Keeps badMk w w' := by
  obtain ⟨hbM, A, cap, hblk, hown⟩ := hM
  have hlt : M < w.heap.size := (Array.getElem?_eq_some_iff.1 hblk).1
  have c0 : w.cell? ⟨M, 0, none⟩ = some (.slice A s.length cap) := by rw [cell_of_row w M 0 _ _ _ hblk]; rfl
  have c1 : w.cell? ⟨M, 1, none⟩ = some (.int .i64 d) := by rw [cell_of_row w M 1 _ _ _ hblk]; rfl
  have c2 : w.cell? ⟨M, 2, none⟩ = some (.bool lit) := by rw [cell_of_row w M 2 _ _ _ hblk]; rfl
  have hk1 : (0 : Int) ≤ (s.length : Int) - (d : Int) := by omega
  have hk2 : (s.length : Int) - (d : Int) ≤ 512 := by omega
  have hbH : base ≤ w.heap.size := by omega
  have hl1 : l.isEmpty = false := by simpa using hl
  have hl2 : (l == []) = false := by simpa using hl
  clear hl
  subst h0
  have h1 : (len == 0) = false := beq_eq_false_iff_ne.2 h9
  have h2 : (len != 0) = true := by rw [bne_iff_ne]; exact h9
  clear h9
  clear hblk hown
  go_enter Try.func53, Try.ntmps53
  go_wp2_with fail
  go_quiet (fail)
  go_wp2_with fail
  go_ret
  first | exact ⟨rfl, below_drewN ((Below.refl _ _).alloc hbH _) _, ((Keeps.refl _ _).alloc _).drewN _⟩ | exact ⟨rfl, below_drewN (below_drewN ((Below.refl _ _).alloc hbH _) _) _, (((Keeps.refl _ _).alloc _).drewN _).drewN _⟩

set_option maxHeartbeats 1000000 in
set_option maxRecDepth 100000 in
theorem tok_form3 (base M d : Nat) (lit : Bool) (s : Bytes) (l : Bytes) (far len : Int) (w : World) (hM : Mk w base M d lit s) (hd : d ≤ s.length) (hs : s.length ≤ d + 512)
    (hl : l ≠ []) (h0 : far = 0) (h9 : len = 0) (h8 : lit = true) :
    Calls Try.prog 53 #[.pointer (some ⟨M, 0, none⟩), .agg #[S l, I far, I len]] w fun e w' => e = .returned (I 1) ∧ Below base w w' ∧ Keeps badMk w w' := by
  obtain ⟨hbM, A, cap, hblk, hown⟩ := hM
  have hlt : M < w.heap.size := (Array.getElem?_eq_some_iff.1 hblk).1
  have c0 : w.cell? ⟨M, 0, none⟩ = some (.slice A s.length cap) := by rw [cell_of_row w M 0 _ _ _ hblk]; rfl
  have c1 : w.cell? ⟨M, 1, none⟩ = some (.int .i64 d) := by rw [cell_of_row w M 1 _ _ _ hblk]; rfl
  have c2 : w.cell? ⟨M, 2, none⟩ = some (.bool lit) := by rw [cell_of_row w M 2 _ _ _ hblk]; rfl
  have hk1 : (0 : Int) ≤ (s.length : Int) - (d : Int) := by omega
  have hk2 : (s.length : Int) - (d : Int) ≤ 512 := by omega
  have hbH : base ≤ w.heap.size := by omega
  have hl1 : l.isEmpty = false := by simpa using hl
  have hl2 : (l == []) = false := by simpa using hl
  clear hl
  subst h0 h9 h8
  clear hblk hown
  go_enter Try.func53, Try.ntmps53
  go_wp2_with fail
  go_quiet (fail)
  go_wp2_with fail
  go_ret
  first | exact ⟨rfl, below_drewN ((Below.refl _ _).alloc hbH _) _, ((Keeps.refl _ _).alloc _).drewN _⟩ | exact ⟨rfl, below_drewN (below_drewN ((Below.refl _ _).alloc hbH _) _) _, (((Keeps.refl _ _).alloc _).drewN _).drewN _⟩

set_option maxHeartbeats 1000000 in
set_option maxRecDepth 100000 in
theorem tok_many (base M d : Nat) (lit : Bool) (s : Bytes) (l : Bytes) (far len : Int) (w : World) (hM : Mk w base M d lit s) (hd : d ≤ s.length) (hs : s.length ≤ d + 512)
    (hl : l ≠ []) (h0 : far = 0) (h9 : len = 0) (h8 : lit = false) (hr : 512 < l.length + (s.length - d)) :
    Calls Try.prog 53 #[.pointer (some ⟨M, 0, none⟩), .agg #[S l, I far, I len]] w fun e w' => e = .returned (I 2) ∧ Below base w w' ∧ Keeps badMk w w' := by
  obtain ⟨hbM, A, cap, hblk, hown⟩ := hM
  have hlt : M < w.heap.size := (Array.getElem?_eq_some_iff.1 hblk).1
  have c0 : w.cell? ⟨M, 0, none⟩ = some (.slice A s.length cap) := by rw [cell_of_row w M 0 _ _ _ hblk]; rfl
  have c1 : w.cell? ⟨M, 1, none⟩ = some (.int .i64 d) := by rw [cell_of_row w M 1 _ _ _ hblk]; rfl
  have c2 : w.cell? ⟨M, 2, none⟩ = some (.bool lit) := by rw [cell_of_row w M 2 _ _ _ hblk]; rfl
  have hk1 : (0 : Int) ≤ (s.length : Int) - (d : Int) := by omega
  have hk2 : (s.length : Int) - (d : Int) ≤ 512 := by omega
  have hbH : base ≤ w.heap.size := by omega
  have hl1 : l.isEmpty = false := by simpa using hl
  have hl2 : (l == []) = false := by simpa using hl
  clear hl
  subst h0 h9 h8
  have hk3 : 512 - ((s.length : Int) - (d : Int)) < (l.length : Int) := by omega
  clear hblk hown
  go_enter Try.func53, Try.ntmps53
  go_wp2_with fail
  go_quiet (fail)
  go_wp2_with fail
  go_ret
  first | exact ⟨rfl, below_drewN ((Below.refl _ _).alloc hbH _) _, ((Keeps.refl _ _).alloc _).drewN _⟩ | exact ⟨rfl, below_drewN (below_drewN ((Below.refl _ _).alloc hbH _) _) _, (((Keeps.refl _ _).alloc _).drewN _).drewN _⟩

set_option maxHeartbeats 1000000 in
set_option maxRecDepth 100000 in
theorem tok_copy1 (base M d : Nat) (lit : Bool) (s : Bytes) (l : Bytes) (far len : Int) (w : World) (hM : Mk w base M d lit s) (hd : d ≤ s.length) (hs : s.length ≤ d + 512)
    (hl : l = []) (h0 : len < 3) :
    Calls Try.prog 53 #[.pointer (some ⟨M, 0, none⟩), .agg #[S l, I far, I len]] w fun e w' => e = .returned (I 1) ∧ Below base w w' ∧ Keeps badMk w w' := by
  obtain ⟨hbM, A, cap, hblk, hown⟩ := hM
  have hlt : M < w.heap.size := (Array.getElem?_eq_some_iff.1 hblk).1
  have c0 : w.cell? ⟨M, 0, none⟩ = some (.slice A s.length cap) := by rw [cell_of_row w M 0 _ _ _ hblk]; rfl
  have c1 : w.cell? ⟨M, 1, none⟩ = some (.int .i64 d) := by rw [cell_of_row w M 1 _ _ _ hblk]; rfl
  have c2 : w.cell? ⟨M, 2, none⟩ = some (.bool lit) := by rw [cell_of_row w M 2 _ _ _ hblk]; rfl
  have hk1 : (0 : Int) ≤ (s.length : Int) - (d : Int) := by omega
  have hk2 : (s.length : Int) - (d : Int) ≤ 512 := by omega
  have hbH : base ≤ w.heap.size := by omega
  subst hl
  have e1 : decide (len < 3) = true := by simpa using h0
  clear hblk hown
  go_enter Try.func53, Try.ntmps53
  go_wp2_with fail
  go_quiet (fail)
  go_wp2_with fail
  go_quiet (fail)
  go_wp2_with fail
  go_ret
  first | exact ⟨rfl, below_drewN ((Below.refl _ _).alloc hbH _) _, ((Keeps.refl _ _).alloc _).drewN _⟩ | exact ⟨rfl, below_drewN (below_drewN ((Below.refl _ _).alloc hbH _) _) _, (((Keeps.refl _ _).alloc _).drewN _).drewN _⟩

set_option maxHeartbeats 1000000 in
set_option maxRecDepth 100000 in
theorem tok_copy2 (base M d : Nat) (lit : Bool) (s : Bytes) (l : Bytes) (far len : Int) (w : World) (hM : Mk w base M d lit s) (hd : d ≤ s.length) (hs : s.length ≤ d + 512)
    (hl : l = []) (h0 : 64 < len) :
    Calls Try.prog 53 #[.pointer (some ⟨M, 0, none⟩), .agg #[S l, I far, I len]] w fun e w' => e = .returned (I 1) ∧ Below base w w' ∧ Keeps badMk w w' := by
  obtain ⟨hbM, A, cap, hblk, hown⟩ := hM
  have hlt : M < w.heap.size := (Array.getElem?_eq_some_iff.1 hblk).1
  have c0 : w.cell? ⟨M, 0, none⟩ = some (.slice A s.length cap) := by rw [cell_of_row w M 0 _ _ _ hblk]; rfl
  have c1 : w.cell? ⟨M, 1, none⟩ = some (.int .i64 d) := by rw [cell_of_row w M 1 _ _ _ hblk]; rfl
  have c2 : w.cell? ⟨M, 2, none⟩ = some (.bool lit) := by rw [cell_of_row w M 2 _ _ _ hblk]; rfl
  have hk1 : (0 : Int) ≤ (s.length : Int) - (d : Int) := by omega
  have hk2 : (s.length : Int) - (d : Int) ≤ 512 := by omega
  have hbH : base ≤ w.heap.size := by omega
  subst hl
  have e1 : decide (len < 3) = false := by simp; omega
  have e2 : decide (64 < len) = true := by simpa using h0
  clear hblk hown
  go_enter Try.func53, Try.ntmps53
  go_wp2_with fail
  go_quiet (fail)
  go_wp2_with fail
  go_quiet (fail)
  go_wp2_with fail
  go_ret
  first | exact ⟨rfl, below_drewN ((Below.refl _ _).alloc hbH _) _, ((Keeps.refl _ _).alloc _).drewN _⟩ | exact ⟨rfl, below_drewN (below_drewN ((Below.refl _ _).alloc hbH _) _) _, (((Keeps.refl _ _).alloc _).drewN _).drewN _⟩

set_option maxHeartbeats 1000000 in
set_option maxRecDepth 100000 in
theorem tok_copy3 (base M d : Nat) (lit : Bool) (s : Bytes) (l : Bytes) (far len : Int) (w : World) (hM : Mk w base M d lit s) (hd : d ≤ s.length) (hs : s.length ≤ d + 512)
    (hl : l = []) (h0 : 3 ≤ len) (h1 : len ≤ 64) (h2 : far < 1) :
    Calls Try.prog 53 #[.pointer (some ⟨M, 0, none⟩), .agg #[S l, I far, I len]] w fun e w' => e = .returned (I 1) ∧ Below base w w' ∧ Keeps badMk w w' := by
  obtain ⟨hbM, A, cap, hblk, hown⟩ := hM
  have hlt : M < w.heap.size := (Array.getElem?_eq_some_iff.1 hblk).1
  have c0 : w.cell? ⟨M, 0, none⟩ = some (.slice A s.length cap) := by rw [cell_of_row w M 0 _ _ _ hblk]; rfl
  have c1 : w.cell? ⟨M, 1, none⟩ = some (.int .i64 d) := by rw [cell_of_row w M 1 _ _ _ hblk]; rfl
  have c2 : w.cell? ⟨M, 2, none⟩ = some (.bool lit) := by rw [cell_of_row w M 2 _ _ _ hblk]; rfl
  have hk1 : (0 : Int) ≤ (s.length : Int) - (d : Int) := by omega
  have hk2 : (s.length : Int) - (d : Int) ≤ 512 := by omega
  have hbH : base ≤ w.heap.size := by omega
  subst hl
  have e1 : decide (len < 3) = false := by simp; omega
  have e2 : decide (64 < len) = false := by simp; omega
  have e3 : decide (far < 1) = true := by simpa using h2
  clear hblk hown
  go_enter Try.func53, Try.ntmps53
  go_wp2_with fail
  go_quiet (fail)
  go_wp2_with fail
  go_quiet (fail)
  go_wp2_with fail
  go_ret
  first | exact ⟨rfl, below_drewN ((Below.refl _ _).alloc hbH _) _, ((Keeps.refl _ _).alloc _).drewN _⟩ | exact ⟨rfl, below_drewN (below_drewN ((Below.refl _ _).alloc hbH _) _) _, (((Keeps.refl _ _).alloc _).drewN _).drewN _⟩

set_option maxHeartbeats 1000000 in
set_option maxRecDepth 100000 in
theorem tok_copy4 (base M d : Nat) (lit : Bool) (s : Bytes) (l : Bytes) (far len : Int) (w : World) (hM : Mk w base M d lit s) (hd : d ≤ s.length) (hs : s.length ≤ d + 512)
    (hl : l = []) (h0 : 3 ≤ len) (h1 : len ≤ 64) (h2 : 1 ≤ far) (h3 : (s.length : Int) < far) :
    Calls Try.prog 53 #[.pointer (some ⟨M, 0, none⟩), .agg #[S l, I far, I len]] w fun e w' => e = .returned (I 1) ∧ Below base w w' ∧ Keeps badMk w w' := by
  obtain ⟨hbM, A, cap, hblk, hown⟩ := hM
  have hlt : M < w.heap.size := (Array.getElem?_eq_some_iff.1 hblk).1
  have c0 : w.cell? ⟨M, 0, none⟩ = some (.slice A s.length cap) := by rw [cell_of_row w M 0 _ _ _ hblk]; rfl
  have c1 : w.cell? ⟨M, 1, none⟩ = some (.int .i64 d) := by rw [cell_of_row w M 1 _ _ _ hblk]; rfl
  have c2 : w.cell? ⟨M, 2, none⟩ = some (.bool lit) := by rw [cell_of_row w M 2 _ _ _ hblk]; rfl
  have hk1 : (0 : Int) ≤ (s.length : Int) - (d : Int) := by omega
  have hk2 : (s.length : Int) - (d : Int) ≤ 512 := by omega
  have hbH : base ≤ w.heap.size := by omega
  subst hl
  have e1 : decide (len < 3) = false := by simp; omega
  have e2 : decide (64 < len) = false := by simp; omega
  have e3 : decide (far < 1) = false := by simp; omega
  have e4 : decide ((s.length : Int) < far) = true := by simpa using h3
  clear hblk hown
  go_enter Try.func53, Try.ntmps53
  go_wp2_with fail
  go_quiet (fail)
  go_wp2_with fail
  go_quiet (fail)
  go_wp2_with fail
  go_ret
  first | exact ⟨rfl, below_drewN ((Below.refl _ _).alloc hbH _) _, ((Keeps.refl _ _).alloc _).drewN _⟩ | exact ⟨rfl, below_drewN (below_drewN ((Below.refl _ _).alloc hbH _) _) _, (((Keeps.refl _ _).alloc _).drewN _).drewN _⟩

set_option maxHeartbeats 1000000 in
set_option maxRecDepth 100000 in
theorem tok_copy5 (base M d : Nat) (lit : Bool) (s : Bytes) (l : Bytes) (far len : Int) (w : World) (hM : Mk w base M d lit s) (hd : d ≤ s.length) (hs : s.length ≤ d + 512)
    (hl : l = []) (h0 : 3 ≤ len) (h1 : len ≤ 64) (h2 : 1 ≤ far) (h3 : far ≤ (s.length : Int)) (hr : 512 < len + ((s.length - d : Nat) : Int)) :
    Calls Try.prog 53 #[.pointer (some ⟨M, 0, none⟩), .agg #[S l, I far, I len]] w fun e w' => e = .returned (I 2) ∧ Below base w w' ∧ Keeps badMk w w' := by
  obtain ⟨hbM, A, cap, hblk, hown⟩ := hM
  have hlt : M < w.heap.size := (Array.getElem?_eq_some_iff.1 hblk).1
  have c0 : w.cell? ⟨M, 0, none⟩ = some (.slice A s.length cap) := by rw [cell_of_row w M 0 _ _ _ hblk]; rfl
  have c1 : w.cell? ⟨M, 1, none⟩ = some (.int .i64 d) := by rw [cell_of_row w M 1 _ _ _ hblk]; rfl
  have c2 : w.cell? ⟨M, 2, none⟩ = some (.bool lit) := by rw [cell_of_row w M 2 _ _ _ hblk]; rfl
  have hk1 : (0 : Int) ≤ (s.length : Int) - (d : Int) := by omega
  have hk2 : (s.length : Int) - (d : Int) ≤ 512 := by omega
  have hbH : base ≤ w.heap.size := by omega
  subst hl
  have e1 : decide (len < 3) = false := by simp; omega
  have e2 : decide (64 < len) = false := by simp; omega
  have e3 : decide (far < 1) = false := by simp; omega
  have e4 : decide ((s.length : Int) < far) = false := by simp; omega
  have hk3 : 512 - ((s.length : Int) - (d : Int)) < len := by omega
  clear hblk hown
  go_enter Try.func53, Try.ntmps53
  go_wp2_with fail
  go_quiet (fail)
  go_wp2_with fail
  go_quiet (fail)
  go_wp2_with fail
  go_ret
  first | exact ⟨rfl, below_drewN ((Below.refl _ _).alloc hbH _) _, ((Keeps.refl _ _).alloc _).drewN _⟩ | exact ⟨rfl, below_drewN (below_drewN ((Below.refl _ _).alloc hbH _) _) _, (((Keeps.refl _ _).alloc _).drewN _).drewN _⟩

end Go.Proofs.Ytgfkkjcnnecefaa
