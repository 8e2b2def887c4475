/- The walk of (*maker).tok where it copies. -/
import Derived.Test.YtgfkkjcnnecefaaTok
namespace Go.Proofs.Ytgfkkjcnnecefaa
open Go.RowKit Go.Lib Pl
attribute [local go_sem] ext_list app_list

set_option maxHeartbeats 1000000 in
set_option maxRecDepth 100000 in
theorem tok_copyok (base M d : Nat) (lit : Bool) (s : Bytes) (far len : Nat) (w : World) (hM : Mk w base M d lit s) (hd : d ≤ s.length) (hs : s.length ≤ d + 512) (hd2 : d ≤ 256)
    (h0 : 3 ≤ len) (h1 : len ≤ 64) (h2 : 1 ≤ far) (h3 : far ≤ s.length) (hr : len + (s.length - d) ≤ 512) :
    Calls Try.prog 53 #[.pointer (some ⟨M, 0, none⟩), .agg #[S [], I far, I len]] w fun e w' => e = .returned (I 0) ∧ Mk w' base M d false (copyB len far s) ∧ Below base w w' ∧ Keeps badMk w w' := by
  have hM0 := hM
  obtain ⟨hbM, A, cap, hblk, hown⟩ := hM
  have hlt : M < w.heap.size := (Array.getElem?_eq_some_iff.1 hblk).1
  have c0 : w.cell? ⟨M, 0, none⟩ = some (.slice A s.length cap) := by rw [cell_of_row w M 0 _ _ _ hblk]; rfl
  have c1 : w.cell? ⟨M, 1, none⟩ = some (.int .i64 d) := by rw [cell_of_row w M 1 _ _ _ hblk]; rfl
  have hk1 : (0 : Int) ≤ (s.length : Int) - (d : Int) := by omega
  have hk2 : (s.length : Int) - (d : Int) ≤ 512 := by omega
  have hbH : base ≤ w.heap.size := by omega
  have e1 : decide ((len : Int) < 3) = false := by simp; omega
  have e2 : decide (64 < (len : Int)) = false := by simp; omega
  have e3 : decide ((far : Int) < 1) = false := by simp; omega
  have e4 : decide ((s.length : Int) < (far : Int)) = false := by simp; omega
  have e5 : decide (s.length < far) = false := by simp; omega
  have hk3 : (len : Int) ≤ 512 - ((s.length : Int) - (d : Int)) := by omega
  have HM := hide hM0
  obtain ⟨i0, hi0, hz0, hz1, hz2⟩ := info_parts info_u8
  clear hblk hown hM0
  go_enter Try.func53, Try.ntmps53
  go_wp2_with fail
  go_quiet (fail)
  go_wp2_with fail
  go_quiet (fail)
  go_wp2_with fail
  clear e1 e2 e3 e4 e5 c0 c1
  go_loopw [82] (fun i wr => ∃ k : Nat, k ≤ len ∧ i = .int .i64 k ∧ Mk wr base M d lit (copyB k far s) ∧ Below base w wr ∧ Keeps badMk w wr ∧ wr.heap[w.heap.size]? = some (.cells #[S [], I far, I len] 80 (0, 0)))
    (fun i _ => len - (intOf i).toNat)
  case atStart =>
    refine ⟨0, by omega, rfl, ?_, ?_, ?_, ?_⟩
    · obtain ⟨a1, A, cap, a2, a3⟩ := unhide HM
      exact ⟨a1, A, cap, (Below.heap_alloc w _ M hlt).trans a2, (a3.alloc _)⟩
    · exact below_drewN ((Below.refl _ _).alloc hbH _) _
    · exact ((Keeps.refl _ _).alloc _).drewN _
    · exact heap_alloc_new w _
  case round =>
    obtain ⟨k, hk, rfl, hMk, hbel, hkeep, hpar⟩ := hrel
    have hlen := copyB_len k far s
    obtain ⟨s', hs'⟩ : ∃ s', s' = copyB k far s := ⟨_, rfl⟩
    rw [← hs'] at hlen hMk
    have hMk' := hMk
    obtain ⟨_, A1, cap1, hblk1, hown1⟩ := hMk
    have hMlt1 : M < wr.heap.size := (Array.getElem?_eq_some_iff.1 hblk1).1
    have c0 : wr.cell? ⟨M, 0, none⟩ = some (.slice A1 s'.length cap1) := by rw [cell_of_row wr M 0 _ _ _ hblk1]; rfl
    have c2 : wr.cell? ⟨M, 2, none⟩ = some (.bool lit) := by rw [cell_of_row wr M 2 _ _ _ hblk1]; rfl
    have p1 : wr.cell? ⟨w.heap.size, 1, none⟩ = some (I far) := by rw [cell_of_row wr _ 1 _ _ _ hpar]; rfl
    have p2 : wr.cell? ⟨w.heap.size, 2, none⟩ = some (I len) := by rw [cell_of_row wr _ 2 _ _ _ hpar]; rfl
    have f0 : wr.frozen? ⟨M, 0, none⟩ = false := by simp [World.frozen?, hblk1]
    have f2 : wr.frozen? ⟨M, 2, none⟩ = false := by simp [World.frozen?, hblk1]
    have hln : (s'.length : Int) = (s.length : Int) + k := by omega
    have HL := hide hln
    have hb3 : s'.length ≤ 832 := by omega
    by_cases hlk : k < len
    · obtain ⟨j, hj⟩ : ∃ j : Nat, j = s'.length - far := ⟨_, rfl⟩
      have hjlt : j < s'.length := by omega
      have hj2 : ((s'.length : Int) - (far : Int)).toNat = j := by omega
      have hj3 : (0 : Int) ≤ (s'.length : Int) - (far : Int) := by omega
      have hj4 : (s'.length : Int) - (far : Int) < (s'.length : Int) := by omega
      obtain ⟨g, capg, u, hv, hbg, hu, hcell⟩ := hown1.at_ (k := j) (by omega)
      injection hv with hvA _ hvc
      subst hvA hvc
      obtain ⟨c, hc⟩ : ∃ c, s'[j]? = some c := ⟨_, List.getElem?_eq_getElem hjlt⟩
      have huc : u = B c := by
        rw [List.getElem?_map, hc] at hu; simpa using hu.symm
      subst huc
      have HS := hide hs'
      have HJ := hide hj
      have HC := hide hc
      have HB := hide hblk1
      have HO := hide hown1
      have HP := hide hpar
      clear hlen hs' hj hu hblk1 hown1 hpar hln hc
      go_wp2_with fail
      go_quiet (fail)
      go_wp2_with (at_builtin; refine wpList_push_M rfl _ _ _ rfl base 5 i0 _ 1 Try.underlying73 hi0 hz0 hz1 hz2 rfl _ s'.length (s'.map B) rfl _ _ (by exact (unhide HO).drewN _) rfl rfl (by unfold maxLen; omega) (by omega) (by show base ≤ wr.heap.size; omega) ?_; intro g1 cap2 w1 hown1 hg1 hat1; have hm1 := mk_after (unhide HB) (unhide HO) (below_drewN_alloc wr _ _) hg1; have c0' := cell_of_row w1 M 0 _ _ _ hm1; simp at c0'; have f0' := free_row w1 M 0 _ _ hm1)
      have hend := mk_end (w2 := w1.setCell ⟨M, 0, none⟩ (.slice (some ⟨g1, 0, none⟩) (s'.length + 1) cap2)) (s1 := s' ++ [c]) hbM (unhide HB) (unhide HO) (below_drewN_alloc wr _ _) (by simpa using hown1) hg1 (by rw [set_row hm1]; rfl) (fun k hk => Below.heap_setCell _ _ _ _ hk) (size_setCell _ _ _) rfl rfl rfl
      obtain ⟨n1, n2, n3⟩ := hend
      clear hown1 hg1 hat1 hm1 c0' f0'
      go_roundw
      case rel =>
        refine ⟨k + 1, by omega, by go_num, ?_, hbel.trans n2, hkeep.trans n3, n3.block _ _ (unhide HP) rfl⟩
        rw [copyB_snoc, ← unhide HS, ← unhide HJ]
        have : s'.getD j 0 = c := by rw [List.getD_eq_getElem?_getD, unhide HC]; rfl
        rw [this]; exact n1
      case measure => simp [intOf]; omega
    · have hkl : k = len := by omega
      have HS := hide hs'
      have HB := hide hblk1
      have HO := hide hown1
      have HK := hide hkl
      clear hlen hs' hblk1 hown1 hpar hln hkl
      go_wp2_with fail
      go_ret
      rw [← unhide HK, ← unhide HS]
      refine ⟨rfl, ⟨hbM, A1, cap1, (set_row (unhide HB) _ _), (unhide HO).setCell (mk_far (unhide HB) (unhide HO)) _⟩, hbel.trans ?_, hkeep.trans ((Keeps.refl _ _).setCell _ (unhide HB) rfl)⟩
      exact (Below.refl _ _).setCell hbM _

end Go.Proofs.Ytgfkkjcnnecefaa
