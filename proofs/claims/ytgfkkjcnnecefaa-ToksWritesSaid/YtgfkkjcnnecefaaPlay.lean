/- The walk of Play, Check. -/
import Derived.Test.YtgfkkjcnnecefaaToksAt
namespace Go.Proofs.Ytgfkkjcnnecefaa
open Go.RowKit Go.Lib Pl
attribute [local go_sem] ext_list app_list

theorem drop_cons {α : Type} {l : List α} {k : Nat} {t : α} (h : l[k]? = some t) : l.drop k = t :: l.drop (k + 1) := by
  have hk : k < l.length := (List.getElem?_eq_some_iff.1 h).1
  rw [List.drop_eq_getElem_cons hk]
  congr 1
  rw [List.getElem?_eq_getElem hk] at h
  injection h

set_option maxHeartbeats 1000000 in
set_option maxRecDepth 100000 in
theorem play_walk (dict : Bytes) (A : Option Addr) (n cap : Nat) (l : List Tok) (w : World) (hl : ToksAt w w.heap.size A n l) (hd : dict.length ≤ 256) (hn : n ≤ 4611686018427387904) :
    Calls Try.prog 24 #[S dict, .slice A n cap] w fun e w' => e = .returned (.tuple #[S (play dict l).1, I (play dict l).2]) ∧ Below w.heap.size w w' := by
  have kb := fun (W : World) => run_bytes_of_string (P := Try.prog) W 9 73 5 ⟨dict.toArray⟩ Try.underlying9 Try.underlying73 Try.underlying5
  go_enter Try.func24, Try.ntmps24
  go_wp2_with fail
  go_loopw [21] (fun i wr => ∃ (k : Nat) (lit : Bool) (s : Bytes), k ≤ n ∧ i = .int .i64 k ∧ Mk wr w.heap.size (w.heap.size + 1) dict.length lit s ∧ dict.length ≤ s.length ∧ s.length ≤ dict.length + 512 ∧
      playF dict.length s lit (l.drop k) = play dict l ∧ Below w.heap.size w wr)
    (fun i _ => n - (intOf i).toNat)
  case atStart =>
    refine ⟨0, false, dict, by omega, rfl, Mk.made w _ dict (Nat.le_refl _) (by omega), by omega, by omega, ?_, ?_⟩
    · unfold play; rw [if_neg (by unfold maxDict; omega)]; rfl
    · exact ((Below.refl _ _).drew.alloc (Nat.le_refl _) _).alloc (by simp) _
  case round =>
    obtain ⟨k, lit, s, hk, rfl, hMk, hs1, hs2, hpl, hbel⟩ := hrel
    by_cases hkn : k < n
    · obtain ⟨b, off, t, rfl, hb, ht, q0, q1, q2⟩ := (hl.below hbel).at_ hkn
      obtain ⟨c, hc⟩ : ∃ c, c = tokE dict.length s lit t := ⟨_, rfl⟩
      have c1 := fun (W : World) (h : Mk W w.heap.size (w.heap.size + 1) dict.length lit s) => tok_any w.heap.size (w.heap.size + 1) dict.length lit s t W h hs1 hs2 hd
      rw [← hc] at c1
      have C1 := hide c1
      have HC := hide hc
      have HP := hide hpl
      have HT := hide ht
      clear c1 hc hpl ht
      by_cases hz : c = 0
      · subst hz
        go_wp2_with fail
        refine (unhide C1 _ (hMk.alloc _)).mono ?_
        rintro e w1 ⟨rfl, hmk1, hb1, _⟩
        have hmk1 := hmk1 (by first | trivial | exact (unhide HC).symm)
        go_wp2_with fail
        go_roundw
        case rel =>
          obtain ⟨h1, h2, _⟩ := tokS_len (unhide HC).symm hs2 hs1
          refine ⟨k + 1, isLit t, tokS s t, by omega, by go_num, hmk1, h1, h2, ?_, (hbel.alloc hbel.size _).trans hb1⟩
          rw [← unhide HP, drop_cons (unhide HT), playF, if_neg (by rw [← unhide HC]; omega)]
        case measure => simp [intOf]; omega
      · have HZ := hide hz
        have z1 : ((c : Int) == 0) = false := beq_eq_false_iff_ne.2 (by omega)
        have z2 : ((c : Int) != 0) = true := by rw [bne_iff_ne]; omega
        clear hz
        go_wp2_with fail
        refine (unhide C1 _ (hMk.alloc _)).mono ?_
        rintro e w1 ⟨rfl, _, hb1, _⟩
        go_wp2_with fail
        go_ret2
        rw [← unhide HP, drop_cons (unhide HT), playF, if_pos (by rw [← unhide HC]; exact unhide HZ), ← unhide HC]
        exact ⟨rfl, (hbel.alloc hbel.size _).trans hb1⟩
    · have hkn2 : k = n := by omega
      have hpl2 : play dict l = (s.drop dict.length, 0) := by
        rw [← hpl, hkn2, List.drop_of_length_le (by have := hl.1; omega), playF]
      obtain ⟨hbM, A1, cap1, hblk, hown⟩ := hMk
      have c0 : wr.cell? ⟨w.heap.size + 1, 0, none⟩ = some (.slice A1 s.length cap1) := by rw [cell_of_row wr _ 0 _ _ _ hblk]; rfl
      have HP := hide hpl2
      have HO := hide hown
      clear hpl2 hkn2 hblk hown hpl
      have st1 := run_str_cut (P := Try.prog) (k := dict.length) (unhide HO) 73 9 Try.underlying73 Try.underlying5 Try.underlying9
      have hnc : s.length ≤ cap1 := by
        rcases (unhide HO).2 with ⟨hv, h0⟩ | ⟨g, cap', cur, fz, hv, _, _, _, h5, _⟩
        · omega
        · injection hv with _ _ h6; omega
      by_cases hcd : cap1 = dict.length
      · have hsl : s.length - dict.length = 0 := by omega
        have st0 := fun (p : Option Addr) (c : Nat) => run_str_zero (P := Try.prog) wr p c 73 9 5 Try.underlying73 Try.underlying5 Try.underlying9
        have hdr : s.drop dict.length = [] := List.drop_of_length_le (by omega)
        have HD := hide hdr
        clear st1 hdr
        go_wp2_with fail
        go_ret2
        rw [unhide HP, unhide HD]
        exact ⟨rfl, hbel⟩
      · go_wp2_with fail
        go_ret2
        rw [unhide HP]
        exact ⟨rfl, hbel⟩

set_option maxHeartbeats 1000000 in
set_option maxRecDepth 100000 in
theorem play_many (dict : Bytes) (A : Option Addr) (n cap : Nat) (w : World) (hd : 256 < dict.length) (hd2 : dict.length ≤ 9223372036854775807) :
    Calls Try.prog 24 #[S dict, .slice A n cap] w fun e w' => e = .returned (.tuple #[S [], I 2]) ∧ Below w.heap.size w w' := by
  go_enter Try.func24, Try.ntmps24
  go_wp2_with fail
  go_ret2
  exact ⟨rfl, Below.refl _ _⟩

/-- Play -/
theorem play_any (dict : Bytes) (A : Option Addr) (n cap : Nat) (l : List Tok) (w : World) (hl : ToksAt w w.heap.size A n l) (hd : dict.length ≤ 9223372036854775807) (hn : n ≤ 4611686018427387904) :
    Calls Try.prog 24 #[S dict, .slice A n cap] w fun e w' => e = .returned (.tuple #[S (play dict l).1, I (play dict l).2]) ∧ Below w.heap.size w w' := by
  by_cases h : dict.length ≤ 256
  · exact play_walk dict A n cap l w hl h hn
  · have e : play dict l = ([], 2) := by unfold play; exact if_pos (by unfold maxDict; omega)
    rw [e]; exact play_many dict A n cap w (by omega) hd

set_option maxHeartbeats 1000000 in
set_option maxRecDepth 100000 in
/-- Check -/
theorem check_any (dict : Bytes) (A : Option Addr) (n cap : Nat) (l : List Tok) (w : World) (hl : ToksAt w w.heap.size A n l) (hd : dict.length ≤ 9223372036854775807) (hn : n ≤ 4611686018427387904) :
    Calls Try.prog 27 #[S dict, .slice A n cap] w fun e w' => e = .returned (I (play dict l).2) ∧ Below w.heap.size w w' := by
  have c1 := hide (play_any dict A n cap l w hl hd hn)
  go_enter Try.func27, Try.ntmps27
  go_wp2_with fail
  refine (unhide c1).mono ?_
  rintro e w1 ⟨rfl, hb⟩
  go_wp2_with fail
  go_ret
  exact ⟨rfl, hb⟩

end Go.Proofs.Ytgfkkjcnnecefaa
