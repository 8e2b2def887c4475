/- Parts of the proofs. -/
import Derived.Test.YtjpgoeimclipjaaGreatAcArchTrue1
namespace Go.Proofs.YtjpgoeimclipjaaGreat
open Go.RowKit Go.Lib Pl
attribute [local go_sem] ext_list app_list
set_option maxHeartbeats 8000000 in
set_option maxRecDepth 100000 in
theorem archTrue_0011 (A : Option Addr) (n cap : Nat) (A2 : Option Addr) (n2 cap2 : Nat) (a : Arc) (file text : Bytes) (k : Int) (other : Bytes) (m q : Int) (w : World) (h : ArcIn w A n A2 n2 a) (hz : ArcSz a) (hfl : file.length ≤ 140737488355328) (htl : text.length ≤ 9223372036854775807) (hk0 : -9223372036854775808 ≤ k) (hk1 : k ≤ 9223372036854775807) (hm0 : -9223372036854775808 ≤ m) (hm1 : m ≤ 9223372036854775807) (hq0 : -9223372036854775808 ≤ q) (hq1 : q ≤ 9223372036854775807) (hm : MaxLenIs w)
    (hput : (put a file text k).2 ≠ 0) (hdrop : (drop a file).2 = 0) (hsame : other = file) :
    Calls Tryz.prog 9 #[arcV A n cap A2 n2 cap2, S file, S text, I k, S other, I m, I q] w fun e w' => e = .returned (.bool true) ∧ Below w.heap.size w w' := by
  subst hsame
  have CP := fun (W : World) (hi : ArcIn W A n A2 n2 a) => put_any A n cap A2 n2 cap2 a other text k W hi hz hfl htl hk0 hk1
  have CD := fun (W : World) (hi : ArcIn W A n A2 n2 a) => drop_any A n cap A2 n2 cap2 a other W hi hz
  have CG := fun (W : World) (hi : ArcIn W A n A2 n2 a) => get_any A n cap A2 n2 cap2 a other W hi hz
  have hra1 := put_ra a other text k
  have hra2 := drop_ra a other
  obtain ⟨b, hb⟩ : ∃ b, b = (put a other text k).1 := ⟨_, rfl⟩
  obtain ⟨c, hc⟩ : ∃ c, c = (drop a other).1 := ⟨_, rfl⟩
  obtain ⟨tw, htw⟩ : ∃ t, t = (Pl.get a other).1 := ⟨_, rfl⟩
  obtain ⟨fw, hfw⟩ : ∃ t, t = (Pl.get a other).2 := ⟨_, rfl⟩
  obtain ⟨ep, hep⟩ : ∃ t, t = (put a other text k).2 := ⟨_, rfl⟩
  rw [show put a other text k = (b, ep) from Prod.ext hb.symm hep.symm] at CP
  rw [← hep] at hput
  have d1 : ((ep : Int) != 0) = true := by rw [bne_iff_ne]; omega
  have d2 : ((ep : Int) == 0) = false := by rw [beq_eq_false_iff_ne]; omega
  have d3 : ¬ (ep : Int) = 0 := by omega
  clear hep
  have CC1 := fun (W : World) (A : Option Addr) (n cap : Nat) (A2 : Option Addr) (n2 cap2 : Nat) (hi : ArcIn W A n A2 n2 c) => get_any A n cap A2 n2 cap2 c other W hi (right_sz (by rw [hc]; exact hra2))
  rw [show Pl.get c other = ([], 5) from by rw [hc]; exact drop_get hdrop] at CC1
  rw [show drop a other = (c, 0) from Prod.ext hc.symm hdrop] at CD
  rw [← htw, ← hfw] at CG
  have CP := hide CP
  have CD := hide CD
  have CG := hide CG
  have CC1 := hide CC1
  clear hz hb hc htw hfw hra1 hra2 hput hdrop
  obtain ⟨B, hB⟩ : ∃ B, B = w.heap.size := ⟨_, rfl⟩
  obtain ⟨w0, hw0⟩ : ∃ w0, w0 = w.alloc (.cells #[.slice A n cap, .slice A2 n2 cap2] 33) := ⟨_, rfl⟩
  have H0 := hide (show St w w0 B [⟨B, A, n, cap, A2, n2, cap2, a⟩] by rw [hw0, hB]; exact St.box h cap cap2)
  have HB := hide hB
  have HW0 := hide hw0
  have HM := hide hm
  rw [← hB]
  clear hB hw0 hm
  go_enter Tryz.func9, Tryz.ntmps9
  go_upto_region 1 with fail
  rw [← unhide HW0, ← unhide HB]
  have u0x0 : w0.cell? ⟨B, 0, none⟩ = some (.slice A n cap) := (unhide H0).c0 0 rfl
  have v0x0 : w0.cell? ⟨B, 1, none⟩ = some (.slice A2 n2 cap2) := (unhide H0).c1 0 rfl
  go_wp2_with fail
  refine (unhide CP _ ((unhide H0).at_ 0 rfl).i).mono ?_
  rintro e w1 ⟨hr1, hb1⟩
  obtain ⟨Ra1, na1, ca1, Rb1, nb1, cb1, rfl, hi1, hc1, ho1⟩ := hr1.open
  have H1 := hide ((unhide H0).below hb1)
  have HI1 := hide hi1
  have HC1 := hide hc1
  have HO1 := hide ho1
  clear hb1 hi1 hc1 hr1 ho1
  go_upto_region 2 with (refine wpList_store_row rfl 33 (.tmp 15) (.tmp 37) rfl w1.heap.size #[.slice Ra1 na1 ca1, .slice Rb1 nb1 cb1] rfl rfl 33 _ (heap_alloc_new _ _) sizeArc rfl (one_two _ _ _ _ _ _) ?_)
  obtain ⟨x1, hx1⟩ : ∃ x, x = (w1.alloc (.cells #[.slice none 0 0, .slice none 0 0] 33)).setRow w1.heap.size #[.slice Ra1 na1 ca1, .slice Rb1 nb1 cb1] := ⟨_, rfl⟩
  obtain ⟨P1, hP1⟩ : ∃ P, P = w1.heap.size := ⟨_, rfl⟩
  have G1 := hide (show St w x1 B [⟨P1, Ra1, na1, ca1, Rb1, nb1, cb1, b⟩, ⟨B, A, n, cap, A2, n2, cap2, a⟩] by rw [hx1, hP1]; exact (unhide H1).new (unhide HI1) ca1 cb1)
  rw [← hx1, ← hP1]
  clear hx1 hP1
  clear u0x0 v0x0
  have u1x0 : x1.cell? ⟨P1, 0, none⟩ = some (.slice Ra1 na1 ca1) := (unhide G1).c0 0 rfl
  have v1x0 : x1.cell? ⟨P1, 1, none⟩ = some (.slice Rb1 nb1 cb1) := (unhide G1).c1 0 rfl
  have u1x1 : x1.cell? ⟨B, 0, none⟩ = some (.slice A n cap) := (unhide G1).c0 1 rfl
  have v1x1 : x1.cell? ⟨B, 1, none⟩ = some (.slice A2 n2 cap2) := (unhide G1).c1 1 rfl
  go_wp2_with fail
  refine (unhide CG _ ((unhide G1).at_ 1 rfl).i).mono ?_
  rintro e w2 ⟨rfl, hb2⟩
  have H2 := hide ((unhide G1).below hb2)
  clear hb2
  clear u1x0 v1x0 u1x1 v1x1
  have u2x0 : w2.cell? ⟨P1, 0, none⟩ = some (.slice Ra1 na1 ca1) := (unhide H2).c0 0 rfl
  have v2x0 : w2.cell? ⟨P1, 1, none⟩ = some (.slice Rb1 nb1 cb1) := (unhide H2).c1 0 rfl
  have u2x1 : w2.cell? ⟨B, 0, none⟩ = some (.slice A n cap) := (unhide H2).c0 1 rfl
  have v2x1 : w2.cell? ⟨B, 1, none⟩ = some (.slice A2 n2 cap2) := (unhide H2).c1 1 rfl
  go_wp2_with fail
  refine (unhide CD _ ((unhide H2).at_ 1 rfl).i).mono ?_
  rintro e w3 ⟨hr3, hb3⟩
  obtain ⟨Ra3, na3, ca3, Rb3, nb3, cb3, rfl, hi3, hc3, ho3⟩ := hr3.open
  have H3 := hide ((unhide H2).below hb3)
  have HI3 := hide hi3
  have HC3 := hide hc3
  have HO3 := hide ho3
  clear hb3 hi3 hc3 hr3 ho3
  go_upto_region 12 with (refine wpList_store_row rfl 33 (.tmp 25) (.tmp 126) rfl w3.heap.size #[.slice Ra3 na3 ca3, .slice Rb3 nb3 cb3] rfl rfl 33 _ (heap_alloc_new _ _) sizeArc rfl (one_two _ _ _ _ _ _) ?_)
  obtain ⟨x3, hx3⟩ : ∃ x, x = (w3.alloc (.cells #[.slice none 0 0, .slice none 0 0] 33)).setRow w3.heap.size #[.slice Ra3 na3 ca3, .slice Rb3 nb3 cb3] := ⟨_, rfl⟩
  obtain ⟨P3, hP3⟩ : ∃ P, P = w3.heap.size := ⟨_, rfl⟩
  have G3 := hide (show St w x3 B [⟨P3, Ra3, na3, ca3, Rb3, nb3, cb3, c⟩, ⟨P1, Ra1, na1, ca1, Rb1, nb1, cb1, b⟩, ⟨B, A, n, cap, A2, n2, cap2, a⟩] by rw [hx3, hP3]; exact (unhide H3).new (unhide HI3) ca3 cb3)
  rw [← hx3, ← hP3]
  clear hx3 hP3
  clear u2x0 v2x0 u2x1 v2x1
  have u3x0 : x3.cell? ⟨P3, 0, none⟩ = some (.slice Ra3 na3 ca3) := (unhide G3).c0 0 rfl
  have v3x0 : x3.cell? ⟨P3, 1, none⟩ = some (.slice Rb3 nb3 cb3) := (unhide G3).c1 0 rfl
  have u3x1 : x3.cell? ⟨P1, 0, none⟩ = some (.slice Ra1 na1 ca1) := (unhide G3).c0 1 rfl
  have v3x1 : x3.cell? ⟨P1, 1, none⟩ = some (.slice Rb1 nb1 cb1) := (unhide G3).c1 1 rfl
  have u3x2 : x3.cell? ⟨B, 0, none⟩ = some (.slice A n cap) := (unhide G3).c0 2 rfl
  have v3x2 : x3.cell? ⟨B, 1, none⟩ = some (.slice A2 n2 cap2) := (unhide G3).c1 2 rfl
  go_wp2_with fail
  refine (unhide CC1 _ _ _ _ _ _ _ ((unhide G3).at_ 0 rfl).i).mono ?_
  rintro e w4 ⟨rfl, hb4⟩
  have H4 := hide ((unhide G3).below hb4)
  clear hb4
  clear u3x0 v3x0 u3x1 v3x1 u3x2 v3x2
  have u4x0 : w4.cell? ⟨P3, 0, none⟩ = some (.slice Ra3 na3 ca3) := (unhide H4).c0 0 rfl
  have v4x0 : w4.cell? ⟨P3, 1, none⟩ = some (.slice Rb3 nb3 cb3) := (unhide H4).c1 0 rfl
  have u4x1 : w4.cell? ⟨P1, 0, none⟩ = some (.slice Ra1 na1 ca1) := (unhide H4).c0 1 rfl
  have v4x1 : w4.cell? ⟨P1, 1, none⟩ = some (.slice Rb1 nb1 cb1) := (unhide H4).c1 1 rfl
  have u4x2 : w4.cell? ⟨B, 0, none⟩ = some (.slice A n cap) := (unhide H4).c0 2 rfl
  have v4x2 : w4.cell? ⟨B, 1, none⟩ = some (.slice A2 n2 cap2) := (unhide H4).c1 2 rfl
  go_wp2_with fail
  refine (unhide CC1 _ _ _ _ _ _ _ ((unhide H4).at_ 0 rfl).i).mono ?_
  rintro e w5 ⟨rfl, hb5⟩
  have H5 := hide ((unhide H4).below hb5)
  clear hb5
  clear u4x0 v4x0 u4x1 v4x1 u4x2 v4x2
  have u5x0 : w5.cell? ⟨P3, 0, none⟩ = some (.slice Ra3 na3 ca3) := (unhide H5).c0 0 rfl
  have v5x0 : w5.cell? ⟨P3, 1, none⟩ = some (.slice Rb3 nb3 cb3) := (unhide H5).c1 0 rfl
  have u5x1 : w5.cell? ⟨P1, 0, none⟩ = some (.slice Ra1 na1 ca1) := (unhide H5).c0 1 rfl
  have v5x1 : w5.cell? ⟨P1, 1, none⟩ = some (.slice Rb1 nb1 cb1) := (unhide H5).c1 1 rfl
  have u5x2 : w5.cell? ⟨B, 0, none⟩ = some (.slice A n cap) := (unhide H5).c0 2 rfl
  have v5x2 : w5.cell? ⟨B, 1, none⟩ = some (.slice A2 n2 cap2) := (unhide H5).c1 2 rfl
  go_wp2_with fail
  refine (archBegun_any _ ((unhide HM).up (by have := (unhide H5).bel; rw [unhide HB] at this; exact this))).mono ?_
  rintro e w6 ⟨rfl, hb6⟩
  have H6 := hide ((unhide H5).below hb6)
  clear hb6
  clear u5x0 v5x0 u5x1 v5x1 u5x2 v5x2
  have u6x0 : w6.cell? ⟨P3, 0, none⟩ = some (.slice Ra3 na3 ca3) := (unhide H6).c0 0 rfl
  have v6x0 : w6.cell? ⟨P3, 1, none⟩ = some (.slice Rb3 nb3 cb3) := (unhide H6).c1 0 rfl
  have u6x1 : w6.cell? ⟨P1, 0, none⟩ = some (.slice Ra1 na1 ca1) := (unhide H6).c0 1 rfl
  have v6x1 : w6.cell? ⟨P1, 1, none⟩ = some (.slice Rb1 nb1 cb1) := (unhide H6).c1 1 rfl
  have u6x2 : w6.cell? ⟨B, 0, none⟩ = some (.slice A n cap) := (unhide H6).c0 2 rfl
  have v6x2 : w6.cell? ⟨B, 1, none⟩ = some (.slice A2 n2 cap2) := (unhide H6).c1 2 rfl
  go_wp2_with fail
  go_ret
  exact ⟨rfl, (unhide H6).bel⟩
set_option maxHeartbeats 8000000 in
set_option maxRecDepth 100000 in
theorem archTrue_0010 (A : Option Addr) (n cap : Nat) (A2 : Option Addr) (n2 cap2 : Nat) (a : Arc) (file text : Bytes) (k : Int) (other : Bytes) (m q : Int) (w : World) (h : ArcIn w A n A2 n2 a) (hz : ArcSz a) (hfl : file.length ≤ 140737488355328) (htl : text.length ≤ 9223372036854775807) (hk0 : -9223372036854775808 ≤ k) (hk1 : k ≤ 9223372036854775807) (hm0 : -9223372036854775808 ≤ m) (hm1 : m ≤ 9223372036854775807) (hq0 : -9223372036854775808 ≤ q) (hq1 : q ≤ 9223372036854775807) (hm : MaxLenIs w)
    (hput : (put a file text k).2 ≠ 0) (hdrop : (drop a file).2 = 0) (hsame : other ≠ file) :
    Calls Tryz.prog 9 #[arcV A n cap A2 n2 cap2, S file, S text, I k, S other, I m, I q] w fun e w' => e = .returned (.bool true) ∧ Below w.heap.size w w' := by
  have CP := fun (W : World) (hi : ArcIn W A n A2 n2 a) => put_any A n cap A2 n2 cap2 a file text k W hi hz hfl htl hk0 hk1
  have CD := fun (W : World) (hi : ArcIn W A n A2 n2 a) => drop_any A n cap A2 n2 cap2 a file W hi hz
  have CG := fun (W : World) (hi : ArcIn W A n A2 n2 a) => get_any A n cap A2 n2 cap2 a other W hi hz
  have hra1 := put_ra a file text k
  have hra2 := drop_ra a file
  obtain ⟨b, hb⟩ : ∃ b, b = (put a file text k).1 := ⟨_, rfl⟩
  obtain ⟨c, hc⟩ : ∃ c, c = (drop a file).1 := ⟨_, rfl⟩
  obtain ⟨tw, htw⟩ : ∃ t, t = (Pl.get a other).1 := ⟨_, rfl⟩
  obtain ⟨fw, hfw⟩ : ∃ t, t = (Pl.get a other).2 := ⟨_, rfl⟩
  obtain ⟨ep, hep⟩ : ∃ t, t = (put a file text k).2 := ⟨_, rfl⟩
  rw [show put a file text k = (b, ep) from Prod.ext hb.symm hep.symm] at CP
  rw [← hep] at hput
  have d1 : ((ep : Int) != 0) = true := by rw [bne_iff_ne]; omega
  have d2 : ((ep : Int) == 0) = false := by rw [beq_eq_false_iff_ne]; omega
  have d3 : ¬ (ep : Int) = 0 := by omega
  clear hep
  have CC1 := fun (W : World) (A : Option Addr) (n cap : Nat) (A2 : Option Addr) (n2 cap2 : Nat) (hi : ArcIn W A n A2 n2 c) => get_any A n cap A2 n2 cap2 c file W hi (right_sz (by rw [hc]; exact hra2))
  rw [show Pl.get c file = ([], 5) from by rw [hc]; exact drop_get hdrop] at CC1
  have CC2 := fun (W : World) (A : Option Addr) (n cap : Nat) (A2 : Option Addr) (n2 cap2 : Nat) (hi : ArcIn W A n A2 n2 c) => get_any A n cap A2 n2 cap2 c other W hi (right_sz (by rw [hc]; exact hra2))
  rw [show Pl.get c other = (tw, fw) from by rw [hc, drop_other hdrop hsame, htw, hfw]] at CC2
  rw [show drop a file = (c, 0) from Prod.ext hc.symm hdrop] at CD
  rw [← htw, ← hfw] at CG
  have s1 : (other == file) = false := by rw [beq_eq_false_iff_ne]; exact hsame
  have s2 : (other != file) = true := by rw [bne_iff_ne]; exact hsame
  clear hsame
  have CP := hide CP
  have CD := hide CD
  have CG := hide CG
  have CC1 := hide CC1
  have CC2 := hide CC2
  clear hz hb hc htw hfw hra1 hra2 hput hdrop
  obtain ⟨B, hB⟩ : ∃ B, B = w.heap.size := ⟨_, rfl⟩
  obtain ⟨w0, hw0⟩ : ∃ w0, w0 = w.alloc (.cells #[.slice A n cap, .slice A2 n2 cap2] 33) := ⟨_, rfl⟩
  have H0 := hide (show St w w0 B [⟨B, A, n, cap, A2, n2, cap2, a⟩] by rw [hw0, hB]; exact St.box h cap cap2)
  have HB := hide hB
  have HW0 := hide hw0
  have HM := hide hm
  rw [← hB]
  clear hB hw0 hm
  go_enter Tryz.func9, Tryz.ntmps9
  go_upto_region 1 with fail
  rw [← unhide HW0, ← unhide HB]
  have u0x0 : w0.cell? ⟨B, 0, none⟩ = some (.slice A n cap) := (unhide H0).c0 0 rfl
  have v0x0 : w0.cell? ⟨B, 1, none⟩ = some (.slice A2 n2 cap2) := (unhide H0).c1 0 rfl
  go_wp2_with fail
  refine (unhide CP _ ((unhide H0).at_ 0 rfl).i).mono ?_
  rintro e w1 ⟨hr1, hb1⟩
  obtain ⟨Ra1, na1, ca1, Rb1, nb1, cb1, rfl, hi1, hc1, ho1⟩ := hr1.open
  have H1 := hide ((unhide H0).below hb1)
  have HI1 := hide hi1
  have HC1 := hide hc1
  have HO1 := hide ho1
  clear hb1 hi1 hc1 hr1 ho1
  go_upto_region 2 with (refine wpList_store_row rfl 33 (.tmp 15) (.tmp 37) rfl w1.heap.size #[.slice Ra1 na1 ca1, .slice Rb1 nb1 cb1] rfl rfl 33 _ (heap_alloc_new _ _) sizeArc rfl (one_two _ _ _ _ _ _) ?_)
  obtain ⟨x1, hx1⟩ : ∃ x, x = (w1.alloc (.cells #[.slice none 0 0, .slice none 0 0] 33)).setRow w1.heap.size #[.slice Ra1 na1 ca1, .slice Rb1 nb1 cb1] := ⟨_, rfl⟩
  obtain ⟨P1, hP1⟩ : ∃ P, P = w1.heap.size := ⟨_, rfl⟩
  have G1 := hide (show St w x1 B [⟨P1, Ra1, na1, ca1, Rb1, nb1, cb1, b⟩, ⟨B, A, n, cap, A2, n2, cap2, a⟩] by rw [hx1, hP1]; exact (unhide H1).new (unhide HI1) ca1 cb1)
  rw [← hx1, ← hP1]
  clear hx1 hP1
  clear u0x0 v0x0
  have u1x0 : x1.cell? ⟨P1, 0, none⟩ = some (.slice Ra1 na1 ca1) := (unhide G1).c0 0 rfl
  have v1x0 : x1.cell? ⟨P1, 1, none⟩ = some (.slice Rb1 nb1 cb1) := (unhide G1).c1 0 rfl
  have u1x1 : x1.cell? ⟨B, 0, none⟩ = some (.slice A n cap) := (unhide G1).c0 1 rfl
  have v1x1 : x1.cell? ⟨B, 1, none⟩ = some (.slice A2 n2 cap2) := (unhide G1).c1 1 rfl
  go_wp2_with fail
  refine (unhide CG _ ((unhide G1).at_ 1 rfl).i).mono ?_
  rintro e w2 ⟨rfl, hb2⟩
  have H2 := hide ((unhide G1).below hb2)
  clear hb2
  clear u1x0 v1x0 u1x1 v1x1
  have u2x0 : w2.cell? ⟨P1, 0, none⟩ = some (.slice Ra1 na1 ca1) := (unhide H2).c0 0 rfl
  have v2x0 : w2.cell? ⟨P1, 1, none⟩ = some (.slice Rb1 nb1 cb1) := (unhide H2).c1 0 rfl
  have u2x1 : w2.cell? ⟨B, 0, none⟩ = some (.slice A n cap) := (unhide H2).c0 1 rfl
  have v2x1 : w2.cell? ⟨B, 1, none⟩ = some (.slice A2 n2 cap2) := (unhide H2).c1 1 rfl
  go_wp2_with fail
  refine (unhide CD _ ((unhide H2).at_ 1 rfl).i).mono ?_
  rintro e w3 ⟨hr3, hb3⟩
  obtain ⟨Ra3, na3, ca3, Rb3, nb3, cb3, rfl, hi3, hc3, ho3⟩ := hr3.open
  have H3 := hide ((unhide H2).below hb3)
  have HI3 := hide hi3
  have HC3 := hide hc3
  have HO3 := hide ho3
  clear hb3 hi3 hc3 hr3 ho3
  go_upto_region 12 with (refine wpList_store_row rfl 33 (.tmp 25) (.tmp 126) rfl w3.heap.size #[.slice Ra3 na3 ca3, .slice Rb3 nb3 cb3] rfl rfl 33 _ (heap_alloc_new _ _) sizeArc rfl (one_two _ _ _ _ _ _) ?_)
  obtain ⟨x3, hx3⟩ : ∃ x, x = (w3.alloc (.cells #[.slice none 0 0, .slice none 0 0] 33)).setRow w3.heap.size #[.slice Ra3 na3 ca3, .slice Rb3 nb3 cb3] := ⟨_, rfl⟩
  obtain ⟨P3, hP3⟩ : ∃ P, P = w3.heap.size := ⟨_, rfl⟩
  have G3 := hide (show St w x3 B [⟨P3, Ra3, na3, ca3, Rb3, nb3, cb3, c⟩, ⟨P1, Ra1, na1, ca1, Rb1, nb1, cb1, b⟩, ⟨B, A, n, cap, A2, n2, cap2, a⟩] by rw [hx3, hP3]; exact (unhide H3).new (unhide HI3) ca3 cb3)
  rw [← hx3, ← hP3]
  clear hx3 hP3
  clear u2x0 v2x0 u2x1 v2x1
  have u3x0 : x3.cell? ⟨P3, 0, none⟩ = some (.slice Ra3 na3 ca3) := (unhide G3).c0 0 rfl
  have v3x0 : x3.cell? ⟨P3, 1, none⟩ = some (.slice Rb3 nb3 cb3) := (unhide G3).c1 0 rfl
  have u3x1 : x3.cell? ⟨P1, 0, none⟩ = some (.slice Ra1 na1 ca1) := (unhide G3).c0 1 rfl
  have v3x1 : x3.cell? ⟨P1, 1, none⟩ = some (.slice Rb1 nb1 cb1) := (unhide G3).c1 1 rfl
  have u3x2 : x3.cell? ⟨B, 0, none⟩ = some (.slice A n cap) := (unhide G3).c0 2 rfl
  have v3x2 : x3.cell? ⟨B, 1, none⟩ = some (.slice A2 n2 cap2) := (unhide G3).c1 2 rfl
  go_wp2_with fail
  refine (unhide CC1 _ _ _ _ _ _ _ ((unhide G3).at_ 0 rfl).i).mono ?_
  rintro e w4 ⟨rfl, hb4⟩
  have H4 := hide ((unhide G3).below hb4)
  clear hb4
  clear u3x0 v3x0 u3x1 v3x1 u3x2 v3x2
  have u4x0 : w4.cell? ⟨P3, 0, none⟩ = some (.slice Ra3 na3 ca3) := (unhide H4).c0 0 rfl
  have v4x0 : w4.cell? ⟨P3, 1, none⟩ = some (.slice Rb3 nb3 cb3) := (unhide H4).c1 0 rfl
  have u4x1 : w4.cell? ⟨P1, 0, none⟩ = some (.slice Ra1 na1 ca1) := (unhide H4).c0 1 rfl
  have v4x1 : w4.cell? ⟨P1, 1, none⟩ = some (.slice Rb1 nb1 cb1) := (unhide H4).c1 1 rfl
  have u4x2 : w4.cell? ⟨B, 0, none⟩ = some (.slice A n cap) := (unhide H4).c0 2 rfl
  have v4x2 : w4.cell? ⟨B, 1, none⟩ = some (.slice A2 n2 cap2) := (unhide H4).c1 2 rfl
  go_wp2_with fail
  refine (unhide CC2 _ _ _ _ _ _ _ ((unhide H4).at_ 0 rfl).i).mono ?_
  rintro e w5 ⟨rfl, hb5⟩
  have H5 := hide ((unhide H4).below hb5)
  clear hb5
  clear u4x0 v4x0 u4x1 v4x1 u4x2 v4x2
  have u5x0 : w5.cell? ⟨P3, 0, none⟩ = some (.slice Ra3 na3 ca3) := (unhide H5).c0 0 rfl
  have v5x0 : w5.cell? ⟨P3, 1, none⟩ = some (.slice Rb3 nb3 cb3) := (unhide H5).c1 0 rfl
  have u5x1 : w5.cell? ⟨P1, 0, none⟩ = some (.slice Ra1 na1 ca1) := (unhide H5).c0 1 rfl
  have v5x1 : w5.cell? ⟨P1, 1, none⟩ = some (.slice Rb1 nb1 cb1) := (unhide H5).c1 1 rfl
  have u5x2 : w5.cell? ⟨B, 0, none⟩ = some (.slice A n cap) := (unhide H5).c0 2 rfl
  have v5x2 : w5.cell? ⟨B, 1, none⟩ = some (.slice A2 n2 cap2) := (unhide H5).c1 2 rfl
  go_wp2_with fail
  refine (archBegun_any _ ((unhide HM).up (by have := (unhide H5).bel; rw [unhide HB] at this; exact this))).mono ?_
  rintro e w6 ⟨rfl, hb6⟩
  have H6 := hide ((unhide H5).below hb6)
  clear hb6
  clear u5x0 v5x0 u5x1 v5x1 u5x2 v5x2
  have u6x0 : w6.cell? ⟨P3, 0, none⟩ = some (.slice Ra3 na3 ca3) := (unhide H6).c0 0 rfl
  have v6x0 : w6.cell? ⟨P3, 1, none⟩ = some (.slice Rb3 nb3 cb3) := (unhide H6).c1 0 rfl
  have u6x1 : w6.cell? ⟨P1, 0, none⟩ = some (.slice Ra1 na1 ca1) := (unhide H6).c0 1 rfl
  have v6x1 : w6.cell? ⟨P1, 1, none⟩ = some (.slice Rb1 nb1 cb1) := (unhide H6).c1 1 rfl
  have u6x2 : w6.cell? ⟨B, 0, none⟩ = some (.slice A n cap) := (unhide H6).c0 2 rfl
  have v6x2 : w6.cell? ⟨B, 1, none⟩ = some (.slice A2 n2 cap2) := (unhide H6).c1 2 rfl
  go_wp2_with fail
  go_ret
  exact ⟨rfl, (unhide H6).bel⟩
end Go.Proofs.YtjpgoeimclipjaaGreat
namespace Go.Proofs.YtjpgoeimclipjaaGreat
open Go.RowKit Go.Lib Pl
attribute [local go_sem] ext_list app_list
set_option maxHeartbeats 8000000 in
set_option maxRecDepth 100000 in
theorem archTrue_0001 (A : Option Addr) (n cap : Nat) (A2 : Option Addr) (n2 cap2 : Nat) (a : Arc) (file text : Bytes) (k : Int) (other : Bytes) (m q : Int) (w : World) (h : ArcIn w A n A2 n2 a) (hz : ArcSz a) (hfl : file.length ≤ 140737488355328) (htl : text.length ≤ 9223372036854775807) (hk0 : -9223372036854775808 ≤ k) (hk1 : k ≤ 9223372036854775807) (hm0 : -9223372036854775808 ≤ m) (hm1 : m ≤ 9223372036854775807) (hq0 : -9223372036854775808 ≤ q) (hq1 : q ≤ 9223372036854775807) (hm : MaxLenIs w)
    (hput : (put a file text k).2 ≠ 0) (hdrop : (drop a file).2 ≠ 0) (hsame : other = file) :
    Calls Tryz.prog 9 #[arcV A n cap A2 n2 cap2, S file, S text, I k, S other, I m, I q] w fun e w' => e = .returned (.bool true) ∧ Below w.heap.size w w' := by
  subst hsame
  have CP := fun (W : World) (hi : ArcIn W A n A2 n2 a) => put_any A n cap A2 n2 cap2 a other text k W hi hz hfl htl hk0 hk1
  have CD := fun (W : World) (hi : ArcIn W A n A2 n2 a) => drop_any A n cap A2 n2 cap2 a other W hi hz
  have CG := fun (W : World) (hi : ArcIn W A n A2 n2 a) => get_any A n cap A2 n2 cap2 a other W hi hz
  have hra1 := put_ra a other text k
  have hra2 := drop_ra a other
  obtain ⟨b, hb⟩ : ∃ b, b = (put a other text k).1 := ⟨_, rfl⟩
  obtain ⟨c, hc⟩ : ∃ c, c = (drop a other).1 := ⟨_, rfl⟩
  obtain ⟨tw, htw⟩ : ∃ t, t = (Pl.get a other).1 := ⟨_, rfl⟩
  obtain ⟨fw, hfw⟩ : ∃ t, t = (Pl.get a other).2 := ⟨_, rfl⟩
  obtain ⟨ep, hep⟩ : ∃ t, t = (put a other text k).2 := ⟨_, rfl⟩
  rw [show put a other text k = (b, ep) from Prod.ext hb.symm hep.symm] at CP
  rw [← hep] at hput
  have d1 : ((ep : Int) != 0) = true := by rw [bne_iff_ne]; omega
  have d2 : ((ep : Int) == 0) = false := by rw [beq_eq_false_iff_ne]; omega
  have d3 : ¬ (ep : Int) = 0 := by omega
  clear hep
  obtain ⟨ed, hed⟩ : ∃ t, t = (drop a other).2 := ⟨_, rfl⟩
  rw [show drop a other = (c, ed) from Prod.ext hc.symm hed.symm] at CD
  rw [← hed] at hdrop
  have o1 : ((ed : Int) != 0) = true := by rw [bne_iff_ne]; omega
  have o2 : ((ed : Int) == 0) = false := by rw [beq_eq_false_iff_ne]; omega
  have o3 : ¬ (ed : Int) = 0 := by omega
  clear hed
  rw [← htw, ← hfw] at CG
  have CP := hide CP
  have CD := hide CD
  have CG := hide CG
  clear hz hb hc htw hfw hra1 hra2 hput hdrop
  obtain ⟨B, hB⟩ : ∃ B, B = w.heap.size := ⟨_, rfl⟩
  obtain ⟨w0, hw0⟩ : ∃ w0, w0 = w.alloc (.cells #[.slice A n cap, .slice A2 n2 cap2] 33) := ⟨_, rfl⟩
  have H0 := hide (show St w w0 B [⟨B, A, n, cap, A2, n2, cap2, a⟩] by rw [hw0, hB]; exact St.box h cap cap2)
  have HB := hide hB
  have HW0 := hide hw0
  have HM := hide hm
  rw [← hB]
  clear hB hw0 hm
  go_enter Tryz.func9, Tryz.ntmps9
  go_upto_region 1 with fail
  rw [← unhide HW0, ← unhide HB]
  have u0x0 : w0.cell? ⟨B, 0, none⟩ = some (.slice A n cap) := (unhide H0).c0 0 rfl
  have v0x0 : w0.cell? ⟨B, 1, none⟩ = some (.slice A2 n2 cap2) := (unhide H0).c1 0 rfl
  go_wp2_with fail
  refine (unhide CP _ ((unhide H0).at_ 0 rfl).i).mono ?_
  rintro e w1 ⟨hr1, hb1⟩
  obtain ⟨Ra1, na1, ca1, Rb1, nb1, cb1, rfl, hi1, hc1, ho1⟩ := hr1.open
  have H1 := hide ((unhide H0).below hb1)
  have HI1 := hide hi1
  have HC1 := hide hc1
  have HO1 := hide ho1
  clear hb1 hi1 hc1 hr1 ho1
  go_upto_region 2 with (refine wpList_store_row rfl 33 (.tmp 15) (.tmp 37) rfl w1.heap.size #[.slice Ra1 na1 ca1, .slice Rb1 nb1 cb1] rfl rfl 33 _ (heap_alloc_new _ _) sizeArc rfl (one_two _ _ _ _ _ _) ?_)
  obtain ⟨x1, hx1⟩ : ∃ x, x = (w1.alloc (.cells #[.slice none 0 0, .slice none 0 0] 33)).setRow w1.heap.size #[.slice Ra1 na1 ca1, .slice Rb1 nb1 cb1] := ⟨_, rfl⟩
  obtain ⟨P1, hP1⟩ : ∃ P, P = w1.heap.size := ⟨_, rfl⟩
  have G1 := hide (show St w x1 B [⟨P1, Ra1, na1, ca1, Rb1, nb1, cb1, b⟩, ⟨B, A, n, cap, A2, n2, cap2, a⟩] by rw [hx1, hP1]; exact (unhide H1).new (unhide HI1) ca1 cb1)
  rw [← hx1, ← hP1]
  clear hx1 hP1
  clear u0x0 v0x0
  have u1x0 : x1.cell? ⟨P1, 0, none⟩ = some (.slice Ra1 na1 ca1) := (unhide G1).c0 0 rfl
  have v1x0 : x1.cell? ⟨P1, 1, none⟩ = some (.slice Rb1 nb1 cb1) := (unhide G1).c1 0 rfl
  have u1x1 : x1.cell? ⟨B, 0, none⟩ = some (.slice A n cap) := (unhide G1).c0 1 rfl
  have v1x1 : x1.cell? ⟨B, 1, none⟩ = some (.slice A2 n2 cap2) := (unhide G1).c1 1 rfl
  go_wp2_with fail
  refine (unhide CG _ ((unhide G1).at_ 1 rfl).i).mono ?_
  rintro e w2 ⟨rfl, hb2⟩
  have H2 := hide ((unhide G1).below hb2)
  clear hb2
  clear u1x0 v1x0 u1x1 v1x1
  have u2x0 : w2.cell? ⟨P1, 0, none⟩ = some (.slice Ra1 na1 ca1) := (unhide H2).c0 0 rfl
  have v2x0 : w2.cell? ⟨P1, 1, none⟩ = some (.slice Rb1 nb1 cb1) := (unhide H2).c1 0 rfl
  have u2x1 : w2.cell? ⟨B, 0, none⟩ = some (.slice A n cap) := (unhide H2).c0 1 rfl
  have v2x1 : w2.cell? ⟨B, 1, none⟩ = some (.slice A2 n2 cap2) := (unhide H2).c1 1 rfl
  go_wp2_with fail
  refine (unhide CD _ ((unhide H2).at_ 1 rfl).i).mono ?_
  rintro e w3 ⟨hr3, hb3⟩
  obtain ⟨Ra3, na3, ca3, Rb3, nb3, cb3, rfl, hi3, hc3, ho3⟩ := hr3.open
  have H3 := hide ((unhide H2).below hb3)
  have HI3 := hide hi3
  have HC3 := hide hc3
  have HO3 := hide ho3
  clear hb3 hi3 hc3 hr3 ho3
  go_upto_region 12 with (refine wpList_store_row rfl 33 (.tmp 25) (.tmp 126) rfl w3.heap.size #[.slice Ra3 na3 ca3, .slice Rb3 nb3 cb3] rfl rfl 33 _ (heap_alloc_new _ _) sizeArc rfl (one_two _ _ _ _ _ _) ?_)
  obtain ⟨x3, hx3⟩ : ∃ x, x = (w3.alloc (.cells #[.slice none 0 0, .slice none 0 0] 33)).setRow w3.heap.size #[.slice Ra3 na3 ca3, .slice Rb3 nb3 cb3] := ⟨_, rfl⟩
  obtain ⟨P3, hP3⟩ : ∃ P, P = w3.heap.size := ⟨_, rfl⟩
  have G3 := hide (show St w x3 B [⟨P3, Ra3, na3, ca3, Rb3, nb3, cb3, c⟩, ⟨P1, Ra1, na1, ca1, Rb1, nb1, cb1, b⟩, ⟨B, A, n, cap, A2, n2, cap2, a⟩] by rw [hx3, hP3]; exact (unhide H3).new (unhide HI3) ca3 cb3)
  rw [← hx3, ← hP3]
  clear hx3 hP3
  clear u2x0 v2x0 u2x1 v2x1
  have u3x0 : x3.cell? ⟨P3, 0, none⟩ = some (.slice Ra3 na3 ca3) := (unhide G3).c0 0 rfl
  have v3x0 : x3.cell? ⟨P3, 1, none⟩ = some (.slice Rb3 nb3 cb3) := (unhide G3).c1 0 rfl
  have u3x1 : x3.cell? ⟨P1, 0, none⟩ = some (.slice Ra1 na1 ca1) := (unhide G3).c0 1 rfl
  have v3x1 : x3.cell? ⟨P1, 1, none⟩ = some (.slice Rb1 nb1 cb1) := (unhide G3).c1 1 rfl
  have u3x2 : x3.cell? ⟨B, 0, none⟩ = some (.slice A n cap) := (unhide G3).c0 2 rfl
  have v3x2 : x3.cell? ⟨B, 1, none⟩ = some (.slice A2 n2 cap2) := (unhide G3).c1 2 rfl
  go_wp2_with fail
  refine (archBegun_any _ ((unhide HM).up (by have := (unhide G3).bel; rw [unhide HB] at this; exact this))).mono ?_
  rintro e w4 ⟨rfl, hb4⟩
  have H4 := hide ((unhide G3).below hb4)
  clear hb4
  clear u3x0 v3x0 u3x1 v3x1 u3x2 v3x2
  have u4x0 : w4.cell? ⟨P3, 0, none⟩ = some (.slice Ra3 na3 ca3) := (unhide H4).c0 0 rfl
  have v4x0 : w4.cell? ⟨P3, 1, none⟩ = some (.slice Rb3 nb3 cb3) := (unhide H4).c1 0 rfl
  have u4x1 : w4.cell? ⟨P1, 0, none⟩ = some (.slice Ra1 na1 ca1) := (unhide H4).c0 1 rfl
  have v4x1 : w4.cell? ⟨P1, 1, none⟩ = some (.slice Rb1 nb1 cb1) := (unhide H4).c1 1 rfl
  have u4x2 : w4.cell? ⟨B, 0, none⟩ = some (.slice A n cap) := (unhide H4).c0 2 rfl
  have v4x2 : w4.cell? ⟨B, 1, none⟩ = some (.slice A2 n2 cap2) := (unhide H4).c1 2 rfl
  go_wp2_with fail
  go_ret
  exact ⟨rfl, (unhide H4).bel⟩
set_option maxHeartbeats 8000000 in
set_option maxRecDepth 100000 in
theorem archTrue_0000 (A : Option Addr) (n cap : Nat) (A2 : Option Addr) (n2 cap2 : Nat) (a : Arc) (file text : Bytes) (k : Int) (other : Bytes) (m q : Int) (w : World) (h : ArcIn w A n A2 n2 a) (hz : ArcSz a) (hfl : file.length ≤ 140737488355328) (htl : text.length ≤ 9223372036854775807) (hk0 : -9223372036854775808 ≤ k) (hk1 : k ≤ 9223372036854775807) (hm0 : -9223372036854775808 ≤ m) (hm1 : m ≤ 9223372036854775807) (hq0 : -9223372036854775808 ≤ q) (hq1 : q ≤ 9223372036854775807) (hm : MaxLenIs w)
    (hput : (put a file text k).2 ≠ 0) (hdrop : (drop a file).2 ≠ 0) (hsame : other ≠ file) :
    Calls Tryz.prog 9 #[arcV A n cap A2 n2 cap2, S file, S text, I k, S other, I m, I q] w fun e w' => e = .returned (.bool true) ∧ Below w.heap.size w w' := by
  have CP := fun (W : World) (hi : ArcIn W A n A2 n2 a) => put_any A n cap A2 n2 cap2 a file text k W hi hz hfl htl hk0 hk1
  have CD := fun (W : World) (hi : ArcIn W A n A2 n2 a) => drop_any A n cap A2 n2 cap2 a file W hi hz
  have CG := fun (W : World) (hi : ArcIn W A n A2 n2 a) => get_any A n cap A2 n2 cap2 a other W hi hz
  have hra1 := put_ra a file text k
  have hra2 := drop_ra a file
  obtain ⟨b, hb⟩ : ∃ b, b = (put a file text k).1 := ⟨_, rfl⟩
  obtain ⟨c, hc⟩ : ∃ c, c = (drop a file).1 := ⟨_, rfl⟩
  obtain ⟨tw, htw⟩ : ∃ t, t = (Pl.get a other).1 := ⟨_, rfl⟩
  obtain ⟨fw, hfw⟩ : ∃ t, t = (Pl.get a other).2 := ⟨_, rfl⟩
  obtain ⟨ep, hep⟩ : ∃ t, t = (put a file text k).2 := ⟨_, rfl⟩
  rw [show put a file text k = (b, ep) from Prod.ext hb.symm hep.symm] at CP
  rw [← hep] at hput
  have d1 : ((ep : Int) != 0) = true := by rw [bne_iff_ne]; omega
  have d2 : ((ep : Int) == 0) = false := by rw [beq_eq_false_iff_ne]; omega
  have d3 : ¬ (ep : Int) = 0 := by omega
  clear hep
  obtain ⟨ed, hed⟩ : ∃ t, t = (drop a file).2 := ⟨_, rfl⟩
  rw [show drop a file = (c, ed) from Prod.ext hc.symm hed.symm] at CD
  rw [← hed] at hdrop
  have o1 : ((ed : Int) != 0) = true := by rw [bne_iff_ne]; omega
  have o2 : ((ed : Int) == 0) = false := by rw [beq_eq_false_iff_ne]; omega
  have o3 : ¬ (ed : Int) = 0 := by omega
  clear hed
  rw [← htw, ← hfw] at CG
  have s1 : (other == file) = false := by rw [beq_eq_false_iff_ne]; exact hsame
  have s2 : (other != file) = true := by rw [bne_iff_ne]; exact hsame
  clear hsame
  have CP := hide CP
  have CD := hide CD
  have CG := hide CG
  clear hz hb hc htw hfw hra1 hra2 hput hdrop
  obtain ⟨B, hB⟩ : ∃ B, B = w.heap.size := ⟨_, rfl⟩
  obtain ⟨w0, hw0⟩ : ∃ w0, w0 = w.alloc (.cells #[.slice A n cap, .slice A2 n2 cap2] 33) := ⟨_, rfl⟩
  have H0 := hide (show St w w0 B [⟨B, A, n, cap, A2, n2, cap2, a⟩] by rw [hw0, hB]; exact St.box h cap cap2)
  have HB := hide hB
  have HW0 := hide hw0
  have HM := hide hm
  rw [← hB]
  clear hB hw0 hm
  go_enter Tryz.func9, Tryz.ntmps9
  go_upto_region 1 with fail
  rw [← unhide HW0, ← unhide HB]
  have u0x0 : w0.cell? ⟨B, 0, none⟩ = some (.slice A n cap) := (unhide H0).c0 0 rfl
  have v0x0 : w0.cell? ⟨B, 1, none⟩ = some (.slice A2 n2 cap2) := (unhide H0).c1 0 rfl
  go_wp2_with fail
  refine (unhide CP _ ((unhide H0).at_ 0 rfl).i).mono ?_
  rintro e w1 ⟨hr1, hb1⟩
  obtain ⟨Ra1, na1, ca1, Rb1, nb1, cb1, rfl, hi1, hc1, ho1⟩ := hr1.open
  have H1 := hide ((unhide H0).below hb1)
  have HI1 := hide hi1
  have HC1 := hide hc1
  have HO1 := hide ho1
  clear hb1 hi1 hc1 hr1 ho1
  go_upto_region 2 with (refine wpList_store_row rfl 33 (.tmp 15) (.tmp 37) rfl w1.heap.size #[.slice Ra1 na1 ca1, .slice Rb1 nb1 cb1] rfl rfl 33 _ (heap_alloc_new _ _) sizeArc rfl (one_two _ _ _ _ _ _) ?_)
  obtain ⟨x1, hx1⟩ : ∃ x, x = (w1.alloc (.cells #[.slice none 0 0, .slice none 0 0] 33)).setRow w1.heap.size #[.slice Ra1 na1 ca1, .slice Rb1 nb1 cb1] := ⟨_, rfl⟩
  obtain ⟨P1, hP1⟩ : ∃ P, P = w1.heap.size := ⟨_, rfl⟩
  have G1 := hide (show St w x1 B [⟨P1, Ra1, na1, ca1, Rb1, nb1, cb1, b⟩, ⟨B, A, n, cap, A2, n2, cap2, a⟩] by rw [hx1, hP1]; exact (unhide H1).new (unhide HI1) ca1 cb1)
  rw [← hx1, ← hP1]
  clear hx1 hP1
  clear u0x0 v0x0
  have u1x0 : x1.cell? ⟨P1, 0, none⟩ = some (.slice Ra1 na1 ca1) := (unhide G1).c0 0 rfl
  have v1x0 : x1.cell? ⟨P1, 1, none⟩ = some (.slice Rb1 nb1 cb1) := (unhide G1).c1 0 rfl
  have u1x1 : x1.cell? ⟨B, 0, none⟩ = some (.slice A n cap) := (unhide G1).c0 1 rfl
  have v1x1 : x1.cell? ⟨B, 1, none⟩ = some (.slice A2 n2 cap2) := (unhide G1).c1 1 rfl
  go_wp2_with fail
  refine (unhide CG _ ((unhide G1).at_ 1 rfl).i).mono ?_
  rintro e w2 ⟨rfl, hb2⟩
  have H2 := hide ((unhide G1).below hb2)
  clear hb2
  clear u1x0 v1x0 u1x1 v1x1
  have u2x0 : w2.cell? ⟨P1, 0, none⟩ = some (.slice Ra1 na1 ca1) := (unhide H2).c0 0 rfl
  have v2x0 : w2.cell? ⟨P1, 1, none⟩ = some (.slice Rb1 nb1 cb1) := (unhide H2).c1 0 rfl
  have u2x1 : w2.cell? ⟨B, 0, none⟩ = some (.slice A n cap) := (unhide H2).c0 1 rfl
  have v2x1 : w2.cell? ⟨B, 1, none⟩ = some (.slice A2 n2 cap2) := (unhide H2).c1 1 rfl
  go_wp2_with fail
  refine (unhide CD _ ((unhide H2).at_ 1 rfl).i).mono ?_
  rintro e w3 ⟨hr3, hb3⟩
  obtain ⟨Ra3, na3, ca3, Rb3, nb3, cb3, rfl, hi3, hc3, ho3⟩ := hr3.open
  have H3 := hide ((unhide H2).below hb3)
  have HI3 := hide hi3
  have HC3 := hide hc3
  have HO3 := hide ho3
  clear hb3 hi3 hc3 hr3 ho3
  go_upto_region 12 with (refine wpList_store_row rfl 33 (.tmp 25) (.tmp 126) rfl w3.heap.size #[.slice Ra3 na3 ca3, .slice Rb3 nb3 cb3] rfl rfl 33 _ (heap_alloc_new _ _) sizeArc rfl (one_two _ _ _ _ _ _) ?_)
  obtain ⟨x3, hx3⟩ : ∃ x, x = (w3.alloc (.cells #[.slice none 0 0, .slice none 0 0] 33)).setRow w3.heap.size #[.slice Ra3 na3 ca3, .slice Rb3 nb3 cb3] := ⟨_, rfl⟩
  obtain ⟨P3, hP3⟩ : ∃ P, P = w3.heap.size := ⟨_, rfl⟩
  have G3 := hide (show St w x3 B [⟨P3, Ra3, na3, ca3, Rb3, nb3, cb3, c⟩, ⟨P1, Ra1, na1, ca1, Rb1, nb1, cb1, b⟩, ⟨B, A, n, cap, A2, n2, cap2, a⟩] by rw [hx3, hP3]; exact (unhide H3).new (unhide HI3) ca3 cb3)
  rw [← hx3, ← hP3]
  clear hx3 hP3
  clear u2x0 v2x0 u2x1 v2x1
  have u3x0 : x3.cell? ⟨P3, 0, none⟩ = some (.slice Ra3 na3 ca3) := (unhide G3).c0 0 rfl
  have v3x0 : x3.cell? ⟨P3, 1, none⟩ = some (.slice Rb3 nb3 cb3) := (unhide G3).c1 0 rfl
  have u3x1 : x3.cell? ⟨P1, 0, none⟩ = some (.slice Ra1 na1 ca1) := (unhide G3).c0 1 rfl
  have v3x1 : x3.cell? ⟨P1, 1, none⟩ = some (.slice Rb1 nb1 cb1) := (unhide G3).c1 1 rfl
  have u3x2 : x3.cell? ⟨B, 0, none⟩ = some (.slice A n cap) := (unhide G3).c0 2 rfl
  have v3x2 : x3.cell? ⟨B, 1, none⟩ = some (.slice A2 n2 cap2) := (unhide G3).c1 2 rfl
  go_wp2_with fail
  refine (archBegun_any _ ((unhide HM).up (by have := (unhide G3).bel; rw [unhide HB] at this; exact this))).mono ?_
  rintro e w4 ⟨rfl, hb4⟩
  have H4 := hide ((unhide G3).below hb4)
  clear hb4
  clear u3x0 v3x0 u3x1 v3x1 u3x2 v3x2
  have u4x0 : w4.cell? ⟨P3, 0, none⟩ = some (.slice Ra3 na3 ca3) := (unhide H4).c0 0 rfl
  have v4x0 : w4.cell? ⟨P3, 1, none⟩ = some (.slice Rb3 nb3 cb3) := (unhide H4).c1 0 rfl
  have u4x1 : w4.cell? ⟨P1, 0, none⟩ = some (.slice Ra1 na1 ca1) := (unhide H4).c0 1 rfl
  have v4x1 : w4.cell? ⟨P1, 1, none⟩ = some (.slice Rb1 nb1 cb1) := (unhide H4).c1 1 rfl
  have u4x2 : w4.cell? ⟨B, 0, none⟩ = some (.slice A n cap) := (unhide H4).c0 2 rfl
  have v4x2 : w4.cell? ⟨B, 1, none⟩ = some (.slice A2 n2 cap2) := (unhide H4).c1 2 rfl
  go_wp2_with fail
  go_ret
  exact ⟨rfl, (unhide H4).bel⟩
end Go.Proofs.YtjpgoeimclipjaaGreat
namespace Go.Proofs.YtjpgoeimclipjaaGreat
open Go.RowKit Go.Lib Pl
attribute [local go_sem] ext_list app_list
theorem archTrue_any (A : Option Addr) (n cap : Nat) (A2 : Option Addr) (n2 cap2 : Nat) (a : Arc) (file text : Bytes) (k : Int) (other : Bytes) (m q : Int) (w : World) (h : ArcIn w A n A2 n2 a) (hz : ArcSz a) (hfl : file.length ≤ 140737488355328) (htl : text.length ≤ 9223372036854775807) (hk0 : -9223372036854775808 ≤ k) (hk1 : k ≤ 9223372036854775807) (hm0 : -9223372036854775808 ≤ m) (hm1 : m ≤ 9223372036854775807) (hq0 : -9223372036854775808 ≤ q) (hq1 : q ≤ 9223372036854775807) (hm : MaxLenIs w) :
    Calls Tryz.prog 9 #[arcV A n cap A2 n2 cap2, S file, S text, I k, S other, I m, I q] w fun e w' => e = .returned (.bool true) ∧ Below w.heap.size w w' := by
  by_cases hput : (put a file text k).2 = 0
  · by_cases hrng : (Pl.range (put a file text k).1 file m q).2 = 0
    · by_cases hdrop : (drop a file).2 = 0
      · by_cases hsame : other = file
        · exact archTrue_1111 A n cap A2 n2 cap2 a file text k other m q w h hz hfl htl hk0 hk1 hm0 hm1 hq0 hq1 hm hput hrng hdrop hsame
        · exact archTrue_1110 A n cap A2 n2 cap2 a file text k other m q w h hz hfl htl hk0 hk1 hm0 hm1 hq0 hq1 hm hput hrng hdrop hsame
      · by_cases hsame : other = file
        · exact archTrue_1101 A n cap A2 n2 cap2 a file text k other m q w h hz hfl htl hk0 hk1 hm0 hm1 hq0 hq1 hm hput hrng hdrop hsame
        · exact archTrue_1100 A n cap A2 n2 cap2 a file text k other m q w h hz hfl htl hk0 hk1 hm0 hm1 hq0 hq1 hm hput hrng hdrop hsame
    · by_cases hdrop : (drop a file).2 = 0
      · by_cases hsame : other = file
        · exact archTrue_1011 A n cap A2 n2 cap2 a file text k other m q w h hz hfl htl hk0 hk1 hm0 hm1 hq0 hq1 hm hput hrng hdrop hsame
        · exact archTrue_1010 A n cap A2 n2 cap2 a file text k other m q w h hz hfl htl hk0 hk1 hm0 hm1 hq0 hq1 hm hput hrng hdrop hsame
      · by_cases hsame : other = file
        · exact archTrue_1001 A n cap A2 n2 cap2 a file text k other m q w h hz hfl htl hk0 hk1 hm0 hm1 hq0 hq1 hm hput hrng hdrop hsame
        · exact archTrue_1000 A n cap A2 n2 cap2 a file text k other m q w h hz hfl htl hk0 hk1 hm0 hm1 hq0 hq1 hm hput hrng hdrop hsame
  · by_cases hdrop : (drop a file).2 = 0
    · by_cases hsame : other = file
      · exact archTrue_0011 A n cap A2 n2 cap2 a file text k other m q w h hz hfl htl hk0 hk1 hm0 hm1 hq0 hq1 hm hput hdrop hsame
      · exact archTrue_0010 A n cap A2 n2 cap2 a file text k other m q w h hz hfl htl hk0 hk1 hm0 hm1 hq0 hq1 hm hput hdrop hsame
    · by_cases hsame : other = file
      · exact archTrue_0001 A n cap A2 n2 cap2 a file text k other m q w h hz hfl htl hk0 hk1 hm0 hm1 hq0 hq1 hm hput hdrop hsame
      · exact archTrue_0000 A n cap A2 n2 cap2 a file text k other m q w h hz hfl htl hk0 hk1 hm0 hm1 hq0 hq1 hm hput hdrop hsame
end Go.Proofs.YtjpgoeimclipjaaGreat
