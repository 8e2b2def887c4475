/- Parts of the proofs. -/
import Derived.Test.YtjpgoeimclipjaaGreatAdArchTrains1
namespace Go.Proofs.YtjpgoeimclipjaaGreat
open Go.RowKit Go.Lib Pl
attribute [local go_sem] ext_list app_list
set_option maxHeartbeats 8000000 in
set_option maxRecDepth 100000 in
theorem archTrains_any (A : Option Addr) (n cap : Nat) (A2 : Option Addr) (n2 cap2 : Nat) (a : Arc) (size : Int) (w : World) (h : ArcIn w A n A2 n2 a) (hz : ArcSz a) (hcap : n ≤ cap) (hm : MaxLenIs w) :
  Calls Tryz.prog 8 #[arcV A n cap A2 n2 cap2, I size] w fun e w' => e = .returned (.bool true) ∧ Below w.heap.size w w' := by
 obtain ⟨r1, hr1⟩ : ∃ r1, r1 = retrain a size := ⟨_, rfl⟩
 have CP := fun (W : World) (hi : ArcIn W A n A2 n2 a) (hM : MaxLenIs W) => retrain_any A n cap A2 n2 cap2 a size W hi hz hM
 have CD := fun (W : World) (hi : ArcIn W A n A2 n2 a) => compact_any A n cap A2 n2 cap2 a W hi hz
 have CP2 := fun (W : World) (hi : ArcIn W A n A2 n2 a) => retrainOf_any A n cap A2 n2 cap2 a size W hi hz
 have CD2 := fun (W : World) (hi : ArcIn W A n A2 n2 a) => compactOf_any A n cap A2 n2 cap2 a W hi hz
 have CZ := fun (W : World) (hi : ArcIn W A n A2 n2 a) => arcSize_any A n cap A2 n2 cap2 a W hi hz hcap
 have hra1 := retrain_ra a size
 have hra2 := compact_ra a
 rw [← hr1] at CP CP2 hra1
 have hnd1 := hra1.nd
 have hnf1 := hra1.nf
 have hnd2 := hra2.nd
 have hnf2 := hra2.nf
 clear hr1 hra1 hra2
 by_cases hck : checkA a = 0
 ·have hra := (check_iff a).1 hck
  obtain ⟨c2, hc2⟩ : ∃ c2, c2 = (compact a).1 := ⟨_, rfl⟩
  have he : compact a = (c2, 0) := Prod.ext hc2.symm (by unfold compact; rw [if_neg (by rw [hck]; simp)])
  have CO := fun (W : World) (hi : ArcIn W A n A2 n2 a) => sizeOf_any A n cap A2 n2 cap2 a W hi hz hra
  rw [he] at CD CD2 hnd2 hnf2
  rw [hck, if_pos rfl] at CZ
  obtain ⟨z, hz9⟩ : ∃ z, z = sizeA a := ⟨_, rfl⟩
  rw [← hz9] at CZ CO
  have CO := hide CO
  clear he hc2 hz9 hra hck
  have CP := hide CP
  have CD := hide CD
  have CP2 := hide CP2
  have CD2 := hide CD2
  have CZ := hide CZ
  clear hz hcap
  obtain ⟨B, hB⟩ : ∃ B, B = w.heap.size := ⟨_, rfl⟩
  obtain ⟨w0, hw0⟩ : ∃ w0, w0 = w.alloc (.cells #[.slice A n cap, .slice A2 n2 cap2] 33) := ⟨_, rfl⟩
  have H0 := hide (show St w w0 B [⟨B, A, n, cap, A2, n2, cap2, a⟩] by rw [hw0, hB]; exact St.box h cap cap2)
  have HB := hide hB
  have HW0 := hide hw0
  have HM := hide hm
  rw [← hB]
  clear hB hw0 hm
  go_enter Tryz.func8, Tryz.ntmps8
  go_upto_region 1 with fail
  rw [← unhide HW0, ← unhide HB]
  have u0x0 : w0.cell? ⟨B, 0, none⟩ = some (.slice A n cap) := (unhide H0).c0 0 rfl
  have v0x0 : w0.cell? ⟨B, 1, none⟩ = some (.slice A2 n2 cap2) := (unhide H0).c1 0 rfl
  go_wp2_with fail
  refine (unhide CP _ ((unhide H0).at_ 0 rfl).i ((unhide HM).up (by have := (unhide H0).bel; rw [unhide HB] at this; exact this))).mono ?_
  rintro e w1 ⟨hr1, hb1⟩
  obtain ⟨Ra1, na1, ca1, Rb1, nb1, cb1, rfl, hi1, hc1, ho1⟩ := hr1.open
  have H1 := hide ((unhide H0).below hb1)
  have HI1 := hide hi1
  have HC1 := hide hc1
  have HO1 := hide ho1
  clear hb1 hi1 hc1 hr1 ho1
  go_upto_region 2 with (refine wpList_store_row rfl 33 (.tmp 5) (.tmp 20) rfl w1.heap.size #[.slice Ra1 na1 ca1, .slice Rb1 nb1 cb1] rfl rfl 33 _ (heap_alloc_new _ _) sizeArc rfl (one_two _ _ _ _ _ _) ?_)
  obtain ⟨x1, hx1⟩ : ∃ x, x = (w1.alloc (.cells #[.slice none 0 0, .slice none 0 0] 33)).setRow w1.heap.size #[.slice Ra1 na1 ca1, .slice Rb1 nb1 cb1] := ⟨_, rfl⟩
  obtain ⟨P1, hP1⟩ : ∃ P, P = w1.heap.size := ⟨_, rfl⟩
  have G1 := hide (show St w x1 B [⟨P1, Ra1, na1, ca1, Rb1, nb1, cb1, r1.1⟩, ⟨B, A, n, cap, A2, n2, cap2, a⟩] by rw [hx1, hP1]; exact (unhide H1).new (unhide HI1) ca1 cb1)
  rw [← hx1, ← hP1]
  clear hx1 hP1
  clear u0x0 v0x0
  have u1x0 : x1.cell? ⟨P1, 0, none⟩ = some (.slice Ra1 na1 ca1) := (unhide G1).c0 0 rfl
  have v1x0 : x1.cell? ⟨P1, 1, none⟩ = some (.slice Rb1 nb1 cb1) := (unhide G1).c1 0 rfl
  have u1x1 : x1.cell? ⟨B, 0, none⟩ = some (.slice A n cap) := (unhide G1).c0 1 rfl
  have v1x1 : x1.cell? ⟨B, 1, none⟩ = some (.slice A2 n2 cap2) := (unhide G1).c1 1 rfl
  go_wp2_with fail
  refine (unhide CD _ ((unhide G1).at_ 1 rfl).i).mono ?_
  rintro e w2 ⟨hr2, hb2⟩
  obtain ⟨Ra2, na2, ca2, Rb2, nb2, cb2, rfl, hi2, hc2, ho2⟩ := hr2.open
  have H2 := hide ((unhide G1).below hb2)
  have HI2 := hide hi2
  have HC2 := hide hc2
  have HO2 := hide ho2
  clear hb2 hi2 hc2 hr2 ho2
  go_upto_region 3 with (refine wpList_store_row rfl 33 (.tmp 7) (.tmp 25) rfl w2.heap.size #[.slice Ra2 na2 ca2, .slice Rb2 nb2 cb2] rfl rfl 33 _ (heap_alloc_new _ _) sizeArc rfl (one_two _ _ _ _ _ _) ?_)
  obtain ⟨x2, hx2⟩ : ∃ x, x = (w2.alloc (.cells #[.slice none 0 0, .slice none 0 0] 33)).setRow w2.heap.size #[.slice Ra2 na2 ca2, .slice Rb2 nb2 cb2] := ⟨_, rfl⟩
  obtain ⟨P2, hP2⟩ : ∃ P, P = w2.heap.size := ⟨_, rfl⟩
  have G2 := hide (show St w x2 B [⟨P2, Ra2, na2, ca2, Rb2, nb2, cb2, c2⟩, ⟨P1, Ra1, na1, ca1, Rb1, nb1, cb1, r1.1⟩, ⟨B, A, n, cap, A2, n2, cap2, a⟩] by rw [hx2, hP2]; exact (unhide H2).new (unhide HI2) ca2 cb2)
  rw [← hx2, ← hP2]
  clear hx2 hP2
  clear u1x0 v1x0 u1x1 v1x1
  have u2x0 : x2.cell? ⟨P2, 0, none⟩ = some (.slice Ra2 na2 ca2) := (unhide G2).c0 0 rfl
  have v2x0 : x2.cell? ⟨P2, 1, none⟩ = some (.slice Rb2 nb2 cb2) := (unhide G2).c1 0 rfl
  have u2x1 : x2.cell? ⟨P1, 0, none⟩ = some (.slice Ra1 na1 ca1) := (unhide G2).c0 1 rfl
  have v2x1 : x2.cell? ⟨P1, 1, none⟩ = some (.slice Rb1 nb1 cb1) := (unhide G2).c1 1 rfl
  have u2x2 : x2.cell? ⟨B, 0, none⟩ = some (.slice A n cap) := (unhide G2).c0 2 rfl
  have v2x2 : x2.cell? ⟨B, 1, none⟩ = some (.slice A2 n2 cap2) := (unhide G2).c1 2 rfl
  go_wp2_with fail
  refine (unhide CZ _ ((unhide G2).at_ 2 rfl).i).mono ?_
  rintro e w3 ⟨rfl, hb3⟩
  have H3 := hide ((unhide G2).below hb3)
  clear hb3
  clear u2x0 v2x0 u2x1 v2x1 u2x2 v2x2
  have u3x0 : w3.cell? ⟨P2, 0, none⟩ = some (.slice Ra2 na2 ca2) := (unhide H3).c0 0 rfl
  have v3x0 : w3.cell? ⟨P2, 1, none⟩ = some (.slice Rb2 nb2 cb2) := (unhide H3).c1 0 rfl
  have u3x1 : w3.cell? ⟨P1, 0, none⟩ = some (.slice Ra1 na1 ca1) := (unhide H3).c0 1 rfl
  have v3x1 : w3.cell? ⟨P1, 1, none⟩ = some (.slice Rb1 nb1 cb1) := (unhide H3).c1 1 rfl
  have u3x2 : w3.cell? ⟨B, 0, none⟩ = some (.slice A n cap) := (unhide H3).c0 2 rfl
  have v3x2 : w3.cell? ⟨B, 1, none⟩ = some (.slice A2 n2 cap2) := (unhide H3).c1 2 rfl
  go_wp2_with fail
  refine (unhide CP2 _ ((unhide H3).at_ 2 rfl).i).mono ?_
  rintro e w4 ⟨hr4, hb4⟩
  obtain ⟨Ra4, na4, ca4, Rb4, nb4, cb4, rfl, hi4, hc4, ho4⟩ := hr4.open
  have H4 := hide ((unhide H3).below hb4)
  have HI4 := hide hi4
  have HC4 := hide hc4
  have HO4 := hide ho4
  clear hb4 hi4 hc4 hr4 ho4
  go_upto_region 5 with (refine wpList_store_row rfl 33 (.tmp 11) (.tmp 36) rfl w4.heap.size #[.slice Ra4 na4 ca4, .slice Rb4 nb4 cb4] rfl rfl 33 _ (heap_alloc_new _ _) sizeArc rfl (one_two _ _ _ _ _ _) ?_)
  obtain ⟨x4, hx4⟩ : ∃ x, x = (w4.alloc (.cells #[.slice none 0 0, .slice none 0 0] 33)).setRow w4.heap.size #[.slice Ra4 na4 ca4, .slice Rb4 nb4 cb4] := ⟨_, rfl⟩
  obtain ⟨P4, hP4⟩ : ∃ P, P = w4.heap.size := ⟨_, rfl⟩
  have G4 := hide (show St w x4 B [⟨P4, Ra4, na4, ca4, Rb4, nb4, cb4, r1.1⟩, ⟨P2, Ra2, na2, ca2, Rb2, nb2, cb2, c2⟩, ⟨P1, Ra1, na1, ca1, Rb1, nb1, cb1, r1.1⟩, ⟨B, A, n, cap, A2, n2, cap2, a⟩] by rw [hx4, hP4]; exact (unhide H4).new (unhide HI4) ca4 cb4)
  rw [← hx4, ← hP4]
  clear hx4 hP4
  clear u3x0 v3x0 u3x1 v3x1 u3x2 v3x2
  have u4x0 : x4.cell? ⟨P4, 0, none⟩ = some (.slice Ra4 na4 ca4) := (unhide G4).c0 0 rfl
  have v4x0 : x4.cell? ⟨P4, 1, none⟩ = some (.slice Rb4 nb4 cb4) := (unhide G4).c1 0 rfl
  have u4x1 : x4.cell? ⟨P2, 0, none⟩ = some (.slice Ra2 na2 ca2) := (unhide G4).c0 1 rfl
  have v4x1 : x4.cell? ⟨P2, 1, none⟩ = some (.slice Rb2 nb2 cb2) := (unhide G4).c1 1 rfl
  have u4x2 : x4.cell? ⟨P1, 0, none⟩ = some (.slice Ra1 na1 ca1) := (unhide G4).c0 2 rfl
  have v4x2 : x4.cell? ⟨P1, 1, none⟩ = some (.slice Rb1 nb1 cb1) := (unhide G4).c1 2 rfl
  have u4x3 : x4.cell? ⟨B, 0, none⟩ = some (.slice A n cap) := (unhide G4).c0 3 rfl
  have v4x3 : x4.cell? ⟨B, 1, none⟩ = some (.slice A2 n2 cap2) := (unhide G4).c1 3 rfl
  go_wp2_with fail
  refine (unhide CD2 _ ((unhide G4).at_ 3 rfl).i).mono ?_
  rintro e w5 ⟨hr5, hb5⟩
  obtain ⟨Ra5, na5, ca5, Rb5, nb5, cb5, rfl, hi5, hc5, ho5⟩ := hr5.open
  have H5 := hide ((unhide G4).below hb5)
  have HI5 := hide hi5
  have HC5 := hide hc5
  have HO5 := hide ho5
  clear hb5 hi5 hc5 hr5 ho5
  go_upto_region 6 with (refine wpList_store_row rfl 33 (.tmp 13) (.tmp 41) rfl w5.heap.size #[.slice Ra5 na5 ca5, .slice Rb5 nb5 cb5] rfl rfl 33 _ (heap_alloc_new _ _) sizeArc rfl (one_two _ _ _ _ _ _) ?_)
  obtain ⟨x5, hx5⟩ : ∃ x, x = (w5.alloc (.cells #[.slice none 0 0, .slice none 0 0] 33)).setRow w5.heap.size #[.slice Ra5 na5 ca5, .slice Rb5 nb5 cb5] := ⟨_, rfl⟩
  obtain ⟨P5, hP5⟩ : ∃ P, P = w5.heap.size := ⟨_, rfl⟩
  have G5 := hide (show St w x5 B [⟨P5, Ra5, na5, ca5, Rb5, nb5, cb5, c2⟩, ⟨P4, Ra4, na4, ca4, Rb4, nb4, cb4, r1.1⟩, ⟨P2, Ra2, na2, ca2, Rb2, nb2, cb2, c2⟩, ⟨P1, Ra1, na1, ca1, Rb1, nb1, cb1, r1.1⟩, ⟨B, A, n, cap, A2, n2, cap2, a⟩] by rw [hx5, hP5]; exact (unhide H5).new (unhide HI5) ca5 cb5)
  rw [← hx5, ← hP5]
  clear hx5 hP5
  clear u4x0 v4x0 u4x1 v4x1 u4x2 v4x2 u4x3 v4x3
  have u5x0 : x5.cell? ⟨P5, 0, none⟩ = some (.slice Ra5 na5 ca5) := (unhide G5).c0 0 rfl
  have v5x0 : x5.cell? ⟨P5, 1, none⟩ = some (.slice Rb5 nb5 cb5) := (unhide G5).c1 0 rfl
  have u5x1 : x5.cell? ⟨P4, 0, none⟩ = some (.slice Ra4 na4 ca4) := (unhide G5).c0 1 rfl
  have v5x1 : x5.cell? ⟨P4, 1, none⟩ = some (.slice Rb4 nb4 cb4) := (unhide G5).c1 1 rfl
  have u5x2 : x5.cell? ⟨P2, 0, none⟩ = some (.slice Ra2 na2 ca2) := (unhide G5).c0 2 rfl
  have v5x2 : x5.cell? ⟨P2, 1, none⟩ = some (.slice Rb2 nb2 cb2) := (unhide G5).c1 2 rfl
  have u5x3 : x5.cell? ⟨P1, 0, none⟩ = some (.slice Ra1 na1 ca1) := (unhide G5).c0 3 rfl
  have v5x3 : x5.cell? ⟨P1, 1, none⟩ = some (.slice Rb1 nb1 cb1) := (unhide G5).c1 3 rfl
  have u5x4 : x5.cell? ⟨B, 0, none⟩ = some (.slice A n cap) := (unhide G5).c0 4 rfl
  have v5x4 : x5.cell? ⟨B, 1, none⟩ = some (.slice A2 n2 cap2) := (unhide G5).c1 4 rfl
  go_wp2_with fail
  refine (unhide CO _ ((unhide G5).at_ 4 rfl).i).mono ?_
  rintro e w6 ⟨rfl, hb6⟩
  have H6 := hide ((unhide G5).below hb6)
  clear hb6
  clear u5x0 v5x0 u5x1 v5x1 u5x2 v5x2 u5x3 v5x3 u5x4 v5x4
  have u6x0 : w6.cell? ⟨P5, 0, none⟩ = some (.slice Ra5 na5 ca5) := (unhide H6).c0 0 rfl
  have v6x0 : w6.cell? ⟨P5, 1, none⟩ = some (.slice Rb5 nb5 cb5) := (unhide H6).c1 0 rfl
  have u6x1 : w6.cell? ⟨P4, 0, none⟩ = some (.slice Ra4 na4 ca4) := (unhide H6).c0 1 rfl
  have v6x1 : w6.cell? ⟨P4, 1, none⟩ = some (.slice Rb4 nb4 cb4) := (unhide H6).c1 1 rfl
  have u6x2 : w6.cell? ⟨P2, 0, none⟩ = some (.slice Ra2 na2 ca2) := (unhide H6).c0 2 rfl
  have v6x2 : w6.cell? ⟨P2, 1, none⟩ = some (.slice Rb2 nb2 cb2) := (unhide H6).c1 2 rfl
  have u6x3 : w6.cell? ⟨P1, 0, none⟩ = some (.slice Ra1 na1 ca1) := (unhide H6).c0 3 rfl
  have v6x3 : w6.cell? ⟨P1, 1, none⟩ = some (.slice Rb1 nb1 cb1) := (unhide H6).c1 3 rfl
  have u6x4 : w6.cell? ⟨B, 0, none⟩ = some (.slice A n cap) := (unhide H6).c0 4 rfl
  have v6x4 : w6.cell? ⟨B, 1, none⟩ = some (.slice A2 n2 cap2) := (unhide H6).c1 4 rfl
  go_wp2_with fail
  refine (archBegun_any _ ((unhide HM).up (by have := (unhide H6).bel; rw [unhide HB] at this; exact this))).mono ?_
  rintro e w7 ⟨rfl, hb7⟩
  have H7 := hide ((unhide H6).below hb7)
  clear hb7
  clear u6x0 v6x0 u6x1 v6x1 u6x2 v6x2 u6x3 v6x3 u6x4 v6x4
  have u7x0 : w7.cell? ⟨P5, 0, none⟩ = some (.slice Ra5 na5 ca5) := (unhide H7).c0 0 rfl
  have v7x0 : w7.cell? ⟨P5, 1, none⟩ = some (.slice Rb5 nb5 cb5) := (unhide H7).c1 0 rfl
  have u7x1 : w7.cell? ⟨P4, 0, none⟩ = some (.slice Ra4 na4 ca4) := (unhide H7).c0 1 rfl
  have v7x1 : w7.cell? ⟨P4, 1, none⟩ = some (.slice Rb4 nb4 cb4) := (unhide H7).c1 1 rfl
  have u7x2 : w7.cell? ⟨P2, 0, none⟩ = some (.slice Ra2 na2 ca2) := (unhide H7).c0 2 rfl
  have v7x2 : w7.cell? ⟨P2, 1, none⟩ = some (.slice Rb2 nb2 cb2) := (unhide H7).c1 2 rfl
  have u7x3 : w7.cell? ⟨P1, 0, none⟩ = some (.slice Ra1 na1 ca1) := (unhide H7).c0 3 rfl
  have v7x3 : w7.cell? ⟨P1, 1, none⟩ = some (.slice Rb1 nb1 cb1) := (unhide H7).c1 3 rfl
  have u7x4 : w7.cell? ⟨B, 0, none⟩ = some (.slice A n cap) := (unhide H7).c0 4 rfl
  have v7x4 : w7.cell? ⟨B, 1, none⟩ = some (.slice A2 n2 cap2) := (unhide H7).c1 4 rfl
  go_wp2_with fail
  refine (sameArc _ _ _ _ _ _ _ _ _ _ _ _ _ _ ((unhide H7).at_ 3 rfl).i ((unhide H7).at_ 1 rfl).i hnd1 hnf1).mono ?_
  rintro e w8 ⟨rfl, hb8⟩
  have H8 := hide ((unhide H7).below hb8)
  clear hb8
  clear u7x0 v7x0 u7x1 v7x1 u7x2 v7x2 u7x3 v7x3 u7x4 v7x4
  have u8x0 : w8.cell? ⟨P5, 0, none⟩ = some (.slice Ra5 na5 ca5) := (unhide H8).c0 0 rfl
  have v8x0 : w8.cell? ⟨P5, 1, none⟩ = some (.slice Rb5 nb5 cb5) := (unhide H8).c1 0 rfl
  have u8x1 : w8.cell? ⟨P4, 0, none⟩ = some (.slice Ra4 na4 ca4) := (unhide H8).c0 1 rfl
  have v8x1 : w8.cell? ⟨P4, 1, none⟩ = some (.slice Rb4 nb4 cb4) := (unhide H8).c1 1 rfl
  have u8x2 : w8.cell? ⟨P2, 0, none⟩ = some (.slice Ra2 na2 ca2) := (unhide H8).c0 2 rfl
  have v8x2 : w8.cell? ⟨P2, 1, none⟩ = some (.slice Rb2 nb2 cb2) := (unhide H8).c1 2 rfl
  have u8x3 : w8.cell? ⟨P1, 0, none⟩ = some (.slice Ra1 na1 ca1) := (unhide H8).c0 3 rfl
  have v8x3 : w8.cell? ⟨P1, 1, none⟩ = some (.slice Rb1 nb1 cb1) := (unhide H8).c1 3 rfl
  have u8x4 : w8.cell? ⟨B, 0, none⟩ = some (.slice A n cap) := (unhide H8).c0 4 rfl
  have v8x4 : w8.cell? ⟨B, 1, none⟩ = some (.slice A2 n2 cap2) := (unhide H8).c1 4 rfl
  go_wp2_with fail
  refine (sameArc _ _ _ _ _ _ _ _ _ _ _ _ _ _ ((unhide H8).at_ 2 rfl).i ((unhide H8).at_ 0 rfl).i hnd2 hnf2).mono ?_
  rintro e w9 ⟨rfl, hb9⟩
  have H9 := hide ((unhide H8).below hb9)
  clear hb9
  clear u8x0 v8x0 u8x1 v8x1 u8x2 v8x2 u8x3 v8x3 u8x4 v8x4
  have u9x0 : w9.cell? ⟨P5, 0, none⟩ = some (.slice Ra5 na5 ca5) := (unhide H9).c0 0 rfl
  have v9x0 : w9.cell? ⟨P5, 1, none⟩ = some (.slice Rb5 nb5 cb5) := (unhide H9).c1 0 rfl
  have u9x1 : w9.cell? ⟨P4, 0, none⟩ = some (.slice Ra4 na4 ca4) := (unhide H9).c0 1 rfl
  have v9x1 : w9.cell? ⟨P4, 1, none⟩ = some (.slice Rb4 nb4 cb4) := (unhide H9).c1 1 rfl
  have u9x2 : w9.cell? ⟨P2, 0, none⟩ = some (.slice Ra2 na2 ca2) := (unhide H9).c0 2 rfl
  have v9x2 : w9.cell? ⟨P2, 1, none⟩ = some (.slice Rb2 nb2 cb2) := (unhide H9).c1 2 rfl
  have u9x3 : w9.cell? ⟨P1, 0, none⟩ = some (.slice Ra1 na1 ca1) := (unhide H9).c0 3 rfl
  have v9x3 : w9.cell? ⟨P1, 1, none⟩ = some (.slice Rb1 nb1 cb1) := (unhide H9).c1 3 rfl
  have u9x4 : w9.cell? ⟨B, 0, none⟩ = some (.slice A n cap) := (unhide H9).c0 4 rfl
  have v9x4 : w9.cell? ⟨B, 1, none⟩ = some (.slice A2 n2 cap2) := (unhide H9).c1 4 rfl
  go_wp2_with fail
  go_ret
  exact ⟨rfl, (unhide H9).bel⟩
 ·have he : compact a = (arc0, checkA a) := by unfold compact; rw [if_pos hck]
  obtain ⟨c, hc⟩ : ∃ c, c = checkA a := ⟨_, rfl⟩
  rw [if_neg hck] at CZ
  rw [he] at CD CD2 hnd2 hnf2
  rw [← hc] at CD CD2 CZ hck
  have d1 : ((c : Int) != 0) = true := by rw [bne_iff_ne]; omega
  have d2 : ((c : Int) == 0) = false := by rw [beq_eq_false_iff_ne]; omega
  have d3 : ¬ (c : Int) = 0 := by omega
  clear he hc hck
  have CP := hide CP
  have CD := hide CD
  have CP2 := hide CP2
  have CD2 := hide CD2
  have CZ := hide CZ
  clear hz hcap
  obtain ⟨B, hB⟩ : ∃ B, B = w.heap.size := ⟨_, rfl⟩
  obtain ⟨w0, hw0⟩ : ∃ w0, w0 = w.alloc (.cells #[.slice A n cap, .slice A2 n2 cap2] 33) := ⟨_, rfl⟩
  have H0 := hide (show St w w0 B [⟨B, A, n, cap, A2, n2, cap2, a⟩] by rw [hw0, hB]; exact St.box h cap cap2)
  have HB := hide hB
  have HW0 := hide hw0
  have HM := hide hm
  rw [← hB]
  clear hB hw0 hm
  go_enter Tryz.func8, Tryz.ntmps8
  go_upto_region 1 with fail
  rw [← unhide HW0, ← unhide HB]
  have u0x0 : w0.cell? ⟨B, 0, none⟩ = some (.slice A n cap) := (unhide H0).c0 0 rfl
  have v0x0 : w0.cell? ⟨B, 1, none⟩ = some (.slice A2 n2 cap2) := (unhide H0).c1 0 rfl
  go_wp2_with fail
  refine (unhide CP _ ((unhide H0).at_ 0 rfl).i ((unhide HM).up (by have := (unhide H0).bel; rw [unhide HB] at this; exact this))).mono ?_
  rintro e w1 ⟨hr1, hb1⟩
  obtain ⟨Ra1, na1, ca1, Rb1, nb1, cb1, rfl, hi1, hc1, ho1⟩ := hr1.open
  have H1 := hide ((unhide H0).below hb1)
  have HI1 := hide hi1
  have HC1 := hide hc1
  have HO1 := hide ho1
  clear hb1 hi1 hc1 hr1 ho1
  go_upto_region 2 with (refine wpList_store_row rfl 33 (.tmp 5) (.tmp 20) rfl w1.heap.size #[.slice Ra1 na1 ca1, .slice Rb1 nb1 cb1] rfl rfl 33 _ (heap_alloc_new _ _) sizeArc rfl (one_two _ _ _ _ _ _) ?_)
  obtain ⟨x1, hx1⟩ : ∃ x, x = (w1.alloc (.cells #[.slice none 0 0, .slice none 0 0] 33)).setRow w1.heap.size #[.slice Ra1 na1 ca1, .slice Rb1 nb1 cb1] := ⟨_, rfl⟩
  obtain ⟨P1, hP1⟩ : ∃ P, P = w1.heap.size := ⟨_, rfl⟩
  have G1 := hide (show St w x1 B [⟨P1, Ra1, na1, ca1, Rb1, nb1, cb1, r1.1⟩, ⟨B, A, n, cap, A2, n2, cap2, a⟩] by rw [hx1, hP1]; exact (unhide H1).new (unhide HI1) ca1 cb1)
  rw [← hx1, ← hP1]
  clear hx1 hP1
  clear u0x0 v0x0
  have u1x0 : x1.cell? ⟨P1, 0, none⟩ = some (.slice Ra1 na1 ca1) := (unhide G1).c0 0 rfl
  have v1x0 : x1.cell? ⟨P1, 1, none⟩ = some (.slice Rb1 nb1 cb1) := (unhide G1).c1 0 rfl
  have u1x1 : x1.cell? ⟨B, 0, none⟩ = some (.slice A n cap) := (unhide G1).c0 1 rfl
  have v1x1 : x1.cell? ⟨B, 1, none⟩ = some (.slice A2 n2 cap2) := (unhide G1).c1 1 rfl
  go_wp2_with fail
  refine (unhide CD _ ((unhide G1).at_ 1 rfl).i).mono ?_
  rintro e w2 ⟨hr2, hb2⟩
  obtain ⟨Ra2, na2, ca2, Rb2, nb2, cb2, rfl, hi2, hc2, ho2⟩ := hr2.open
  have H2 := hide ((unhide G1).below hb2)
  have HI2 := hide hi2
  have HC2 := hide hc2
  have HO2 := hide ho2
  clear hb2 hi2 hc2 hr2 ho2
  go_upto_region 3 with (refine wpList_store_row rfl 33 (.tmp 7) (.tmp 25) rfl w2.heap.size #[.slice Ra2 na2 ca2, .slice Rb2 nb2 cb2] rfl rfl 33 _ (heap_alloc_new _ _) sizeArc rfl (one_two _ _ _ _ _ _) ?_)
  obtain ⟨x2, hx2⟩ : ∃ x, x = (w2.alloc (.cells #[.slice none 0 0, .slice none 0 0] 33)).setRow w2.heap.size #[.slice Ra2 na2 ca2, .slice Rb2 nb2 cb2] := ⟨_, rfl⟩
  obtain ⟨P2, hP2⟩ : ∃ P, P = w2.heap.size := ⟨_, rfl⟩
  have G2 := hide (show St w x2 B [⟨P2, Ra2, na2, ca2, Rb2, nb2, cb2, arc0⟩, ⟨P1, Ra1, na1, ca1, Rb1, nb1, cb1, r1.1⟩, ⟨B, A, n, cap, A2, n2, cap2, a⟩] by rw [hx2, hP2]; exact (unhide H2).new (unhide HI2) ca2 cb2)
  rw [← hx2, ← hP2]
  clear hx2 hP2
  clear u1x0 v1x0 u1x1 v1x1
  have u2x0 : x2.cell? ⟨P2, 0, none⟩ = some (.slice Ra2 na2 ca2) := (unhide G2).c0 0 rfl
  have v2x0 : x2.cell? ⟨P2, 1, none⟩ = some (.slice Rb2 nb2 cb2) := (unhide G2).c1 0 rfl
  have u2x1 : x2.cell? ⟨P1, 0, none⟩ = some (.slice Ra1 na1 ca1) := (unhide G2).c0 1 rfl
  have v2x1 : x2.cell? ⟨P1, 1, none⟩ = some (.slice Rb1 nb1 cb1) := (unhide G2).c1 1 rfl
  have u2x2 : x2.cell? ⟨B, 0, none⟩ = some (.slice A n cap) := (unhide G2).c0 2 rfl
  have v2x2 : x2.cell? ⟨B, 1, none⟩ = some (.slice A2 n2 cap2) := (unhide G2).c1 2 rfl
  go_wp2_with fail
  refine (unhide CZ _ ((unhide G2).at_ 2 rfl).i).mono ?_
  rintro e w3 ⟨rfl, hb3⟩
  have H3 := hide ((unhide G2).below hb3)
  clear hb3
  clear u2x0 v2x0 u2x1 v2x1 u2x2 v2x2
  have u3x0 : w3.cell? ⟨P2, 0, none⟩ = some (.slice Ra2 na2 ca2) := (unhide H3).c0 0 rfl
  have v3x0 : w3.cell? ⟨P2, 1, none⟩ = some (.slice Rb2 nb2 cb2) := (unhide H3).c1 0 rfl
  have u3x1 : w3.cell? ⟨P1, 0, none⟩ = some (.slice Ra1 na1 ca1) := (unhide H3).c0 1 rfl
  have v3x1 : w3.cell? ⟨P1, 1, none⟩ = some (.slice Rb1 nb1 cb1) := (unhide H3).c1 1 rfl
  have u3x2 : w3.cell? ⟨B, 0, none⟩ = some (.slice A n cap) := (unhide H3).c0 2 rfl
  have v3x2 : w3.cell? ⟨B, 1, none⟩ = some (.slice A2 n2 cap2) := (unhide H3).c1 2 rfl
  go_wp2_with fail
  refine (unhide CP2 _ ((unhide H3).at_ 2 rfl).i).mono ?_
  rintro e w4 ⟨hr4, hb4⟩
  obtain ⟨Ra4, na4, ca4, Rb4, nb4, cb4, rfl, hi4, hc4, ho4⟩ := hr4.open
  have H4 := hide ((unhide H3).below hb4)
  have HI4 := hide hi4
  have HC4 := hide hc4
  have HO4 := hide ho4
  clear hb4 hi4 hc4 hr4 ho4
  go_upto_region 5 with (refine wpList_store_row rfl 33 (.tmp 11) (.tmp 36) rfl w4.heap.size #[.slice Ra4 na4 ca4, .slice Rb4 nb4 cb4] rfl rfl 33 _ (heap_alloc_new _ _) sizeArc rfl (one_two _ _ _ _ _ _) ?_)
  obtain ⟨x4, hx4⟩ : ∃ x, x = (w4.alloc (.cells #[.slice none 0 0, .slice none 0 0] 33)).setRow w4.heap.size #[.slice Ra4 na4 ca4, .slice Rb4 nb4 cb4] := ⟨_, rfl⟩
  obtain ⟨P4, hP4⟩ : ∃ P, P = w4.heap.size := ⟨_, rfl⟩
  have G4 := hide (show St w x4 B [⟨P4, Ra4, na4, ca4, Rb4, nb4, cb4, r1.1⟩, ⟨P2, Ra2, na2, ca2, Rb2, nb2, cb2, arc0⟩, ⟨P1, Ra1, na1, ca1, Rb1, nb1, cb1, r1.1⟩, ⟨B, A, n, cap, A2, n2, cap2, a⟩] by rw [hx4, hP4]; exact (unhide H4).new (unhide HI4) ca4 cb4)
  rw [← hx4, ← hP4]
  clear hx4 hP4
  clear u3x0 v3x0 u3x1 v3x1 u3x2 v3x2
  have u4x0 : x4.cell? ⟨P4, 0, none⟩ = some (.slice Ra4 na4 ca4) := (unhide G4).c0 0 rfl
  have v4x0 : x4.cell? ⟨P4, 1, none⟩ = some (.slice Rb4 nb4 cb4) := (unhide G4).c1 0 rfl
  have u4x1 : x4.cell? ⟨P2, 0, none⟩ = some (.slice Ra2 na2 ca2) := (unhide G4).c0 1 rfl
  have v4x1 : x4.cell? ⟨P2, 1, none⟩ = some (.slice Rb2 nb2 cb2) := (unhide G4).c1 1 rfl
  have u4x2 : x4.cell? ⟨P1, 0, none⟩ = some (.slice Ra1 na1 ca1) := (unhide G4).c0 2 rfl
  have v4x2 : x4.cell? ⟨P1, 1, none⟩ = some (.slice Rb1 nb1 cb1) := (unhide G4).c1 2 rfl
  have u4x3 : x4.cell? ⟨B, 0, none⟩ = some (.slice A n cap) := (unhide G4).c0 3 rfl
  have v4x3 : x4.cell? ⟨B, 1, none⟩ = some (.slice A2 n2 cap2) := (unhide G4).c1 3 rfl
  go_wp2_with fail
  refine (unhide CD2 _ ((unhide G4).at_ 3 rfl).i).mono ?_
  rintro e w5 ⟨hr5, hb5⟩
  obtain ⟨Ra5, na5, ca5, Rb5, nb5, cb5, rfl, hi5, hc5, ho5⟩ := hr5.open
  have H5 := hide ((unhide G4).below hb5)
  have HI5 := hide hi5
  have HC5 := hide hc5
  have HO5 := hide ho5
  clear hb5 hi5 hc5 hr5 ho5
  go_upto_region 6 with (refine wpList_store_row rfl 33 (.tmp 13) (.tmp 41) rfl w5.heap.size #[.slice Ra5 na5 ca5, .slice Rb5 nb5 cb5] rfl rfl 33 _ (heap_alloc_new _ _) sizeArc rfl (one_two _ _ _ _ _ _) ?_)
  obtain ⟨x5, hx5⟩ : ∃ x, x = (w5.alloc (.cells #[.slice none 0 0, .slice none 0 0] 33)).setRow w5.heap.size #[.slice Ra5 na5 ca5, .slice Rb5 nb5 cb5] := ⟨_, rfl⟩
  obtain ⟨P5, hP5⟩ : ∃ P, P = w5.heap.size := ⟨_, rfl⟩
  have G5 := hide (show St w x5 B [⟨P5, Ra5, na5, ca5, Rb5, nb5, cb5, arc0⟩, ⟨P4, Ra4, na4, ca4, Rb4, nb4, cb4, r1.1⟩, ⟨P2, Ra2, na2, ca2, Rb2, nb2, cb2, arc0⟩, ⟨P1, Ra1, na1, ca1, Rb1, nb1, cb1, r1.1⟩, ⟨B, A, n, cap, A2, n2, cap2, a⟩] by rw [hx5, hP5]; exact (unhide H5).new (unhide HI5) ca5 cb5)
  rw [← hx5, ← hP5]
  clear hx5 hP5
  clear u4x0 v4x0 u4x1 v4x1 u4x2 v4x2 u4x3 v4x3
  have u5x0 : x5.cell? ⟨P5, 0, none⟩ = some (.slice Ra5 na5 ca5) := (unhide G5).c0 0 rfl
  have v5x0 : x5.cell? ⟨P5, 1, none⟩ = some (.slice Rb5 nb5 cb5) := (unhide G5).c1 0 rfl
  have u5x1 : x5.cell? ⟨P4, 0, none⟩ = some (.slice Ra4 na4 ca4) := (unhide G5).c0 1 rfl
  have v5x1 : x5.cell? ⟨P4, 1, none⟩ = some (.slice Rb4 nb4 cb4) := (unhide G5).c1 1 rfl
  have u5x2 : x5.cell? ⟨P2, 0, none⟩ = some (.slice Ra2 na2 ca2) := (unhide G5).c0 2 rfl
  have v5x2 : x5.cell? ⟨P2, 1, none⟩ = some (.slice Rb2 nb2 cb2) := (unhide G5).c1 2 rfl
  have u5x3 : x5.cell? ⟨P1, 0, none⟩ = some (.slice Ra1 na1 ca1) := (unhide G5).c0 3 rfl
  have v5x3 : x5.cell? ⟨P1, 1, none⟩ = some (.slice Rb1 nb1 cb1) := (unhide G5).c1 3 rfl
  have u5x4 : x5.cell? ⟨B, 0, none⟩ = some (.slice A n cap) := (unhide G5).c0 4 rfl
  have v5x4 : x5.cell? ⟨B, 1, none⟩ = some (.slice A2 n2 cap2) := (unhide G5).c1 4 rfl
  go_wp2_with fail
  refine (archBegun_any _ ((unhide HM).up (by have := (unhide G5).bel; rw [unhide HB] at this; exact this))).mono ?_
  rintro e w6 ⟨rfl, hb6⟩
  have H6 := hide ((unhide G5).below hb6)
  clear hb6
  clear u5x0 v5x0 u5x1 v5x1 u5x2 v5x2 u5x3 v5x3 u5x4 v5x4
  have u6x0 : w6.cell? ⟨P5, 0, none⟩ = some (.slice Ra5 na5 ca5) := (unhide H6).c0 0 rfl
  have v6x0 : w6.cell? ⟨P5, 1, none⟩ = some (.slice Rb5 nb5 cb5) := (unhide H6).c1 0 rfl
  have u6x1 : w6.cell? ⟨P4, 0, none⟩ = some (.slice Ra4 na4 ca4) := (unhide H6).c0 1 rfl
  have v6x1 : w6.cell? ⟨P4, 1, none⟩ = some (.slice Rb4 nb4 cb4) := (unhide H6).c1 1 rfl
  have u6x2 : w6.cell? ⟨P2, 0, none⟩ = some (.slice Ra2 na2 ca2) := (unhide H6).c0 2 rfl
  have v6x2 : w6.cell? ⟨P2, 1, none⟩ = some (.slice Rb2 nb2 cb2) := (unhide H6).c1 2 rfl
  have u6x3 : w6.cell? ⟨P1, 0, none⟩ = some (.slice Ra1 na1 ca1) := (unhide H6).c0 3 rfl
  have v6x3 : w6.cell? ⟨P1, 1, none⟩ = some (.slice Rb1 nb1 cb1) := (unhide H6).c1 3 rfl
  have u6x4 : w6.cell? ⟨B, 0, none⟩ = some (.slice A n cap) := (unhide H6).c0 4 rfl
  have v6x4 : w6.cell? ⟨B, 1, none⟩ = some (.slice A2 n2 cap2) := (unhide H6).c1 4 rfl
  go_wp2_with fail
  refine (sameArc _ _ _ _ _ _ _ _ _ _ _ _ _ _ ((unhide H6).at_ 3 rfl).i ((unhide H6).at_ 1 rfl).i hnd1 hnf1).mono ?_
  rintro e w7 ⟨rfl, hb7⟩
  have H7 := hide ((unhide H6).below hb7)
  clear hb7
  clear u6x0 v6x0 u6x1 v6x1 u6x2 v6x2 u6x3 v6x3 u6x4 v6x4
  have u7x0 : w7.cell? ⟨P5, 0, none⟩ = some (.slice Ra5 na5 ca5) := (unhide H7).c0 0 rfl
  have v7x0 : w7.cell? ⟨P5, 1, none⟩ = some (.slice Rb5 nb5 cb5) := (unhide H7).c1 0 rfl
  have u7x1 : w7.cell? ⟨P4, 0, none⟩ = some (.slice Ra4 na4 ca4) := (unhide H7).c0 1 rfl
  have v7x1 : w7.cell? ⟨P4, 1, none⟩ = some (.slice Rb4 nb4 cb4) := (unhide H7).c1 1 rfl
  have u7x2 : w7.cell? ⟨P2, 0, none⟩ = some (.slice Ra2 na2 ca2) := (unhide H7).c0 2 rfl
  have v7x2 : w7.cell? ⟨P2, 1, none⟩ = some (.slice Rb2 nb2 cb2) := (unhide H7).c1 2 rfl
  have u7x3 : w7.cell? ⟨P1, 0, none⟩ = some (.slice Ra1 na1 ca1) := (unhide H7).c0 3 rfl
  have v7x3 : w7.cell? ⟨P1, 1, none⟩ = some (.slice Rb1 nb1 cb1) := (unhide H7).c1 3 rfl
  have u7x4 : w7.cell? ⟨B, 0, none⟩ = some (.slice A n cap) := (unhide H7).c0 4 rfl
  have v7x4 : w7.cell? ⟨B, 1, none⟩ = some (.slice A2 n2 cap2) := (unhide H7).c1 4 rfl
  go_wp2_with fail
  refine (sameArc _ _ _ _ _ _ _ _ _ _ _ _ _ _ ((unhide H7).at_ 2 rfl).i ((unhide H7).at_ 0 rfl).i hnd2 hnf2).mono ?_
  rintro e w8 ⟨rfl, hb8⟩
  have H8 := hide ((unhide H7).below hb8)
  clear hb8
  clear u7x0 v7x0 u7x1 v7x1 u7x2 v7x2 u7x3 v7x3 u7x4 v7x4
  have u8x0 : w8.cell? ⟨P5, 0, none⟩ = some (.slice Ra5 na5 ca5) := (unhide H8).c0 0 rfl
  have v8x0 : w8.cell? ⟨P5, 1, none⟩ = some (.slice Rb5 nb5 cb5) := (unhide H8).c1 0 rfl
  have u8x1 : w8.cell? ⟨P4, 0, none⟩ = some (.slice Ra4 na4 ca4) := (unhide H8).c0 1 rfl
  have v8x1 : w8.cell? ⟨P4, 1, none⟩ = some (.slice Rb4 nb4 cb4) := (unhide H8).c1 1 rfl
  have u8x2 : w8.cell? ⟨P2, 0, none⟩ = some (.slice Ra2 na2 ca2) := (unhide H8).c0 2 rfl
  have v8x2 : w8.cell? ⟨P2, 1, none⟩ = some (.slice Rb2 nb2 cb2) := (unhide H8).c1 2 rfl
  have u8x3 : w8.cell? ⟨P1, 0, none⟩ = some (.slice Ra1 na1 ca1) := (unhide H8).c0 3 rfl
  have v8x3 : w8.cell? ⟨P1, 1, none⟩ = some (.slice Rb1 nb1 cb1) := (unhide H8).c1 3 rfl
  have u8x4 : w8.cell? ⟨B, 0, none⟩ = some (.slice A n cap) := (unhide H8).c0 4 rfl
  have v8x4 : w8.cell? ⟨B, 1, none⟩ = some (.slice A2 n2 cap2) := (unhide H8).c1 4 rfl
  go_wp2_with fail
  go_ret
  exact ⟨rfl, (unhide H8).bel⟩
end Go.Proofs.YtjpgoeimclipjaaGreat
