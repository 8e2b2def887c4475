/- Parts of the proofs. -/
import Derived.Test.YtjpgoeimclipjaaGreatAc13
namespace Go.Proofs.YtjpgoeimclipjaaGreat
namespace Pl
theorem find_filter_other {name other : Bytes} (ho : other ≠ name) : ∀ fs : List Fil, findF other (fs.filter fun f => decide (f.name ≠ name)) = findF other fs
  | [] => rfl
  | x :: r => by
    have ih := find_filter_other ho r
    unfold findF at ih ⊢
    by_cases hx : x.name = name
    · rw [List.filter_cons_of_neg (by simp [hx]), List.find?_cons_of_neg (by simp [hx, Ne.symm ho])]
      exact ih
    · rw [List.filter_cons_of_pos (by simp [hx]), List.find?_cons, List.find?_cons, ih]
theorem drop_other {a : Arc} {name other : Bytes} (h : (drop a name).2 = 0) (ho : other ≠ name) : get (drop a name).1 other = get a other := by
  obtain ⟨h1, h2, h3⟩ := drop_right h
  rw [get_right h2, get_right h1, h3]
  simp only [find_filter_other ho]
theorem range_part {a : Arc} {name : Bytes} {m n : Int} (h : (range a name m n).2 = 0) :
    (get a name).2 = 0 ∧ 0 ≤ m ∧ 0 ≤ n ∧ m + n ≤ ((get a name).1.length : Int) ∧ (range a name m n).1 = slice (get a name).1 m.toNat (m.toNat + n.toNat) := by
  unfold range at h ⊢
  by_cases h1 : (get a name).2 ≠ 0
  · rw [if_pos h1] at h; exact absurd h h1
  · rw [if_neg h1] at h ⊢
    unfold cutR at h ⊢
    split at h
    · cases h
    · rename_i h2
      rw [if_neg h2]
      exact ⟨Decidable.not_not.1 h1, by omega, by omega, by omega, rfl⟩
end Pl
end Go.Proofs.YtjpgoeimclipjaaGreat
namespace Go.Proofs.YtjpgoeimclipjaaGreat
open Go.RowKit Go.Lib Pl
attribute [local go_sem] ext_list app_list
section
variable {W W' : World} {p : Nat} {A : Option Addr} {n cap : Nat} {A2 : Option Addr} {n2 cap2 : Nat} {a : Arc}
end
theorem putBad {a : Arc} {name text : Bytes} {n : Int} (h : (put a name text n).2 ≠ 0) : (put a name text n).1 = arc0 := by
  unfold put at h ⊢
  split
  · rfl
  · split
    · rfl
    · split
      · rfl
      · split
        · rfl
        · split
          · rfl
          · simp_all
theorem dropBad {a : Arc} {name : Bytes} (h : (drop a name).2 ≠ 0) : (drop a name).1 = arc0 := by
  unfold drop at h ⊢
  split
  · rfl
  · split
    · rfl
    · simp_all
theorem put_ra (a : Arc) (name text : Bytes) (n : Int) : RightA (put a name text n).1 := by
  by_cases h : (put a name text n).2 = 0
  · exact (put_right h).2.1
  · rw [putBad h]; exact arc0_right
theorem drop_ra (a : Arc) (name : Bytes) : RightA (drop a name).1 := by
  by_cases h : (drop a name).2 = 0
  · exact (drop_right h).2.1
  · rw [dropBad h]; exact arc0_right
end Go.Proofs.YtjpgoeimclipjaaGreat
namespace Go.Proofs.YtjpgoeimclipjaaGreat
open Go.RowKit Go.Lib Pl
attribute [local go_sem] ext_list app_list
set_option maxHeartbeats 8000000 in
set_option maxRecDepth 100000 in
theorem archTrue_1111 (A : Option Addr) (n cap : Nat) (A2 : Option Addr) (n2 cap2 : Nat) (a : Arc) (file text : Bytes) (k : Int) (other : Bytes) (m q : Int) (w : World) (h : ArcIn w A n A2 n2 a) (hz : ArcSz a) (hfl : file.length ≤ 140737488355328) (htl : text.length ≤ 9223372036854775807) (hk0 : -9223372036854775808 ≤ k) (hk1 : k ≤ 9223372036854775807) (hm0 : -9223372036854775808 ≤ m) (hm1 : m ≤ 9223372036854775807) (hq0 : -9223372036854775808 ≤ q) (hq1 : q ≤ 9223372036854775807) (hm : MaxLenIs w)
    (hput : (put a file text k).2 = 0) (hrng : (Pl.range (put a file text k).1 file m q).2 = 0) (hdrop : (drop a file).2 = 0) (hsame : other = file) :
    Calls Tryz.prog 9 #[arcV A n cap A2 n2 cap2, S file, S text, I k, S other, I m, I q] w fun e w' => e = .returned (.bool true) ∧ Below w.heap.size w w' := by
  subst hsame
  have CP := fun (W : World) (hi : ArcIn W A n A2 n2 a) => put_any A n cap A2 n2 cap2 a other text k W hi hz hfl htl hk0 hk1
  have CD := fun (W : World) (hi : ArcIn W A n A2 n2 a) => drop_any A n cap A2 n2 cap2 a other W hi hz
  have CG := fun (W : World) (hi : ArcIn W A n A2 n2 a) => get_any A n cap A2 n2 cap2 a other W hi hz
  have hra1 := put_ra a other text k
  have hra2 := drop_ra a other
  obtain ⟨b, hb⟩ : ∃ b, b = (put a other text k).1 := ⟨_, rfl⟩
  obtain ⟨c, hc⟩ : ∃ c, c = (drop a other).1 := ⟨_, rfl⟩
  obtain ⟨tw, htw⟩ : ∃ t, t = (Pl.get a other).1 := ⟨_, rfl⟩
  obtain ⟨fw, hfw⟩ : ∃ t, t = (Pl.get a other).2 := ⟨_, rfl⟩
  have CB1 := fun (W : World) (A : Option Addr) (n cap : Nat) (A2 : Option Addr) (n2 cap2 : Nat) (hi : ArcIn W A n A2 n2 b) => get_any A n cap A2 n2 cap2 b other W hi (right_sz (by rw [hb]; exact hra1))
  rw [show Pl.get b other = (text, 0) from by rw [hb]; exact put_get hput] at CB1
  have CR := fun (W : World) (A : Option Addr) (n cap : Nat) (A2 : Option Addr) (n2 cap2 : Nat) (hi : ArcIn W A n A2 n2 b) => range_any A n cap A2 n2 cap2 b other m q W hi (right_sz (by rw [hb]; exact hra1)) hm0 hm1 hq0 hq1
  have CK := fun (W : World) (A : Option Addr) (n cap : Nat) (A2 : Option Addr) (n2 cap2 : Nat) (hi : ArcIn W A n A2 n2 b) => check_arch A n cap A2 n2 cap2 b W hi (right_sz (by rw [hb]; exact hra1))
  rw [(check_iff b).2 (by rw [hb]; exact hra1)] at CK
  obtain ⟨_, g1, g2, g3, g4⟩ := range_part hrng
  rw [put_get hput] at g3 g4
  simp only at g3 g4
  obtain ⟨i, rfl⟩ : ∃ i : Nat, m = (i : Int) := ⟨m.toNat, by omega⟩
  obtain ⟨j, rfl⟩ : ∃ j : Nat, q = (j : Int) := ⟨q.toNat, by omega⟩
  rw [Int.toNat_natCast, Int.toNat_natCast] at g4
  rw [show Pl.range b other (i : Int) (j : Int) = (Pl.slice text i (i + j), 0) from by rw [hb]; exact Prod.ext g4 hrng] at CR
  have c1 : ¬ (i : Int) < 0 := by omega
  have c2 : ¬ (j : Int) < 0 := by omega
  have c3 : ¬ (text.length : Int) < (i : Int) + (j : Int) := by omega
  have c5 : i ≤ i + j := by omega
  have c6 : i + j ≤ text.length := by omega
  clear g1 g2 g3 g4 hrng
  have e3 : IntKind.i64.wrap ((i : Int) + (j : Int)) = ((i + j : Nat) : Int) := by rw [show (i : Int) + (j : Int) = ((i + j : Nat) : Int) from by omega]; exact IntWalk.i64_in _ ⟨by omega, by omega⟩
  have e4 : wrap64 ((i : Int) + (j : Int)) = ((i + j : Nat) : Int) := by rw [show (i : Int) + (j : Int) = ((i + j : Nat) : Int) from by omega]; exact IntWalk.wrap64_in _ ⟨by omega, by omega⟩
  have E3 := hide e3
  have E4 := hide e4
  clear e3 e4
  rw [show put a other text k = (b, 0) from Prod.ext hb.symm hput] at CP
  have CC1 := fun (W : World) (A : Option Addr) (n cap : Nat) (A2 : Option Addr) (n2 cap2 : Nat) (hi : ArcIn W A n A2 n2 c) => get_any A n cap A2 n2 cap2 c other W hi (right_sz (by rw [hc]; exact hra2))
  rw [show Pl.get c other = ([], 5) from by rw [hc]; exact drop_get hdrop] at CC1
  rw [show drop a other = (c, 0) from Prod.ext hc.symm hdrop] at CD
  rw [← htw, ← hfw] at CG
  have CP := hide CP
  have CD := hide CD
  have CG := hide CG
  have CB1 := hide CB1
  have CR := hide CR
  have CK := hide CK
  have CC1 := hide CC1
  clear hz hb hc htw hfw hra1 hra2 hput hdrop
  obtain ⟨B, hB⟩ : ∃ B, B = w.heap.size := ⟨_, rfl⟩
  obtain ⟨w0, hw0⟩ : ∃ w0, w0 = w.alloc (.cells #[.slice A n cap, .slice A2 n2 cap2] 33) := ⟨_, rfl⟩
  have H0 := hide (show St w w0 B [⟨B, A, n, cap, A2, n2, cap2, a⟩] by rw [hw0, hB]; exact St.box h cap cap2)
  have HB := hide hB
  have HW0 := hide hw0
  have HM := hide hm
  rw [← hB]
  clear hB hw0 hm
  go_enter Tryz.func9, Tryz.ntmps9
  go_upto_region 1 with fail
  rw [← unhide HW0, ← unhide HB]
  have u0x0 : w0.cell? ⟨B, 0, none⟩ = some (.slice A n cap) := (unhide H0).c0 0 rfl
  have v0x0 : w0.cell? ⟨B, 1, none⟩ = some (.slice A2 n2 cap2) := (unhide H0).c1 0 rfl
  go_wp2_with fail
  refine (unhide CP _ ((unhide H0).at_ 0 rfl).i).mono ?_
  rintro e w1 ⟨hr1, hb1⟩
  obtain ⟨Ra1, na1, ca1, Rb1, nb1, cb1, rfl, hi1, hc1, ho1⟩ := hr1.open
  have H1 := hide ((unhide H0).below hb1)
  have HI1 := hide hi1
  have HC1 := hide hc1
  have HO1 := hide ho1
  clear hb1 hi1 hc1 hr1 ho1
  go_upto_region 2 with (refine wpList_store_row rfl 33 (.tmp 15) (.tmp 37) rfl w1.heap.size #[.slice Ra1 na1 ca1, .slice Rb1 nb1 cb1] rfl rfl 33 _ (heap_alloc_new _ _) sizeArc rfl (one_two _ _ _ _ _ _) ?_)
  obtain ⟨x1, hx1⟩ : ∃ x, x = (w1.alloc (.cells #[.slice none 0 0, .slice none 0 0] 33)).setRow w1.heap.size #[.slice Ra1 na1 ca1, .slice Rb1 nb1 cb1] := ⟨_, rfl⟩
  obtain ⟨P1, hP1⟩ : ∃ P, P = w1.heap.size := ⟨_, rfl⟩
  have G1 := hide (show St w x1 B [⟨P1, Ra1, na1, ca1, Rb1, nb1, cb1, b⟩, ⟨B, A, n, cap, A2, n2, cap2, a⟩] by rw [hx1, hP1]; exact (unhide H1).new (unhide HI1) ca1 cb1)
  rw [← hx1, ← hP1]
  clear hx1 hP1
  clear u0x0 v0x0
  have u1x0 : x1.cell? ⟨P1, 0, none⟩ = some (.slice Ra1 na1 ca1) := (unhide G1).c0 0 rfl
  have v1x0 : x1.cell? ⟨P1, 1, none⟩ = some (.slice Rb1 nb1 cb1) := (unhide G1).c1 0 rfl
  have u1x1 : x1.cell? ⟨B, 0, none⟩ = some (.slice A n cap) := (unhide G1).c0 1 rfl
  have v1x1 : x1.cell? ⟨B, 1, none⟩ = some (.slice A2 n2 cap2) := (unhide G1).c1 1 rfl
  go_wp2_with fail
  refine (unhide CG _ ((unhide G1).at_ 1 rfl).i).mono ?_
  rintro e w2 ⟨rfl, hb2⟩
  have H2 := hide ((unhide G1).below hb2)
  clear hb2
  clear u1x0 v1x0 u1x1 v1x1
  have u2x0 : w2.cell? ⟨P1, 0, none⟩ = some (.slice Ra1 na1 ca1) := (unhide H2).c0 0 rfl
  have v2x0 : w2.cell? ⟨P1, 1, none⟩ = some (.slice Rb1 nb1 cb1) := (unhide H2).c1 0 rfl
  have u2x1 : w2.cell? ⟨B, 0, none⟩ = some (.slice A n cap) := (unhide H2).c0 1 rfl
  have v2x1 : w2.cell? ⟨B, 1, none⟩ = some (.slice A2 n2 cap2) := (unhide H2).c1 1 rfl
  go_wp2_with fail
  refine (unhide CB1 _ _ _ _ _ _ _ ((unhide H2).at_ 0 rfl).i).mono ?_
  rintro e w3 ⟨rfl, hb3⟩
  have H3 := hide ((unhide H2).below hb3)
  clear hb3
  clear u2x0 v2x0 u2x1 v2x1
  have u3x0 : w3.cell? ⟨P1, 0, none⟩ = some (.slice Ra1 na1 ca1) := (unhide H3).c0 0 rfl
  have v3x0 : w3.cell? ⟨P1, 1, none⟩ = some (.slice Rb1 nb1 cb1) := (unhide H3).c1 0 rfl
  have u3x1 : w3.cell? ⟨B, 0, none⟩ = some (.slice A n cap) := (unhide H3).c0 1 rfl
  have v3x1 : w3.cell? ⟨B, 1, none⟩ = some (.slice A2 n2 cap2) := (unhide H3).c1 1 rfl
  go_wp2_with fail
  refine (unhide CB1 _ _ _ _ _ _ _ ((unhide H3).at_ 0 rfl).i).mono ?_
  rintro e w4 ⟨rfl, hb4⟩
  have H4 := hide ((unhide H3).below hb4)
  clear hb4
  clear u3x0 v3x0 u3x1 v3x1
  have u4x0 : w4.cell? ⟨P1, 0, none⟩ = some (.slice Ra1 na1 ca1) := (unhide H4).c0 0 rfl
  have v4x0 : w4.cell? ⟨P1, 1, none⟩ = some (.slice Rb1 nb1 cb1) := (unhide H4).c1 0 rfl
  have u4x1 : w4.cell? ⟨B, 0, none⟩ = some (.slice A n cap) := (unhide H4).c0 1 rfl
  have v4x1 : w4.cell? ⟨B, 1, none⟩ = some (.slice A2 n2 cap2) := (unhide H4).c1 1 rfl
  go_wp2_with fail
  refine (unhide CR _ _ _ _ _ _ _ ((unhide H4).at_ 0 rfl).i).mono ?_
  rintro e w5 ⟨rfl, hb5⟩
  have H5 := hide ((unhide H4).below hb5)
  clear hb5
  clear u4x0 v4x0 u4x1 v4x1
  have u5x0 : w5.cell? ⟨P1, 0, none⟩ = some (.slice Ra1 na1 ca1) := (unhide H5).c0 0 rfl
  have v5x0 : w5.cell? ⟨P1, 1, none⟩ = some (.slice Rb1 nb1 cb1) := (unhide H5).c1 0 rfl
  have u5x1 : w5.cell? ⟨B, 0, none⟩ = some (.slice A n cap) := (unhide H5).c0 1 rfl
  have v5x1 : w5.cell? ⟨B, 1, none⟩ = some (.slice A2 n2 cap2) := (unhide H5).c1 1 rfl
  have e3 := unhide E3
  have e4 := unhide E4
  go_wp2_with fail
  refine (unhide CK _ _ _ _ _ _ _ ((unhide H5).at_ 0 rfl).i).mono ?_
  rintro e w6 ⟨rfl, hb6⟩
  have H6 := hide ((unhide H5).below hb6)
  clear hb6
  clear u5x0 v5x0 u5x1 v5x1
  have u6x0 : w6.cell? ⟨P1, 0, none⟩ = some (.slice Ra1 na1 ca1) := (unhide H6).c0 0 rfl
  have v6x0 : w6.cell? ⟨P1, 1, none⟩ = some (.slice Rb1 nb1 cb1) := (unhide H6).c1 0 rfl
  have u6x1 : w6.cell? ⟨B, 0, none⟩ = some (.slice A n cap) := (unhide H6).c0 1 rfl
  have v6x1 : w6.cell? ⟨B, 1, none⟩ = some (.slice A2 n2 cap2) := (unhide H6).c1 1 rfl
  clear e3 e4
  go_wp2_with fail
  refine (unhide CD _ ((unhide H6).at_ 1 rfl).i).mono ?_
  rintro e w7 ⟨hr7, hb7⟩
  obtain ⟨Ra7, na7, ca7, Rb7, nb7, cb7, rfl, hi7, hc7, ho7⟩ := hr7.open
  have H7 := hide ((unhide H6).below hb7)
  have HI7 := hide hi7
  have HC7 := hide hc7
  have HO7 := hide ho7
  clear hb7 hi7 hc7 hr7 ho7
  go_upto_region 12 with (refine wpList_store_row rfl 33 (.tmp 25) (.tmp 126) rfl w7.heap.size #[.slice Ra7 na7 ca7, .slice Rb7 nb7 cb7] rfl rfl 33 _ (heap_alloc_new _ _) sizeArc rfl (one_two _ _ _ _ _ _) ?_)
  obtain ⟨x7, hx7⟩ : ∃ x, x = (w7.alloc (.cells #[.slice none 0 0, .slice none 0 0] 33)).setRow w7.heap.size #[.slice Ra7 na7 ca7, .slice Rb7 nb7 cb7] := ⟨_, rfl⟩
  obtain ⟨P7, hP7⟩ : ∃ P, P = w7.heap.size := ⟨_, rfl⟩
  have G7 := hide (show St w x7 B [⟨P7, Ra7, na7, ca7, Rb7, nb7, cb7, c⟩, ⟨P1, Ra1, na1, ca1, Rb1, nb1, cb1, b⟩, ⟨B, A, n, cap, A2, n2, cap2, a⟩] by rw [hx7, hP7]; exact (unhide H7).new (unhide HI7) ca7 cb7)
  rw [← hx7, ← hP7]
  clear hx7 hP7
  clear u6x0 v6x0 u6x1 v6x1
  have u7x0 : x7.cell? ⟨P7, 0, none⟩ = some (.slice Ra7 na7 ca7) := (unhide G7).c0 0 rfl
  have v7x0 : x7.cell? ⟨P7, 1, none⟩ = some (.slice Rb7 nb7 cb7) := (unhide G7).c1 0 rfl
  have u7x1 : x7.cell? ⟨P1, 0, none⟩ = some (.slice Ra1 na1 ca1) := (unhide G7).c0 1 rfl
  have v7x1 : x7.cell? ⟨P1, 1, none⟩ = some (.slice Rb1 nb1 cb1) := (unhide G7).c1 1 rfl
  have u7x2 : x7.cell? ⟨B, 0, none⟩ = some (.slice A n cap) := (unhide G7).c0 2 rfl
  have v7x2 : x7.cell? ⟨B, 1, none⟩ = some (.slice A2 n2 cap2) := (unhide G7).c1 2 rfl
  go_wp2_with fail
  refine (unhide CC1 _ _ _ _ _ _ _ ((unhide G7).at_ 0 rfl).i).mono ?_
  rintro e w8 ⟨rfl, hb8⟩
  have H8 := hide ((unhide G7).below hb8)
  clear hb8
  clear u7x0 v7x0 u7x1 v7x1 u7x2 v7x2
  have u8x0 : w8.cell? ⟨P7, 0, none⟩ = some (.slice Ra7 na7 ca7) := (unhide H8).c0 0 rfl
  have v8x0 : w8.cell? ⟨P7, 1, none⟩ = some (.slice Rb7 nb7 cb7) := (unhide H8).c1 0 rfl
  have u8x1 : w8.cell? ⟨P1, 0, none⟩ = some (.slice Ra1 na1 ca1) := (unhide H8).c0 1 rfl
  have v8x1 : w8.cell? ⟨P1, 1, none⟩ = some (.slice Rb1 nb1 cb1) := (unhide H8).c1 1 rfl
  have u8x2 : w8.cell? ⟨B, 0, none⟩ = some (.slice A n cap) := (unhide H8).c0 2 rfl
  have v8x2 : w8.cell? ⟨B, 1, none⟩ = some (.slice A2 n2 cap2) := (unhide H8).c1 2 rfl
  go_wp2_with fail
  refine (unhide CC1 _ _ _ _ _ _ _ ((unhide H8).at_ 0 rfl).i).mono ?_
  rintro e w9 ⟨rfl, hb9⟩
  have H9 := hide ((unhide H8).below hb9)
  clear hb9
  clear u8x0 v8x0 u8x1 v8x1 u8x2 v8x2
  have u9x0 : w9.cell? ⟨P7, 0, none⟩ = some (.slice Ra7 na7 ca7) := (unhide H9).c0 0 rfl
  have v9x0 : w9.cell? ⟨P7, 1, none⟩ = some (.slice Rb7 nb7 cb7) := (unhide H9).c1 0 rfl
  have u9x1 : w9.cell? ⟨P1, 0, none⟩ = some (.slice Ra1 na1 ca1) := (unhide H9).c0 1 rfl
  have v9x1 : w9.cell? ⟨P1, 1, none⟩ = some (.slice Rb1 nb1 cb1) := (unhide H9).c1 1 rfl
  have u9x2 : w9.cell? ⟨B, 0, none⟩ = some (.slice A n cap) := (unhide H9).c0 2 rfl
  have v9x2 : w9.cell? ⟨B, 1, none⟩ = some (.slice A2 n2 cap2) := (unhide H9).c1 2 rfl
  go_wp2_with fail
  refine (archBegun_any _ ((unhide HM).up (by have := (unhide H9).bel; rw [unhide HB] at this; exact this))).mono ?_
  rintro e w10 ⟨rfl, hb10⟩
  have H10 := hide ((unhide H9).below hb10)
  clear hb10
  clear u9x0 v9x0 u9x1 v9x1 u9x2 v9x2
  have u10x0 : w10.cell? ⟨P7, 0, none⟩ = some (.slice Ra7 na7 ca7) := (unhide H10).c0 0 rfl
  have v10x0 : w10.cell? ⟨P7, 1, none⟩ = some (.slice Rb7 nb7 cb7) := (unhide H10).c1 0 rfl
  have u10x1 : w10.cell? ⟨P1, 0, none⟩ = some (.slice Ra1 na1 ca1) := (unhide H10).c0 1 rfl
  have v10x1 : w10.cell? ⟨P1, 1, none⟩ = some (.slice Rb1 nb1 cb1) := (unhide H10).c1 1 rfl
  have u10x2 : w10.cell? ⟨B, 0, none⟩ = some (.slice A n cap) := (unhide H10).c0 2 rfl
  have v10x2 : w10.cell? ⟨B, 1, none⟩ = some (.slice A2 n2 cap2) := (unhide H10).c1 2 rfl
  go_wp2_with fail
  go_ret
  exact ⟨rfl, (unhide H10).bel⟩
set_option maxHeartbeats 8000000 in
set_option maxRecDepth 100000 in
theorem archTrue_1110 (A : Option Addr) (n cap : Nat) (A2 : Option Addr) (n2 cap2 : Nat) (a : Arc) (file text : Bytes) (k : Int) (other : Bytes) (m q : Int) (w : World) (h : ArcIn w A n A2 n2 a) (hz : ArcSz a) (hfl : file.length ≤ 140737488355328) (htl : text.length ≤ 9223372036854775807) (hk0 : -9223372036854775808 ≤ k) (hk1 : k ≤ 9223372036854775807) (hm0 : -9223372036854775808 ≤ m) (hm1 : m ≤ 9223372036854775807) (hq0 : -9223372036854775808 ≤ q) (hq1 : q ≤ 9223372036854775807) (hm : MaxLenIs w)
    (hput : (put a file text k).2 = 0) (hrng : (Pl.range (put a file text k).1 file m q).2 = 0) (hdrop : (drop a file).2 = 0) (hsame : other ≠ file) :
    Calls Tryz.prog 9 #[arcV A n cap A2 n2 cap2, S file, S text, I k, S other, I m, I q] w fun e w' => e = .returned (.bool true) ∧ Below w.heap.size w w' := by
  have CP := fun (W : World) (hi : ArcIn W A n A2 n2 a) => put_any A n cap A2 n2 cap2 a file text k W hi hz hfl htl hk0 hk1
  have CD := fun (W : World) (hi : ArcIn W A n A2 n2 a) => drop_any A n cap A2 n2 cap2 a file W hi hz
  have CG := fun (W : World) (hi : ArcIn W A n A2 n2 a) => get_any A n cap A2 n2 cap2 a other W hi hz
  have hra1 := put_ra a file text k
  have hra2 := drop_ra a file
  obtain ⟨b, hb⟩ : ∃ b, b = (put a file text k).1 := ⟨_, rfl⟩
  obtain ⟨c, hc⟩ : ∃ c, c = (drop a file).1 := ⟨_, rfl⟩
  obtain ⟨tw, htw⟩ : ∃ t, t = (Pl.get a other).1 := ⟨_, rfl⟩
  obtain ⟨fw, hfw⟩ : ∃ t, t = (Pl.get a other).2 := ⟨_, rfl⟩
  have CB1 := fun (W : World) (A : Option Addr) (n cap : Nat) (A2 : Option Addr) (n2 cap2 : Nat) (hi : ArcIn W A n A2 n2 b) => get_any A n cap A2 n2 cap2 b file W hi (right_sz (by rw [hb]; exact hra1))
  rw [show Pl.get b file = (text, 0) from by rw [hb]; exact put_get hput] at CB1
  have CB2 := fun (W : World) (A : Option Addr) (n cap : Nat) (A2 : Option Addr) (n2 cap2 : Nat) (hi : ArcIn W A n A2 n2 b) => get_any A n cap A2 n2 cap2 b other W hi (right_sz (by rw [hb]; exact hra1))
  rw [show Pl.get b other = (tw, fw) from by rw [hb, put_other hput hsame, htw, hfw]] at CB2
  have CR := fun (W : World) (A : Option Addr) (n cap : Nat) (A2 : Option Addr) (n2 cap2 : Nat) (hi : ArcIn W A n A2 n2 b) => range_any A n cap A2 n2 cap2 b file m q W hi (right_sz (by rw [hb]; exact hra1)) hm0 hm1 hq0 hq1
  have CK := fun (W : World) (A : Option Addr) (n cap : Nat) (A2 : Option Addr) (n2 cap2 : Nat) (hi : ArcIn W A n A2 n2 b) => check_arch A n cap A2 n2 cap2 b W hi (right_sz (by rw [hb]; exact hra1))
  rw [(check_iff b).2 (by rw [hb]; exact hra1)] at CK
  obtain ⟨_, g1, g2, g3, g4⟩ := range_part hrng
  rw [put_get hput] at g3 g4
  simp only at g3 g4
  obtain ⟨i, rfl⟩ : ∃ i : Nat, m = (i : Int) := ⟨m.toNat, by omega⟩
  obtain ⟨j, rfl⟩ : ∃ j : Nat, q = (j : Int) := ⟨q.toNat, by omega⟩
  rw [Int.toNat_natCast, Int.toNat_natCast] at g4
  rw [show Pl.range b file (i : Int) (j : Int) = (Pl.slice text i (i + j), 0) from by rw [hb]; exact Prod.ext g4 hrng] at CR
  have c1 : ¬ (i : Int) < 0 := by omega
  have c2 : ¬ (j : Int) < 0 := by omega
  have c3 : ¬ (text.length : Int) < (i : Int) + (j : Int) := by omega
  have c5 : i ≤ i + j := by omega
  have c6 : i + j ≤ text.length := by omega
  clear g1 g2 g3 g4 hrng
  have e3 : IntKind.i64.wrap ((i : Int) + (j : Int)) = ((i + j : Nat) : Int) := by rw [show (i : Int) + (j : Int) = ((i + j : Nat) : Int) from by omega]; exact IntWalk.i64_in _ ⟨by omega, by omega⟩
  have e4 : wrap64 ((i : Int) + (j : Int)) = ((i + j : Nat) : Int) := by rw [show (i : Int) + (j : Int) = ((i + j : Nat) : Int) from by omega]; exact IntWalk.wrap64_in _ ⟨by omega, by omega⟩
  have E3 := hide e3
  have E4 := hide e4
  clear e3 e4
  rw [show put a file text k = (b, 0) from Prod.ext hb.symm hput] at CP
  have CC1 := fun (W : World) (A : Option Addr) (n cap : Nat) (A2 : Option Addr) (n2 cap2 : Nat) (hi : ArcIn W A n A2 n2 c) => get_any A n cap A2 n2 cap2 c file W hi (right_sz (by rw [hc]; exact hra2))
  rw [show Pl.get c file = ([], 5) from by rw [hc]; exact drop_get hdrop] at CC1
  have CC2 := fun (W : World) (A : Option Addr) (n cap : Nat) (A2 : Option Addr) (n2 cap2 : Nat) (hi : ArcIn W A n A2 n2 c) => get_any A n cap A2 n2 cap2 c other W hi (right_sz (by rw [hc]; exact hra2))
  rw [show Pl.get c other = (tw, fw) from by rw [hc, drop_other hdrop hsame, htw, hfw]] at CC2
  rw [show drop a file = (c, 0) from Prod.ext hc.symm hdrop] at CD
  rw [← htw, ← hfw] at CG
  have s1 : (other == file) = false := by rw [beq_eq_false_iff_ne]; exact hsame
  have s2 : (other != file) = true := by rw [bne_iff_ne]; exact hsame
  clear hsame
  have CP := hide CP
  have CD := hide CD
  have CG := hide CG
  have CB1 := hide CB1
  have CR := hide CR
  have CK := hide CK
  have CB2 := hide CB2
  have CC1 := hide CC1
  have CC2 := hide CC2
  clear hz hb hc htw hfw hra1 hra2 hput hdrop
  obtain ⟨B, hB⟩ : ∃ B, B = w.heap.size := ⟨_, rfl⟩
  obtain ⟨w0, hw0⟩ : ∃ w0, w0 = w.alloc (.cells #[.slice A n cap, .slice A2 n2 cap2] 33) := ⟨_, rfl⟩
  have H0 := hide (show St w w0 B [⟨B, A, n, cap, A2, n2, cap2, a⟩] by rw [hw0, hB]; exact St.box h cap cap2)
  have HB := hide hB
  have HW0 := hide hw0
  have HM := hide hm
  rw [← hB]
  clear hB hw0 hm
  go_enter Tryz.func9, Tryz.ntmps9
  go_upto_region 1 with fail
  rw [← unhide HW0, ← unhide HB]
  have u0x0 : w0.cell? ⟨B, 0, none⟩ = some (.slice A n cap) := (unhide H0).c0 0 rfl
  have v0x0 : w0.cell? ⟨B, 1, none⟩ = some (.slice A2 n2 cap2) := (unhide H0).c1 0 rfl
  go_wp2_with fail
  refine (unhide CP _ ((unhide H0).at_ 0 rfl).i).mono ?_
  rintro e w1 ⟨hr1, hb1⟩
  obtain ⟨Ra1, na1, ca1, Rb1, nb1, cb1, rfl, hi1, hc1, ho1⟩ := hr1.open
  have H1 := hide ((unhide H0).below hb1)
  have HI1 := hide hi1
  have HC1 := hide hc1
  have HO1 := hide ho1
  clear hb1 hi1 hc1 hr1 ho1
  go_upto_region 2 with (refine wpList_store_row rfl 33 (.tmp 15) (.tmp 37) rfl w1.heap.size #[.slice Ra1 na1 ca1, .slice Rb1 nb1 cb1] rfl rfl 33 _ (heap_alloc_new _ _) sizeArc rfl (one_two _ _ _ _ _ _) ?_)
  obtain ⟨x1, hx1⟩ : ∃ x, x = (w1.alloc (.cells #[.slice none 0 0, .slice none 0 0] 33)).setRow w1.heap.size #[.slice Ra1 na1 ca1, .slice Rb1 nb1 cb1] := ⟨_, rfl⟩
  obtain ⟨P1, hP1⟩ : ∃ P, P = w1.heap.size := ⟨_, rfl⟩
  have G1 := hide (show St w x1 B [⟨P1, Ra1, na1, ca1, Rb1, nb1, cb1, b⟩, ⟨B, A, n, cap, A2, n2, cap2, a⟩] by rw [hx1, hP1]; exact (unhide H1).new (unhide HI1) ca1 cb1)
  rw [← hx1, ← hP1]
  clear hx1 hP1
  clear u0x0 v0x0
  have u1x0 : x1.cell? ⟨P1, 0, none⟩ = some (.slice Ra1 na1 ca1) := (unhide G1).c0 0 rfl
  have v1x0 : x1.cell? ⟨P1, 1, none⟩ = some (.slice Rb1 nb1 cb1) := (unhide G1).c1 0 rfl
  have u1x1 : x1.cell? ⟨B, 0, none⟩ = some (.slice A n cap) := (unhide G1).c0 1 rfl
  have v1x1 : x1.cell? ⟨B, 1, none⟩ = some (.slice A2 n2 cap2) := (unhide G1).c1 1 rfl
  go_wp2_with fail
  refine (unhide CG _ ((unhide G1).at_ 1 rfl).i).mono ?_
  rintro e w2 ⟨rfl, hb2⟩
  have H2 := hide ((unhide G1).below hb2)
  clear hb2
  clear u1x0 v1x0 u1x1 v1x1
  have u2x0 : w2.cell? ⟨P1, 0, none⟩ = some (.slice Ra1 na1 ca1) := (unhide H2).c0 0 rfl
  have v2x0 : w2.cell? ⟨P1, 1, none⟩ = some (.slice Rb1 nb1 cb1) := (unhide H2).c1 0 rfl
  have u2x1 : w2.cell? ⟨B, 0, none⟩ = some (.slice A n cap) := (unhide H2).c0 1 rfl
  have v2x1 : w2.cell? ⟨B, 1, none⟩ = some (.slice A2 n2 cap2) := (unhide H2).c1 1 rfl
  go_wp2_with fail
  refine (unhide CB1 _ _ _ _ _ _ _ ((unhide H2).at_ 0 rfl).i).mono ?_
  rintro e w3 ⟨rfl, hb3⟩
  have H3 := hide ((unhide H2).below hb3)
  clear hb3
  clear u2x0 v2x0 u2x1 v2x1
  have u3x0 : w3.cell? ⟨P1, 0, none⟩ = some (.slice Ra1 na1 ca1) := (unhide H3).c0 0 rfl
  have v3x0 : w3.cell? ⟨P1, 1, none⟩ = some (.slice Rb1 nb1 cb1) := (unhide H3).c1 0 rfl
  have u3x1 : w3.cell? ⟨B, 0, none⟩ = some (.slice A n cap) := (unhide H3).c0 1 rfl
  have v3x1 : w3.cell? ⟨B, 1, none⟩ = some (.slice A2 n2 cap2) := (unhide H3).c1 1 rfl
  go_wp2_with fail
  refine (unhide CB2 _ _ _ _ _ _ _ ((unhide H3).at_ 0 rfl).i).mono ?_
  rintro e w4 ⟨rfl, hb4⟩
  have H4 := hide ((unhide H3).below hb4)
  clear hb4
  clear u3x0 v3x0 u3x1 v3x1
  have u4x0 : w4.cell? ⟨P1, 0, none⟩ = some (.slice Ra1 na1 ca1) := (unhide H4).c0 0 rfl
  have v4x0 : w4.cell? ⟨P1, 1, none⟩ = some (.slice Rb1 nb1 cb1) := (unhide H4).c1 0 rfl
  have u4x1 : w4.cell? ⟨B, 0, none⟩ = some (.slice A n cap) := (unhide H4).c0 1 rfl
  have v4x1 : w4.cell? ⟨B, 1, none⟩ = some (.slice A2 n2 cap2) := (unhide H4).c1 1 rfl
  go_wp2_with fail
  refine (unhide CR _ _ _ _ _ _ _ ((unhide H4).at_ 0 rfl).i).mono ?_
  rintro e w5 ⟨rfl, hb5⟩
  have H5 := hide ((unhide H4).below hb5)
  clear hb5
  clear u4x0 v4x0 u4x1 v4x1
  have u5x0 : w5.cell? ⟨P1, 0, none⟩ = some (.slice Ra1 na1 ca1) := (unhide H5).c0 0 rfl
  have v5x0 : w5.cell? ⟨P1, 1, none⟩ = some (.slice Rb1 nb1 cb1) := (unhide H5).c1 0 rfl
  have u5x1 : w5.cell? ⟨B, 0, none⟩ = some (.slice A n cap) := (unhide H5).c0 1 rfl
  have v5x1 : w5.cell? ⟨B, 1, none⟩ = some (.slice A2 n2 cap2) := (unhide H5).c1 1 rfl
  have e3 := unhide E3
  have e4 := unhide E4
  go_wp2_with fail
  refine (unhide CK _ _ _ _ _ _ _ ((unhide H5).at_ 0 rfl).i).mono ?_
  rintro e w6 ⟨rfl, hb6⟩
  have H6 := hide ((unhide H5).below hb6)
  clear hb6
  clear u5x0 v5x0 u5x1 v5x1
  have u6x0 : w6.cell? ⟨P1, 0, none⟩ = some (.slice Ra1 na1 ca1) := (unhide H6).c0 0 rfl
  have v6x0 : w6.cell? ⟨P1, 1, none⟩ = some (.slice Rb1 nb1 cb1) := (unhide H6).c1 0 rfl
  have u6x1 : w6.cell? ⟨B, 0, none⟩ = some (.slice A n cap) := (unhide H6).c0 1 rfl
  have v6x1 : w6.cell? ⟨B, 1, none⟩ = some (.slice A2 n2 cap2) := (unhide H6).c1 1 rfl
  clear e3 e4
  go_wp2_with fail
  refine (unhide CD _ ((unhide H6).at_ 1 rfl).i).mono ?_
  rintro e w7 ⟨hr7, hb7⟩
  obtain ⟨Ra7, na7, ca7, Rb7, nb7, cb7, rfl, hi7, hc7, ho7⟩ := hr7.open
  have H7 := hide ((unhide H6).below hb7)
  have HI7 := hide hi7
  have HC7 := hide hc7
  have HO7 := hide ho7
  clear hb7 hi7 hc7 hr7 ho7
  go_upto_region 12 with (refine wpList_store_row rfl 33 (.tmp 25) (.tmp 126) rfl w7.heap.size #[.slice Ra7 na7 ca7, .slice Rb7 nb7 cb7] rfl rfl 33 _ (heap_alloc_new _ _) sizeArc rfl (one_two _ _ _ _ _ _) ?_)
  obtain ⟨x7, hx7⟩ : ∃ x, x = (w7.alloc (.cells #[.slice none 0 0, .slice none 0 0] 33)).setRow w7.heap.size #[.slice Ra7 na7 ca7, .slice Rb7 nb7 cb7] := ⟨_, rfl⟩
  obtain ⟨P7, hP7⟩ : ∃ P, P = w7.heap.size := ⟨_, rfl⟩
  have G7 := hide (show St w x7 B [⟨P7, Ra7, na7, ca7, Rb7, nb7, cb7, c⟩, ⟨P1, Ra1, na1, ca1, Rb1, nb1, cb1, b⟩, ⟨B, A, n, cap, A2, n2, cap2, a⟩] by rw [hx7, hP7]; exact (unhide H7).new (unhide HI7) ca7 cb7)
  rw [← hx7, ← hP7]
  clear hx7 hP7
  clear u6x0 v6x0 u6x1 v6x1
  have u7x0 : x7.cell? ⟨P7, 0, none⟩ = some (.slice Ra7 na7 ca7) := (unhide G7).c0 0 rfl
  have v7x0 : x7.cell? ⟨P7, 1, none⟩ = some (.slice Rb7 nb7 cb7) := (unhide G7).c1 0 rfl
  have u7x1 : x7.cell? ⟨P1, 0, none⟩ = some (.slice Ra1 na1 ca1) := (unhide G7).c0 1 rfl
  have v7x1 : x7.cell? ⟨P1, 1, none⟩ = some (.slice Rb1 nb1 cb1) := (unhide G7).c1 1 rfl
  have u7x2 : x7.cell? ⟨B, 0, none⟩ = some (.slice A n cap) := (unhide G7).c0 2 rfl
  have v7x2 : x7.cell? ⟨B, 1, none⟩ = some (.slice A2 n2 cap2) := (unhide G7).c1 2 rfl
  go_wp2_with fail
  refine (unhide CC1 _ _ _ _ _ _ _ ((unhide G7).at_ 0 rfl).i).mono ?_
  rintro e w8 ⟨rfl, hb8⟩
  have H8 := hide ((unhide G7).below hb8)
  clear hb8
  clear u7x0 v7x0 u7x1 v7x1 u7x2 v7x2
  have u8x0 : w8.cell? ⟨P7, 0, none⟩ = some (.slice Ra7 na7 ca7) := (unhide H8).c0 0 rfl
  have v8x0 : w8.cell? ⟨P7, 1, none⟩ = some (.slice Rb7 nb7 cb7) := (unhide H8).c1 0 rfl
  have u8x1 : w8.cell? ⟨P1, 0, none⟩ = some (.slice Ra1 na1 ca1) := (unhide H8).c0 1 rfl
  have v8x1 : w8.cell? ⟨P1, 1, none⟩ = some (.slice Rb1 nb1 cb1) := (unhide H8).c1 1 rfl
  have u8x2 : w8.cell? ⟨B, 0, none⟩ = some (.slice A n cap) := (unhide H8).c0 2 rfl
  have v8x2 : w8.cell? ⟨B, 1, none⟩ = some (.slice A2 n2 cap2) := (unhide H8).c1 2 rfl
  go_wp2_with fail
  refine (unhide CC2 _ _ _ _ _ _ _ ((unhide H8).at_ 0 rfl).i).mono ?_
  rintro e w9 ⟨rfl, hb9⟩
  have H9 := hide ((unhide H8).below hb9)
  clear hb9
  clear u8x0 v8x0 u8x1 v8x1 u8x2 v8x2
  have u9x0 : w9.cell? ⟨P7, 0, none⟩ = some (.slice Ra7 na7 ca7) := (unhide H9).c0 0 rfl
  have v9x0 : w9.cell? ⟨P7, 1, none⟩ = some (.slice Rb7 nb7 cb7) := (unhide H9).c1 0 rfl
  have u9x1 : w9.cell? ⟨P1, 0, none⟩ = some (.slice Ra1 na1 ca1) := (unhide H9).c0 1 rfl
  have v9x1 : w9.cell? ⟨P1, 1, none⟩ = some (.slice Rb1 nb1 cb1) := (unhide H9).c1 1 rfl
  have u9x2 : w9.cell? ⟨B, 0, none⟩ = some (.slice A n cap) := (unhide H9).c0 2 rfl
  have v9x2 : w9.cell? ⟨B, 1, none⟩ = some (.slice A2 n2 cap2) := (unhide H9).c1 2 rfl
  go_wp2_with fail
  refine (archBegun_any _ ((unhide HM).up (by have := (unhide H9).bel; rw [unhide HB] at this; exact this))).mono ?_
  rintro e w10 ⟨rfl, hb10⟩
  have H10 := hide ((unhide H9).below hb10)
  clear hb10
  clear u9x0 v9x0 u9x1 v9x1 u9x2 v9x2
  have u10x0 : w10.cell? ⟨P7, 0, none⟩ = some (.slice Ra7 na7 ca7) := (unhide H10).c0 0 rfl
  have v10x0 : w10.cell? ⟨P7, 1, none⟩ = some (.slice Rb7 nb7 cb7) := (unhide H10).c1 0 rfl
  have u10x1 : w10.cell? ⟨P1, 0, none⟩ = some (.slice Ra1 na1 ca1) := (unhide H10).c0 1 rfl
  have v10x1 : w10.cell? ⟨P1, 1, none⟩ = some (.slice Rb1 nb1 cb1) := (unhide H10).c1 1 rfl
  have u10x2 : w10.cell? ⟨B, 0, none⟩ = some (.slice A n cap) := (unhide H10).c0 2 rfl
  have v10x2 : w10.cell? ⟨B, 1, none⟩ = some (.slice A2 n2 cap2) := (unhide H10).c1 2 rfl
  go_wp2_with fail
  go_ret
  exact ⟨rfl, (unhide H10).bel⟩
end Go.Proofs.YtjpgoeimclipjaaGreat
namespace Go.Proofs.YtjpgoeimclipjaaGreat
open Go.RowKit Go.Lib Pl
attribute [local go_sem] ext_list app_list
set_option maxHeartbeats 8000000 in
set_option maxRecDepth 100000 in
theorem archTrue_1101 (A : Option Addr) (n cap : Nat) (A2 : Option Addr) (n2 cap2 : Nat) (a : Arc) (file text : Bytes) (k : Int) (other : Bytes) (m q : Int) (w : World) (h : ArcIn w A n A2 n2 a) (hz : ArcSz a) (hfl : file.length ≤ 140737488355328) (htl : text.length ≤ 9223372036854775807) (hk0 : -9223372036854775808 ≤ k) (hk1 : k ≤ 9223372036854775807) (hm0 : -9223372036854775808 ≤ m) (hm1 : m ≤ 9223372036854775807) (hq0 : -9223372036854775808 ≤ q) (hq1 : q ≤ 9223372036854775807) (hm : MaxLenIs w)
    (hput : (put a file text k).2 = 0) (hrng : (Pl.range (put a file text k).1 file m q).2 = 0) (hdrop : (drop a file).2 ≠ 0) (hsame : other = file) :
    Calls Tryz.prog 9 #[arcV A n cap A2 n2 cap2, S file, S text, I k, S other, I m, I q] w fun e w' => e = .returned (.bool true) ∧ Below w.heap.size w w' := by
  subst hsame
  have CP := fun (W : World) (hi : ArcIn W A n A2 n2 a) => put_any A n cap A2 n2 cap2 a other text k W hi hz hfl htl hk0 hk1
  have CD := fun (W : World) (hi : ArcIn W A n A2 n2 a) => drop_any A n cap A2 n2 cap2 a other W hi hz
  have CG := fun (W : World) (hi : ArcIn W A n A2 n2 a) => get_any A n cap A2 n2 cap2 a other W hi hz
  have hra1 := put_ra a other text k
  have hra2 := drop_ra a other
  obtain ⟨b, hb⟩ : ∃ b, b = (put a other text k).1 := ⟨_, rfl⟩
  obtain ⟨c, hc⟩ : ∃ c, c = (drop a other).1 := ⟨_, rfl⟩
  obtain ⟨tw, htw⟩ : ∃ t, t = (Pl.get a other).1 := ⟨_, rfl⟩
  obtain ⟨fw, hfw⟩ : ∃ t, t = (Pl.get a other).2 := ⟨_, rfl⟩
  have CB1 := fun (W : World) (A : Option Addr) (n cap : Nat) (A2 : Option Addr) (n2 cap2 : Nat) (hi : ArcIn W A n A2 n2 b) => get_any A n cap A2 n2 cap2 b other W hi (right_sz (by rw [hb]; exact hra1))
  rw [show Pl.get b other = (text, 0) from by rw [hb]; exact put_get hput] at CB1
  have CR := fun (W : World) (A : Option Addr) (n cap : Nat) (A2 : Option Addr) (n2 cap2 : Nat) (hi : ArcIn W A n A2 n2 b) => range_any A n cap A2 n2 cap2 b other m q W hi (right_sz (by rw [hb]; exact hra1)) hm0 hm1 hq0 hq1
  have CK := fun (W : World) (A : Option Addr) (n cap : Nat) (A2 : Option Addr) (n2 cap2 : Nat) (hi : ArcIn W A n A2 n2 b) => check_arch A n cap A2 n2 cap2 b W hi (right_sz (by rw [hb]; exact hra1))
  rw [(check_iff b).2 (by rw [hb]; exact hra1)] at CK
  obtain ⟨_, g1, g2, g3, g4⟩ := range_part hrng
  rw [put_get hput] at g3 g4
  simp only at g3 g4
  obtain ⟨i, rfl⟩ : ∃ i : Nat, m = (i : Int) := ⟨m.toNat, by omega⟩
  obtain ⟨j, rfl⟩ : ∃ j : Nat, q = (j : Int) := ⟨q.toNat, by omega⟩
  rw [Int.toNat_natCast, Int.toNat_natCast] at g4
  rw [show Pl.range b other (i : Int) (j : Int) = (Pl.slice text i (i + j), 0) from by rw [hb]; exact Prod.ext g4 hrng] at CR
  have c1 : ¬ (i : Int) < 0 := by omega
  have c2 : ¬ (j : Int) < 0 := by omega
  have c3 : ¬ (text.length : Int) < (i : Int) + (j : Int) := by omega
  have c5 : i ≤ i + j := by omega
  have c6 : i + j ≤ text.length := by omega
  clear g1 g2 g3 g4 hrng
  have e3 : IntKind.i64.wrap ((i : Int) + (j : Int)) = ((i + j : Nat) : Int) := by rw [show (i : Int) + (j : Int) = ((i + j : Nat) : Int) from by omega]; exact IntWalk.i64_in _ ⟨by omega, by omega⟩
  have e4 : wrap64 ((i : Int) + (j : Int)) = ((i + j : Nat) : Int) := by rw [show (i : Int) + (j : Int) = ((i + j : Nat) : Int) from by omega]; exact IntWalk.wrap64_in _ ⟨by omega, by omega⟩
  have E3 := hide e3
  have E4 := hide e4
  clear e3 e4
  rw [show put a other text k = (b, 0) from Prod.ext hb.symm hput] at CP
  obtain ⟨ed, hed⟩ : ∃ t, t = (drop a other).2 := ⟨_, rfl⟩
  rw [show drop a other = (c, ed) from Prod.ext hc.symm hed.symm] at CD
  rw [← hed] at hdrop
  have o1 : ((ed : Int) != 0) = true := by rw [bne_iff_ne]; omega
  have o2 : ((ed : Int) == 0) = false := by rw [beq_eq_false_iff_ne]; omega
  have o3 : ¬ (ed : Int) = 0 := by omega
  clear hed
  rw [← htw, ← hfw] at CG
  have CP := hide CP
  have CD := hide CD
  have CG := hide CG
  have CB1 := hide CB1
  have CR := hide CR
  have CK := hide CK
  clear hz hb hc htw hfw hra1 hra2 hput hdrop
  obtain ⟨B, hB⟩ : ∃ B, B = w.heap.size := ⟨_, rfl⟩
  obtain ⟨w0, hw0⟩ : ∃ w0, w0 = w.alloc (.cells #[.slice A n cap, .slice A2 n2 cap2] 33) := ⟨_, rfl⟩
  have H0 := hide (show St w w0 B [⟨B, A, n, cap, A2, n2, cap2, a⟩] by rw [hw0, hB]; exact St.box h cap cap2)
  have HB := hide hB
  have HW0 := hide hw0
  have HM := hide hm
  rw [← hB]
  clear hB hw0 hm
  go_enter Tryz.func9, Tryz.ntmps9
  go_upto_region 1 with fail
  rw [← unhide HW0, ← unhide HB]
  have u0x0 : w0.cell? ⟨B, 0, none⟩ = some (.slice A n cap) := (unhide H0).c0 0 rfl
  have v0x0 : w0.cell? ⟨B, 1, none⟩ = some (.slice A2 n2 cap2) := (unhide H0).c1 0 rfl
  go_wp2_with fail
  refine (unhide CP _ ((unhide H0).at_ 0 rfl).i).mono ?_
  rintro e w1 ⟨hr1, hb1⟩
  obtain ⟨Ra1, na1, ca1, Rb1, nb1, cb1, rfl, hi1, hc1, ho1⟩ := hr1.open
  have H1 := hide ((unhide H0).below hb1)
  have HI1 := hide hi1
  have HC1 := hide hc1
  have HO1 := hide ho1
  clear hb1 hi1 hc1 hr1 ho1
  go_upto_region 2 with (refine wpList_store_row rfl 33 (.tmp 15) (.tmp 37) rfl w1.heap.size #[.slice Ra1 na1 ca1, .slice Rb1 nb1 cb1] rfl rfl 33 _ (heap_alloc_new _ _) sizeArc rfl (one_two _ _ _ _ _ _) ?_)
  obtain ⟨x1, hx1⟩ : ∃ x, x = (w1.alloc (.cells #[.slice none 0 0, .slice none 0 0] 33)).setRow w1.heap.size #[.slice Ra1 na1 ca1, .slice Rb1 nb1 cb1] := ⟨_, rfl⟩
  obtain ⟨P1, hP1⟩ : ∃ P, P = w1.heap.size := ⟨_, rfl⟩
  have G1 := hide (show St w x1 B [⟨P1, Ra1, na1, ca1, Rb1, nb1, cb1, b⟩, ⟨B, A, n, cap, A2, n2, cap2, a⟩] by rw [hx1, hP1]; exact (unhide H1).new (unhide HI1) ca1 cb1)
  rw [← hx1, ← hP1]
  clear hx1 hP1
  clear u0x0 v0x0
  have u1x0 : x1.cell? ⟨P1, 0, none⟩ = some (.slice Ra1 na1 ca1) := (unhide G1).c0 0 rfl
  have v1x0 : x1.cell? ⟨P1, 1, none⟩ = some (.slice Rb1 nb1 cb1) := (unhide G1).c1 0 rfl
  have u1x1 : x1.cell? ⟨B, 0, none⟩ = some (.slice A n cap) := (unhide G1).c0 1 rfl
  have v1x1 : x1.cell? ⟨B, 1, none⟩ = some (.slice A2 n2 cap2) := (unhide G1).c1 1 rfl
  go_wp2_with fail
  refine (unhide CG _ ((unhide G1).at_ 1 rfl).i).mono ?_
  rintro e w2 ⟨rfl, hb2⟩
  have H2 := hide ((unhide G1).below hb2)
  clear hb2
  clear u1x0 v1x0 u1x1 v1x1
  have u2x0 : w2.cell? ⟨P1, 0, none⟩ = some (.slice Ra1 na1 ca1) := (unhide H2).c0 0 rfl
  have v2x0 : w2.cell? ⟨P1, 1, none⟩ = some (.slice Rb1 nb1 cb1) := (unhide H2).c1 0 rfl
  have u2x1 : w2.cell? ⟨B, 0, none⟩ = some (.slice A n cap) := (unhide H2).c0 1 rfl
  have v2x1 : w2.cell? ⟨B, 1, none⟩ = some (.slice A2 n2 cap2) := (unhide H2).c1 1 rfl
  go_wp2_with fail
  refine (unhide CB1 _ _ _ _ _ _ _ ((unhide H2).at_ 0 rfl).i).mono ?_
  rintro e w3 ⟨rfl, hb3⟩
  have H3 := hide ((unhide H2).below hb3)
  clear hb3
  clear u2x0 v2x0 u2x1 v2x1
  have u3x0 : w3.cell? ⟨P1, 0, none⟩ = some (.slice Ra1 na1 ca1) := (unhide H3).c0 0 rfl
  have v3x0 : w3.cell? ⟨P1, 1, none⟩ = some (.slice Rb1 nb1 cb1) := (unhide H3).c1 0 rfl
  have u3x1 : w3.cell? ⟨B, 0, none⟩ = some (.slice A n cap) := (unhide H3).c0 1 rfl
  have v3x1 : w3.cell? ⟨B, 1, none⟩ = some (.slice A2 n2 cap2) := (unhide H3).c1 1 rfl
  go_wp2_with fail
  refine (unhide CB1 _ _ _ _ _ _ _ ((unhide H3).at_ 0 rfl).i).mono ?_
  rintro e w4 ⟨rfl, hb4⟩
  have H4 := hide ((unhide H3).below hb4)
  clear hb4
  clear u3x0 v3x0 u3x1 v3x1
  have u4x0 : w4.cell? ⟨P1, 0, none⟩ = some (.slice Ra1 na1 ca1) := (unhide H4).c0 0 rfl
  have v4x0 : w4.cell? ⟨P1, 1, none⟩ = some (.slice Rb1 nb1 cb1) := (unhide H4).c1 0 rfl
  have u4x1 : w4.cell? ⟨B, 0, none⟩ = some (.slice A n cap) := (unhide H4).c0 1 rfl
  have v4x1 : w4.cell? ⟨B, 1, none⟩ = some (.slice A2 n2 cap2) := (unhide H4).c1 1 rfl
  go_wp2_with fail
  refine (unhide CR _ _ _ _ _ _ _ ((unhide H4).at_ 0 rfl).i).mono ?_
  rintro e w5 ⟨rfl, hb5⟩
  have H5 := hide ((unhide H4).below hb5)
  clear hb5
  clear u4x0 v4x0 u4x1 v4x1
  have u5x0 : w5.cell? ⟨P1, 0, none⟩ = some (.slice Ra1 na1 ca1) := (unhide H5).c0 0 rfl
  have v5x0 : w5.cell? ⟨P1, 1, none⟩ = some (.slice Rb1 nb1 cb1) := (unhide H5).c1 0 rfl
  have u5x1 : w5.cell? ⟨B, 0, none⟩ = some (.slice A n cap) := (unhide H5).c0 1 rfl
  have v5x1 : w5.cell? ⟨B, 1, none⟩ = some (.slice A2 n2 cap2) := (unhide H5).c1 1 rfl
  have e3 := unhide E3
  have e4 := unhide E4
  go_wp2_with fail
  refine (unhide CK _ _ _ _ _ _ _ ((unhide H5).at_ 0 rfl).i).mono ?_
  rintro e w6 ⟨rfl, hb6⟩
  have H6 := hide ((unhide H5).below hb6)
  clear hb6
  clear u5x0 v5x0 u5x1 v5x1
  have u6x0 : w6.cell? ⟨P1, 0, none⟩ = some (.slice Ra1 na1 ca1) := (unhide H6).c0 0 rfl
  have v6x0 : w6.cell? ⟨P1, 1, none⟩ = some (.slice Rb1 nb1 cb1) := (unhide H6).c1 0 rfl
  have u6x1 : w6.cell? ⟨B, 0, none⟩ = some (.slice A n cap) := (unhide H6).c0 1 rfl
  have v6x1 : w6.cell? ⟨B, 1, none⟩ = some (.slice A2 n2 cap2) := (unhide H6).c1 1 rfl
  clear e3 e4
  go_wp2_with fail
  refine (unhide CD _ ((unhide H6).at_ 1 rfl).i).mono ?_
  rintro e w7 ⟨hr7, hb7⟩
  obtain ⟨Ra7, na7, ca7, Rb7, nb7, cb7, rfl, hi7, hc7, ho7⟩ := hr7.open
  have H7 := hide ((unhide H6).below hb7)
  have HI7 := hide hi7
  have HC7 := hide hc7
  have HO7 := hide ho7
  clear hb7 hi7 hc7 hr7 ho7
  go_upto_region 12 with (refine wpList_store_row rfl 33 (.tmp 25) (.tmp 126) rfl w7.heap.size #[.slice Ra7 na7 ca7, .slice Rb7 nb7 cb7] rfl rfl 33 _ (heap_alloc_new _ _) sizeArc rfl (one_two _ _ _ _ _ _) ?_)
  obtain ⟨x7, hx7⟩ : ∃ x, x = (w7.alloc (.cells #[.slice none 0 0, .slice none 0 0] 33)).setRow w7.heap.size #[.slice Ra7 na7 ca7, .slice Rb7 nb7 cb7] := ⟨_, rfl⟩
  obtain ⟨P7, hP7⟩ : ∃ P, P = w7.heap.size := ⟨_, rfl⟩
  have G7 := hide (show St w x7 B [⟨P7, Ra7, na7, ca7, Rb7, nb7, cb7, c⟩, ⟨P1, Ra1, na1, ca1, Rb1, nb1, cb1, b⟩, ⟨B, A, n, cap, A2, n2, cap2, a⟩] by rw [hx7, hP7]; exact (unhide H7).new (unhide HI7) ca7 cb7)
  rw [← hx7, ← hP7]
  clear hx7 hP7
  clear u6x0 v6x0 u6x1 v6x1
  have u7x0 : x7.cell? ⟨P7, 0, none⟩ = some (.slice Ra7 na7 ca7) := (unhide G7).c0 0 rfl
  have v7x0 : x7.cell? ⟨P7, 1, none⟩ = some (.slice Rb7 nb7 cb7) := (unhide G7).c1 0 rfl
  have u7x1 : x7.cell? ⟨P1, 0, none⟩ = some (.slice Ra1 na1 ca1) := (unhide G7).c0 1 rfl
  have v7x1 : x7.cell? ⟨P1, 1, none⟩ = some (.slice Rb1 nb1 cb1) := (unhide G7).c1 1 rfl
  have u7x2 : x7.cell? ⟨B, 0, none⟩ = some (.slice A n cap) := (unhide G7).c0 2 rfl
  have v7x2 : x7.cell? ⟨B, 1, none⟩ = some (.slice A2 n2 cap2) := (unhide G7).c1 2 rfl
  go_wp2_with fail
  refine (archBegun_any _ ((unhide HM).up (by have := (unhide G7).bel; rw [unhide HB] at this; exact this))).mono ?_
  rintro e w8 ⟨rfl, hb8⟩
  have H8 := hide ((unhide G7).below hb8)
  clear hb8
  clear u7x0 v7x0 u7x1 v7x1 u7x2 v7x2
  have u8x0 : w8.cell? ⟨P7, 0, none⟩ = some (.slice Ra7 na7 ca7) := (unhide H8).c0 0 rfl
  have v8x0 : w8.cell? ⟨P7, 1, none⟩ = some (.slice Rb7 nb7 cb7) := (unhide H8).c1 0 rfl
  have u8x1 : w8.cell? ⟨P1, 0, none⟩ = some (.slice Ra1 na1 ca1) := (unhide H8).c0 1 rfl
  have v8x1 : w8.cell? ⟨P1, 1, none⟩ = some (.slice Rb1 nb1 cb1) := (unhide H8).c1 1 rfl
  have u8x2 : w8.cell? ⟨B, 0, none⟩ = some (.slice A n cap) := (unhide H8).c0 2 rfl
  have v8x2 : w8.cell? ⟨B, 1, none⟩ = some (.slice A2 n2 cap2) := (unhide H8).c1 2 rfl
  go_wp2_with fail
  go_ret
  exact ⟨rfl, (unhide H8).bel⟩
set_option maxHeartbeats 8000000 in
set_option maxRecDepth 100000 in
theorem archTrue_1100 (A : Option Addr) (n cap : Nat) (A2 : Option Addr) (n2 cap2 : Nat) (a : Arc) (file text : Bytes) (k : Int) (other : Bytes) (m q : Int) (w : World) (h : ArcIn w A n A2 n2 a) (hz : ArcSz a) (hfl : file.length ≤ 140737488355328) (htl : text.length ≤ 9223372036854775807) (hk0 : -9223372036854775808 ≤ k) (hk1 : k ≤ 9223372036854775807) (hm0 : -9223372036854775808 ≤ m) (hm1 : m ≤ 9223372036854775807) (hq0 : -9223372036854775808 ≤ q) (hq1 : q ≤ 9223372036854775807) (hm : MaxLenIs w)
    (hput : (put a file text k).2 = 0) (hrng : (Pl.range (put a file text k).1 file m q).2 = 0) (hdrop : (drop a file).2 ≠ 0) (hsame : other ≠ file) :
    Calls Tryz.prog 9 #[arcV A n cap A2 n2 cap2, S file, S text, I k, S other, I m, I q] w fun e w' => e = .returned (.bool true) ∧ Below w.heap.size w w' := by
  have CP := fun (W : World) (hi : ArcIn W A n A2 n2 a) => put_any A n cap A2 n2 cap2 a file text k W hi hz hfl htl hk0 hk1
  have CD := fun (W : World) (hi : ArcIn W A n A2 n2 a) => drop_any A n cap A2 n2 cap2 a file W hi hz
  have CG := fun (W : World) (hi : ArcIn W A n A2 n2 a) => get_any A n cap A2 n2 cap2 a other W hi hz
  have hra1 := put_ra a file text k
  have hra2 := drop_ra a file
  obtain ⟨b, hb⟩ : ∃ b, b = (put a file text k).1 := ⟨_, rfl⟩
  obtain ⟨c, hc⟩ : ∃ c, c = (drop a file).1 := ⟨_, rfl⟩
  obtain ⟨tw, htw⟩ : ∃ t, t = (Pl.get a other).1 := ⟨_, rfl⟩
  obtain ⟨fw, hfw⟩ : ∃ t, t = (Pl.get a other).2 := ⟨_, rfl⟩
  have CB1 := fun (W : World) (A : Option Addr) (n cap : Nat) (A2 : Option Addr) (n2 cap2 : Nat) (hi : ArcIn W A n A2 n2 b) => get_any A n cap A2 n2 cap2 b file W hi (right_sz (by rw [hb]; exact hra1))
  rw [show Pl.get b file = (text, 0) from by rw [hb]; exact put_get hput] at CB1
  have CB2 := fun (W : World) (A : Option Addr) (n cap : Nat) (A2 : Option Addr) (n2 cap2 : Nat) (hi : ArcIn W A n A2 n2 b) => get_any A n cap A2 n2 cap2 b other W hi (right_sz (by rw [hb]; exact hra1))
  rw [show Pl.get b other = (tw, fw) from by rw [hb, put_other hput hsame, htw, hfw]] at CB2
  have CR := fun (W : World) (A : Option Addr) (n cap : Nat) (A2 : Option Addr) (n2 cap2 : Nat) (hi : ArcIn W A n A2 n2 b) => range_any A n cap A2 n2 cap2 b file m q W hi (right_sz (by rw [hb]; exact hra1)) hm0 hm1 hq0 hq1
  have CK := fun (W : World) (A : Option Addr) (n cap : Nat) (A2 : Option Addr) (n2 cap2 : Nat) (hi : ArcIn W A n A2 n2 b) => check_arch A n cap A2 n2 cap2 b W hi (right_sz (by rw [hb]; exact hra1))
  rw [(check_iff b).2 (by rw [hb]; exact hra1)] at CK
  obtain ⟨_, g1, g2, g3, g4⟩ := range_part hrng
  rw [put_get hput] at g3 g4
  simp only at g3 g4
  obtain ⟨i, rfl⟩ : ∃ i : Nat, m = (i : Int) := ⟨m.toNat, by omega⟩
  obtain ⟨j, rfl⟩ : ∃ j : Nat, q = (j : Int) := ⟨q.toNat, by omega⟩
  rw [Int.toNat_natCast, Int.toNat_natCast] at g4
  rw [show Pl.range b file (i : Int) (j : Int) = (Pl.slice text i (i + j), 0) from by rw [hb]; exact Prod.ext g4 hrng] at CR
  have c1 : ¬ (i : Int) < 0 := by omega
  have c2 : ¬ (j : Int) < 0 := by omega
  have c3 : ¬ (text.length : Int) < (i : Int) + (j : Int) := by omega
  have c5 : i ≤ i + j := by omega
  have c6 : i + j ≤ text.length := by omega
  clear g1 g2 g3 g4 hrng
  have e3 : IntKind.i64.wrap ((i : Int) + (j : Int)) = ((i + j : Nat) : Int) := by rw [show (i : Int) + (j : Int) = ((i + j : Nat) : Int) from by omega]; exact IntWalk.i64_in _ ⟨by omega, by omega⟩
  have e4 : wrap64 ((i : Int) + (j : Int)) = ((i + j : Nat) : Int) := by rw [show (i : Int) + (j : Int) = ((i + j : Nat) : Int) from by omega]; exact IntWalk.wrap64_in _ ⟨by omega, by omega⟩
  have E3 := hide e3
  have E4 := hide e4
  clear e3 e4
  rw [show put a file text k = (b, 0) from Prod.ext hb.symm hput] at CP
  obtain ⟨ed, hed⟩ : ∃ t, t = (drop a file).2 := ⟨_, rfl⟩
  rw [show drop a file = (c, ed) from Prod.ext hc.symm hed.symm] at CD
  rw [← hed] at hdrop
  have o1 : ((ed : Int) != 0) = true := by rw [bne_iff_ne]; omega
  have o2 : ((ed : Int) == 0) = false := by rw [beq_eq_false_iff_ne]; omega
  have o3 : ¬ (ed : Int) = 0 := by omega
  clear hed
  rw [← htw, ← hfw] at CG
  have s1 : (other == file) = false := by rw [beq_eq_false_iff_ne]; exact hsame
  have s2 : (other != file) = true := by rw [bne_iff_ne]; exact hsame
  clear hsame
  have CP := hide CP
  have CD := hide CD
  have CG := hide CG
  have CB1 := hide CB1
  have CR := hide CR
  have CK := hide CK
  have CB2 := hide CB2
  clear hz hb hc htw hfw hra1 hra2 hput hdrop
  obtain ⟨B, hB⟩ : ∃ B, B = w.heap.size := ⟨_, rfl⟩
  obtain ⟨w0, hw0⟩ : ∃ w0, w0 = w.alloc (.cells #[.slice A n cap, .slice A2 n2 cap2] 33) := ⟨_, rfl⟩
  have H0 := hide (show St w w0 B [⟨B, A, n, cap, A2, n2, cap2, a⟩] by rw [hw0, hB]; exact St.box h cap cap2)
  have HB := hide hB
  have HW0 := hide hw0
  have HM := hide hm
  rw [← hB]
  clear hB hw0 hm
  go_enter Tryz.func9, Tryz.ntmps9
  go_upto_region 1 with fail
  rw [← unhide HW0, ← unhide HB]
  have u0x0 : w0.cell? ⟨B, 0, none⟩ = some (.slice A n cap) := (unhide H0).c0 0 rfl
  have v0x0 : w0.cell? ⟨B, 1, none⟩ = some (.slice A2 n2 cap2) := (unhide H0).c1 0 rfl
  go_wp2_with fail
  refine (unhide CP _ ((unhide H0).at_ 0 rfl).i).mono ?_
  rintro e w1 ⟨hr1, hb1⟩
  obtain ⟨Ra1, na1, ca1, Rb1, nb1, cb1, rfl, hi1, hc1, ho1⟩ := hr1.open
  have H1 := hide ((unhide H0).below hb1)
  have HI1 := hide hi1
  have HC1 := hide hc1
  have HO1 := hide ho1
  clear hb1 hi1 hc1 hr1 ho1
  go_upto_region 2 with (refine wpList_store_row rfl 33 (.tmp 15) (.tmp 37) rfl w1.heap.size #[.slice Ra1 na1 ca1, .slice Rb1 nb1 cb1] rfl rfl 33 _ (heap_alloc_new _ _) sizeArc rfl (one_two _ _ _ _ _ _) ?_)
  obtain ⟨x1, hx1⟩ : ∃ x, x = (w1.alloc (.cells #[.slice none 0 0, .slice none 0 0] 33)).setRow w1.heap.size #[.slice Ra1 na1 ca1, .slice Rb1 nb1 cb1] := ⟨_, rfl⟩
  obtain ⟨P1, hP1⟩ : ∃ P, P = w1.heap.size := ⟨_, rfl⟩
  have G1 := hide (show St w x1 B [⟨P1, Ra1, na1, ca1, Rb1, nb1, cb1, b⟩, ⟨B, A, n, cap, A2, n2, cap2, a⟩] by rw [hx1, hP1]; exact (unhide H1).new (unhide HI1) ca1 cb1)
  rw [← hx1, ← hP1]
  clear hx1 hP1
  clear u0x0 v0x0
  have u1x0 : x1.cell? ⟨P1, 0, none⟩ = some (.slice Ra1 na1 ca1) := (unhide G1).c0 0 rfl
  have v1x0 : x1.cell? ⟨P1, 1, none⟩ = some (.slice Rb1 nb1 cb1) := (unhide G1).c1 0 rfl
  have u1x1 : x1.cell? ⟨B, 0, none⟩ = some (.slice A n cap) := (unhide G1).c0 1 rfl
  have v1x1 : x1.cell? ⟨B, 1, none⟩ = some (.slice A2 n2 cap2) := (unhide G1).c1 1 rfl
  go_wp2_with fail
  refine (unhide CG _ ((unhide G1).at_ 1 rfl).i).mono ?_
  rintro e w2 ⟨rfl, hb2⟩
  have H2 := hide ((unhide G1).below hb2)
  clear hb2
  clear u1x0 v1x0 u1x1 v1x1
  have u2x0 : w2.cell? ⟨P1, 0, none⟩ = some (.slice Ra1 na1 ca1) := (unhide H2).c0 0 rfl
  have v2x0 : w2.cell? ⟨P1, 1, none⟩ = some (.slice Rb1 nb1 cb1) := (unhide H2).c1 0 rfl
  have u2x1 : w2.cell? ⟨B, 0, none⟩ = some (.slice A n cap) := (unhide H2).c0 1 rfl
  have v2x1 : w2.cell? ⟨B, 1, none⟩ = some (.slice A2 n2 cap2) := (unhide H2).c1 1 rfl
  go_wp2_with fail
  refine (unhide CB1 _ _ _ _ _ _ _ ((unhide H2).at_ 0 rfl).i).mono ?_
  rintro e w3 ⟨rfl, hb3⟩
  have H3 := hide ((unhide H2).below hb3)
  clear hb3
  clear u2x0 v2x0 u2x1 v2x1
  have u3x0 : w3.cell? ⟨P1, 0, none⟩ = some (.slice Ra1 na1 ca1) := (unhide H3).c0 0 rfl
  have v3x0 : w3.cell? ⟨P1, 1, none⟩ = some (.slice Rb1 nb1 cb1) := (unhide H3).c1 0 rfl
  have u3x1 : w3.cell? ⟨B, 0, none⟩ = some (.slice A n cap) := (unhide H3).c0 1 rfl
  have v3x1 : w3.cell? ⟨B, 1, none⟩ = some (.slice A2 n2 cap2) := (unhide H3).c1 1 rfl
  go_wp2_with fail
  refine (unhide CB2 _ _ _ _ _ _ _ ((unhide H3).at_ 0 rfl).i).mono ?_
  rintro e w4 ⟨rfl, hb4⟩
  have H4 := hide ((unhide H3).below hb4)
  clear hb4
  clear u3x0 v3x0 u3x1 v3x1
  have u4x0 : w4.cell? ⟨P1, 0, none⟩ = some (.slice Ra1 na1 ca1) := (unhide H4).c0 0 rfl
  have v4x0 : w4.cell? ⟨P1, 1, none⟩ = some (.slice Rb1 nb1 cb1) := (unhide H4).c1 0 rfl
  have u4x1 : w4.cell? ⟨B, 0, none⟩ = some (.slice A n cap) := (unhide H4).c0 1 rfl
  have v4x1 : w4.cell? ⟨B, 1, none⟩ = some (.slice A2 n2 cap2) := (unhide H4).c1 1 rfl
  go_wp2_with fail
  refine (unhide CR _ _ _ _ _ _ _ ((unhide H4).at_ 0 rfl).i).mono ?_
  rintro e w5 ⟨rfl, hb5⟩
  have H5 := hide ((unhide H4).below hb5)
  clear hb5
  clear u4x0 v4x0 u4x1 v4x1
  have u5x0 : w5.cell? ⟨P1, 0, none⟩ = some (.slice Ra1 na1 ca1) := (unhide H5).c0 0 rfl
  have v5x0 : w5.cell? ⟨P1, 1, none⟩ = some (.slice Rb1 nb1 cb1) := (unhide H5).c1 0 rfl
  have u5x1 : w5.cell? ⟨B, 0, none⟩ = some (.slice A n cap) := (unhide H5).c0 1 rfl
  have v5x1 : w5.cell? ⟨B, 1, none⟩ = some (.slice A2 n2 cap2) := (unhide H5).c1 1 rfl
  have e3 := unhide E3
  have e4 := unhide E4
  go_wp2_with fail
  refine (unhide CK _ _ _ _ _ _ _ ((unhide H5).at_ 0 rfl).i).mono ?_
  rintro e w6 ⟨rfl, hb6⟩
  have H6 := hide ((unhide H5).below hb6)
  clear hb6
  clear u5x0 v5x0 u5x1 v5x1
  have u6x0 : w6.cell? ⟨P1, 0, none⟩ = some (.slice Ra1 na1 ca1) := (unhide H6).c0 0 rfl
  have v6x0 : w6.cell? ⟨P1, 1, none⟩ = some (.slice Rb1 nb1 cb1) := (unhide H6).c1 0 rfl
  have u6x1 : w6.cell? ⟨B, 0, none⟩ = some (.slice A n cap) := (unhide H6).c0 1 rfl
  have v6x1 : w6.cell? ⟨B, 1, none⟩ = some (.slice A2 n2 cap2) := (unhide H6).c1 1 rfl
  clear e3 e4
  go_wp2_with fail
  refine (unhide CD _ ((unhide H6).at_ 1 rfl).i).mono ?_
  rintro e w7 ⟨hr7, hb7⟩
  obtain ⟨Ra7, na7, ca7, Rb7, nb7, cb7, rfl, hi7, hc7, ho7⟩ := hr7.open
  have H7 := hide ((unhide H6).below hb7)
  have HI7 := hide hi7
  have HC7 := hide hc7
  have HO7 := hide ho7
  clear hb7 hi7 hc7 hr7 ho7
  go_upto_region 12 with (refine wpList_store_row rfl 33 (.tmp 25) (.tmp 126) rfl w7.heap.size #[.slice Ra7 na7 ca7, .slice Rb7 nb7 cb7] rfl rfl 33 _ (heap_alloc_new _ _) sizeArc rfl (one_two _ _ _ _ _ _) ?_)
  obtain ⟨x7, hx7⟩ : ∃ x, x = (w7.alloc (.cells #[.slice none 0 0, .slice none 0 0] 33)).setRow w7.heap.size #[.slice Ra7 na7 ca7, .slice Rb7 nb7 cb7] := ⟨_, rfl⟩
  obtain ⟨P7, hP7⟩ : ∃ P, P = w7.heap.size := ⟨_, rfl⟩
  have G7 := hide (show St w x7 B [⟨P7, Ra7, na7, ca7, Rb7, nb7, cb7, c⟩, ⟨P1, Ra1, na1, ca1, Rb1, nb1, cb1, b⟩, ⟨B, A, n, cap, A2, n2, cap2, a⟩] by rw [hx7, hP7]; exact (unhide H7).new (unhide HI7) ca7 cb7)
  rw [← hx7, ← hP7]
  clear hx7 hP7
  clear u6x0 v6x0 u6x1 v6x1
  have u7x0 : x7.cell? ⟨P7, 0, none⟩ = some (.slice Ra7 na7 ca7) := (unhide G7).c0 0 rfl
  have v7x0 : x7.cell? ⟨P7, 1, none⟩ = some (.slice Rb7 nb7 cb7) := (unhide G7).c1 0 rfl
  have u7x1 : x7.cell? ⟨P1, 0, none⟩ = some (.slice Ra1 na1 ca1) := (unhide G7).c0 1 rfl
  have v7x1 : x7.cell? ⟨P1, 1, none⟩ = some (.slice Rb1 nb1 cb1) := (unhide G7).c1 1 rfl
  have u7x2 : x7.cell? ⟨B, 0, none⟩ = some (.slice A n cap) := (unhide G7).c0 2 rfl
  have v7x2 : x7.cell? ⟨B, 1, none⟩ = some (.slice A2 n2 cap2) := (unhide G7).c1 2 rfl
  go_wp2_with fail
  refine (archBegun_any _ ((unhide HM).up (by have := (unhide G7).bel; rw [unhide HB] at this; exact this))).mono ?_
  rintro e w8 ⟨rfl, hb8⟩
  have H8 := hide ((unhide G7).below hb8)
  clear hb8
  clear u7x0 v7x0 u7x1 v7x1 u7x2 v7x2
  have u8x0 : w8.cell? ⟨P7, 0, none⟩ = some (.slice Ra7 na7 ca7) := (unhide H8).c0 0 rfl
  have v8x0 : w8.cell? ⟨P7, 1, none⟩ = some (.slice Rb7 nb7 cb7) := (unhide H8).c1 0 rfl
  have u8x1 : w8.cell? ⟨P1, 0, none⟩ = some (.slice Ra1 na1 ca1) := (unhide H8).c0 1 rfl
  have v8x1 : w8.cell? ⟨P1, 1, none⟩ = some (.slice Rb1 nb1 cb1) := (unhide H8).c1 1 rfl
  have u8x2 : w8.cell? ⟨B, 0, none⟩ = some (.slice A n cap) := (unhide H8).c0 2 rfl
  have v8x2 : w8.cell? ⟨B, 1, none⟩ = some (.slice A2 n2 cap2) := (unhide H8).c1 2 rfl
  go_wp2_with fail
  go_ret
  exact ⟨rfl, (unhide H8).bel⟩
end Go.Proofs.YtjpgoeimclipjaaGreat
namespace Go.Proofs.YtjpgoeimclipjaaGreat
open Go.RowKit Go.Lib Pl
attribute [local go_sem] ext_list app_list
set_option maxHeartbeats 8000000 in
set_option maxRecDepth 100000 in
theorem archTrue_1011 (A : Option Addr) (n cap : Nat) (A2 : Option Addr) (n2 cap2 : Nat) (a : Arc) (file text : Bytes) (k : Int) (other : Bytes) (m q : Int) (w : World) (h : ArcIn w A n A2 n2 a) (hz : ArcSz a) (hfl : file.length ≤ 140737488355328) (htl : text.length ≤ 9223372036854775807) (hk0 : -9223372036854775808 ≤ k) (hk1 : k ≤ 9223372036854775807) (hm0 : -9223372036854775808 ≤ m) (hm1 : m ≤ 9223372036854775807) (hq0 : -9223372036854775808 ≤ q) (hq1 : q ≤ 9223372036854775807) (hm : MaxLenIs w)
    (hput : (put a file text k).2 = 0) (hrng : (Pl.range (put a file text k).1 file m q).2 ≠ 0) (hdrop : (drop a file).2 = 0) (hsame : other = file) :
    Calls Tryz.prog 9 #[arcV A n cap A2 n2 cap2, S file, S text, I k, S other, I m, I q] w fun e w' => e = .returned (.bool true) ∧ Below w.heap.size w w' := by
  subst hsame
  have CP := fun (W : World) (hi : ArcIn W A n A2 n2 a) => put_any A n cap A2 n2 cap2 a other text k W hi hz hfl htl hk0 hk1
  have CD := fun (W : World) (hi : ArcIn W A n A2 n2 a) => drop_any A n cap A2 n2 cap2 a other W hi hz
  have CG := fun (W : World) (hi : ArcIn W A n A2 n2 a) => get_any A n cap A2 n2 cap2 a other W hi hz
  have hra1 := put_ra a other text k
  have hra2 := drop_ra a other
  obtain ⟨b, hb⟩ : ∃ b, b = (put a other text k).1 := ⟨_, rfl⟩
  obtain ⟨c, hc⟩ : ∃ c, c = (drop a other).1 := ⟨_, rfl⟩
  obtain ⟨tw, htw⟩ : ∃ t, t = (Pl.get a other).1 := ⟨_, rfl⟩
  obtain ⟨fw, hfw⟩ : ∃ t, t = (Pl.get a other).2 := ⟨_, rfl⟩
  have CB1 := fun (W : World) (A : Option Addr) (n cap : Nat) (A2 : Option Addr) (n2 cap2 : Nat) (hi : ArcIn W A n A2 n2 b) => get_any A n cap A2 n2 cap2 b other W hi (right_sz (by rw [hb]; exact hra1))
  rw [show Pl.get b other = (text, 0) from by rw [hb]; exact put_get hput] at CB1
  have CR := fun (W : World) (A : Option Addr) (n cap : Nat) (A2 : Option Addr) (n2 cap2 : Nat) (hi : ArcIn W A n A2 n2 b) => range_any A n cap A2 n2 cap2 b other m q W hi (right_sz (by rw [hb]; exact hra1)) hm0 hm1 hq0 hq1
  have CK := fun (W : World) (A : Option Addr) (n cap : Nat) (A2 : Option Addr) (n2 cap2 : Nat) (hi : ArcIn W A n A2 n2 b) => check_arch A n cap A2 n2 cap2 b W hi (right_sz (by rw [hb]; exact hra1))
  rw [(check_iff b).2 (by rw [hb]; exact hra1)] at CK
  obtain ⟨tr, htr⟩ : ∃ t, t = (Pl.range b other m q).1 := ⟨_, rfl⟩
  obtain ⟨er, her⟩ : ∃ t, t = (Pl.range b other m q).2 := ⟨_, rfl⟩
  rw [← htr, ← her] at CR
  rw [← hb, ← her] at hrng
  have f1 : ((er : Int) != 0) = true := by rw [bne_iff_ne]; omega
  have f2 : ((er : Int) == 0) = false := by rw [beq_eq_false_iff_ne]; omega
  have f3 : ¬ (er : Int) = 0 := by omega
  clear htr her hrng
  rw [show put a other text k = (b, 0) from Prod.ext hb.symm hput] at CP
  have CC1 := fun (W : World) (A : Option Addr) (n cap : Nat) (A2 : Option Addr) (n2 cap2 : Nat) (hi : ArcIn W A n A2 n2 c) => get_any A n cap A2 n2 cap2 c other W hi (right_sz (by rw [hc]; exact hra2))
  rw [show Pl.get c other = ([], 5) from by rw [hc]; exact drop_get hdrop] at CC1
  rw [show drop a other = (c, 0) from Prod.ext hc.symm hdrop] at CD
  rw [← htw, ← hfw] at CG
  have CP := hide CP
  have CD := hide CD
  have CG := hide CG
  have CB1 := hide CB1
  have CR := hide CR
  have CK := hide CK
  have CC1 := hide CC1
  clear hz hb hc htw hfw hra1 hra2 hput hdrop
  obtain ⟨B, hB⟩ : ∃ B, B = w.heap.size := ⟨_, rfl⟩
  obtain ⟨w0, hw0⟩ : ∃ w0, w0 = w.alloc (.cells #[.slice A n cap, .slice A2 n2 cap2] 33) := ⟨_, rfl⟩
  have H0 := hide (show St w w0 B [⟨B, A, n, cap, A2, n2, cap2, a⟩] by rw [hw0, hB]; exact St.box h cap cap2)
  have HB := hide hB
  have HW0 := hide hw0
  have HM := hide hm
  rw [← hB]
  clear hB hw0 hm
  go_enter Tryz.func9, Tryz.ntmps9
  go_upto_region 1 with fail
  rw [← unhide HW0, ← unhide HB]
  have u0x0 : w0.cell? ⟨B, 0, none⟩ = some (.slice A n cap) := (unhide H0).c0 0 rfl
  have v0x0 : w0.cell? ⟨B, 1, none⟩ = some (.slice A2 n2 cap2) := (unhide H0).c1 0 rfl
  go_wp2_with fail
  refine (unhide CP _ ((unhide H0).at_ 0 rfl).i).mono ?_
  rintro e w1 ⟨hr1, hb1⟩
  obtain ⟨Ra1, na1, ca1, Rb1, nb1, cb1, rfl, hi1, hc1, ho1⟩ := hr1.open
  have H1 := hide ((unhide H0).below hb1)
  have HI1 := hide hi1
  have HC1 := hide hc1
  have HO1 := hide ho1
  clear hb1 hi1 hc1 hr1 ho1
  go_upto_region 2 with (refine wpList_store_row rfl 33 (.tmp 15) (.tmp 37) rfl w1.heap.size #[.slice Ra1 na1 ca1, .slice Rb1 nb1 cb1] rfl rfl 33 _ (heap_alloc_new _ _) sizeArc rfl (one_two _ _ _ _ _ _) ?_)
  obtain ⟨x1, hx1⟩ : ∃ x, x = (w1.alloc (.cells #[.slice none 0 0, .slice none 0 0] 33)).setRow w1.heap.size #[.slice Ra1 na1 ca1, .slice Rb1 nb1 cb1] := ⟨_, rfl⟩
  obtain ⟨P1, hP1⟩ : ∃ P, P = w1.heap.size := ⟨_, rfl⟩
  have G1 := hide (show St w x1 B [⟨P1, Ra1, na1, ca1, Rb1, nb1, cb1, b⟩, ⟨B, A, n, cap, A2, n2, cap2, a⟩] by rw [hx1, hP1]; exact (unhide H1).new (unhide HI1) ca1 cb1)
  rw [← hx1, ← hP1]
  clear hx1 hP1
  clear u0x0 v0x0
  have u1x0 : x1.cell? ⟨P1, 0, none⟩ = some (.slice Ra1 na1 ca1) := (unhide G1).c0 0 rfl
  have v1x0 : x1.cell? ⟨P1, 1, none⟩ = some (.slice Rb1 nb1 cb1) := (unhide G1).c1 0 rfl
  have u1x1 : x1.cell? ⟨B, 0, none⟩ = some (.slice A n cap) := (unhide G1).c0 1 rfl
  have v1x1 : x1.cell? ⟨B, 1, none⟩ = some (.slice A2 n2 cap2) := (unhide G1).c1 1 rfl
  go_wp2_with fail
  refine (unhide CG _ ((unhide G1).at_ 1 rfl).i).mono ?_
  rintro e w2 ⟨rfl, hb2⟩
  have H2 := hide ((unhide G1).below hb2)
  clear hb2
  clear u1x0 v1x0 u1x1 v1x1
  have u2x0 : w2.cell? ⟨P1, 0, none⟩ = some (.slice Ra1 na1 ca1) := (unhide H2).c0 0 rfl
  have v2x0 : w2.cell? ⟨P1, 1, none⟩ = some (.slice Rb1 nb1 cb1) := (unhide H2).c1 0 rfl
  have u2x1 : w2.cell? ⟨B, 0, none⟩ = some (.slice A n cap) := (unhide H2).c0 1 rfl
  have v2x1 : w2.cell? ⟨B, 1, none⟩ = some (.slice A2 n2 cap2) := (unhide H2).c1 1 rfl
  go_wp2_with fail
  refine (unhide CB1 _ _ _ _ _ _ _ ((unhide H2).at_ 0 rfl).i).mono ?_
  rintro e w3 ⟨rfl, hb3⟩
  have H3 := hide ((unhide H2).below hb3)
  clear hb3
  clear u2x0 v2x0 u2x1 v2x1
  have u3x0 : w3.cell? ⟨P1, 0, none⟩ = some (.slice Ra1 na1 ca1) := (unhide H3).c0 0 rfl
  have v3x0 : w3.cell? ⟨P1, 1, none⟩ = some (.slice Rb1 nb1 cb1) := (unhide H3).c1 0 rfl
  have u3x1 : w3.cell? ⟨B, 0, none⟩ = some (.slice A n cap) := (unhide H3).c0 1 rfl
  have v3x1 : w3.cell? ⟨B, 1, none⟩ = some (.slice A2 n2 cap2) := (unhide H3).c1 1 rfl
  go_wp2_with fail
  refine (unhide CB1 _ _ _ _ _ _ _ ((unhide H3).at_ 0 rfl).i).mono ?_
  rintro e w4 ⟨rfl, hb4⟩
  have H4 := hide ((unhide H3).below hb4)
  clear hb4
  clear u3x0 v3x0 u3x1 v3x1
  have u4x0 : w4.cell? ⟨P1, 0, none⟩ = some (.slice Ra1 na1 ca1) := (unhide H4).c0 0 rfl
  have v4x0 : w4.cell? ⟨P1, 1, none⟩ = some (.slice Rb1 nb1 cb1) := (unhide H4).c1 0 rfl
  have u4x1 : w4.cell? ⟨B, 0, none⟩ = some (.slice A n cap) := (unhide H4).c0 1 rfl
  have v4x1 : w4.cell? ⟨B, 1, none⟩ = some (.slice A2 n2 cap2) := (unhide H4).c1 1 rfl
  go_wp2_with fail
  refine (unhide CR _ _ _ _ _ _ _ ((unhide H4).at_ 0 rfl).i).mono ?_
  rintro e w5 ⟨rfl, hb5⟩
  have H5 := hide ((unhide H4).below hb5)
  clear hb5
  clear u4x0 v4x0 u4x1 v4x1
  have u5x0 : w5.cell? ⟨P1, 0, none⟩ = some (.slice Ra1 na1 ca1) := (unhide H5).c0 0 rfl
  have v5x0 : w5.cell? ⟨P1, 1, none⟩ = some (.slice Rb1 nb1 cb1) := (unhide H5).c1 0 rfl
  have u5x1 : w5.cell? ⟨B, 0, none⟩ = some (.slice A n cap) := (unhide H5).c0 1 rfl
  have v5x1 : w5.cell? ⟨B, 1, none⟩ = some (.slice A2 n2 cap2) := (unhide H5).c1 1 rfl
  go_wp2_with fail
  refine (unhide CK _ _ _ _ _ _ _ ((unhide H5).at_ 0 rfl).i).mono ?_
  rintro e w6 ⟨rfl, hb6⟩
  have H6 := hide ((unhide H5).below hb6)
  clear hb6
  clear u5x0 v5x0 u5x1 v5x1
  have u6x0 : w6.cell? ⟨P1, 0, none⟩ = some (.slice Ra1 na1 ca1) := (unhide H6).c0 0 rfl
  have v6x0 : w6.cell? ⟨P1, 1, none⟩ = some (.slice Rb1 nb1 cb1) := (unhide H6).c1 0 rfl
  have u6x1 : w6.cell? ⟨B, 0, none⟩ = some (.slice A n cap) := (unhide H6).c0 1 rfl
  have v6x1 : w6.cell? ⟨B, 1, none⟩ = some (.slice A2 n2 cap2) := (unhide H6).c1 1 rfl
  go_wp2_with fail
  refine (unhide CD _ ((unhide H6).at_ 1 rfl).i).mono ?_
  rintro e w7 ⟨hr7, hb7⟩
  obtain ⟨Ra7, na7, ca7, Rb7, nb7, cb7, rfl, hi7, hc7, ho7⟩ := hr7.open
  have H7 := hide ((unhide H6).below hb7)
  have HI7 := hide hi7
  have HC7 := hide hc7
  have HO7 := hide ho7
  clear hb7 hi7 hc7 hr7 ho7
  go_upto_region 12 with (refine wpList_store_row rfl 33 (.tmp 25) (.tmp 126) rfl w7.heap.size #[.slice Ra7 na7 ca7, .slice Rb7 nb7 cb7] rfl rfl 33 _ (heap_alloc_new _ _) sizeArc rfl (one_two _ _ _ _ _ _) ?_)
  obtain ⟨x7, hx7⟩ : ∃ x, x = (w7.alloc (.cells #[.slice none 0 0, .slice none 0 0] 33)).setRow w7.heap.size #[.slice Ra7 na7 ca7, .slice Rb7 nb7 cb7] := ⟨_, rfl⟩
  obtain ⟨P7, hP7⟩ : ∃ P, P = w7.heap.size := ⟨_, rfl⟩
  have G7 := hide (show St w x7 B [⟨P7, Ra7, na7, ca7, Rb7, nb7, cb7, c⟩, ⟨P1, Ra1, na1, ca1, Rb1, nb1, cb1, b⟩, ⟨B, A, n, cap, A2, n2, cap2, a⟩] by rw [hx7, hP7]; exact (unhide H7).new (unhide HI7) ca7 cb7)
  rw [← hx7, ← hP7]
  clear hx7 hP7
  clear u6x0 v6x0 u6x1 v6x1
  have u7x0 : x7.cell? ⟨P7, 0, none⟩ = some (.slice Ra7 na7 ca7) := (unhide G7).c0 0 rfl
  have v7x0 : x7.cell? ⟨P7, 1, none⟩ = some (.slice Rb7 nb7 cb7) := (unhide G7).c1 0 rfl
  have u7x1 : x7.cell? ⟨P1, 0, none⟩ = some (.slice Ra1 na1 ca1) := (unhide G7).c0 1 rfl
  have v7x1 : x7.cell? ⟨P1, 1, none⟩ = some (.slice Rb1 nb1 cb1) := (unhide G7).c1 1 rfl
  have u7x2 : x7.cell? ⟨B, 0, none⟩ = some (.slice A n cap) := (unhide G7).c0 2 rfl
  have v7x2 : x7.cell? ⟨B, 1, none⟩ = some (.slice A2 n2 cap2) := (unhide G7).c1 2 rfl
  go_wp2_with fail
  refine (unhide CC1 _ _ _ _ _ _ _ ((unhide G7).at_ 0 rfl).i).mono ?_
  rintro e w8 ⟨rfl, hb8⟩
  have H8 := hide ((unhide G7).below hb8)
  clear hb8
  clear u7x0 v7x0 u7x1 v7x1 u7x2 v7x2
  have u8x0 : w8.cell? ⟨P7, 0, none⟩ = some (.slice Ra7 na7 ca7) := (unhide H8).c0 0 rfl
  have v8x0 : w8.cell? ⟨P7, 1, none⟩ = some (.slice Rb7 nb7 cb7) := (unhide H8).c1 0 rfl
  have u8x1 : w8.cell? ⟨P1, 0, none⟩ = some (.slice Ra1 na1 ca1) := (unhide H8).c0 1 rfl
  have v8x1 : w8.cell? ⟨P1, 1, none⟩ = some (.slice Rb1 nb1 cb1) := (unhide H8).c1 1 rfl
  have u8x2 : w8.cell? ⟨B, 0, none⟩ = some (.slice A n cap) := (unhide H8).c0 2 rfl
  have v8x2 : w8.cell? ⟨B, 1, none⟩ = some (.slice A2 n2 cap2) := (unhide H8).c1 2 rfl
  go_wp2_with fail
  refine (unhide CC1 _ _ _ _ _ _ _ ((unhide H8).at_ 0 rfl).i).mono ?_
  rintro e w9 ⟨rfl, hb9⟩
  have H9 := hide ((unhide H8).below hb9)
  clear hb9
  clear u8x0 v8x0 u8x1 v8x1 u8x2 v8x2
  have u9x0 : w9.cell? ⟨P7, 0, none⟩ = some (.slice Ra7 na7 ca7) := (unhide H9).c0 0 rfl
  have v9x0 : w9.cell? ⟨P7, 1, none⟩ = some (.slice Rb7 nb7 cb7) := (unhide H9).c1 0 rfl
  have u9x1 : w9.cell? ⟨P1, 0, none⟩ = some (.slice Ra1 na1 ca1) := (unhide H9).c0 1 rfl
  have v9x1 : w9.cell? ⟨P1, 1, none⟩ = some (.slice Rb1 nb1 cb1) := (unhide H9).c1 1 rfl
  have u9x2 : w9.cell? ⟨B, 0, none⟩ = some (.slice A n cap) := (unhide H9).c0 2 rfl
  have v9x2 : w9.cell? ⟨B, 1, none⟩ = some (.slice A2 n2 cap2) := (unhide H9).c1 2 rfl
  go_wp2_with fail
  refine (archBegun_any _ ((unhide HM).up (by have := (unhide H9).bel; rw [unhide HB] at this; exact this))).mono ?_
  rintro e w10 ⟨rfl, hb10⟩
  have H10 := hide ((unhide H9).below hb10)
  clear hb10
  clear u9x0 v9x0 u9x1 v9x1 u9x2 v9x2
  have u10x0 : w10.cell? ⟨P7, 0, none⟩ = some (.slice Ra7 na7 ca7) := (unhide H10).c0 0 rfl
  have v10x0 : w10.cell? ⟨P7, 1, none⟩ = some (.slice Rb7 nb7 cb7) := (unhide H10).c1 0 rfl
  have u10x1 : w10.cell? ⟨P1, 0, none⟩ = some (.slice Ra1 na1 ca1) := (unhide H10).c0 1 rfl
  have v10x1 : w10.cell? ⟨P1, 1, none⟩ = some (.slice Rb1 nb1 cb1) := (unhide H10).c1 1 rfl
  have u10x2 : w10.cell? ⟨B, 0, none⟩ = some (.slice A n cap) := (unhide H10).c0 2 rfl
  have v10x2 : w10.cell? ⟨B, 1, none⟩ = some (.slice A2 n2 cap2) := (unhide H10).c1 2 rfl
  go_wp2_with fail
  go_ret
  exact ⟨rfl, (unhide H10).bel⟩
set_option maxHeartbeats 8000000 in
set_option maxRecDepth 100000 in
theorem archTrue_1010 (A : Option Addr) (n cap : Nat) (A2 : Option Addr) (n2 cap2 : Nat) (a : Arc) (file text : Bytes) (k : Int) (other : Bytes) (m q : Int) (w : World) (h : ArcIn w A n A2 n2 a) (hz : ArcSz a) (hfl : file.length ≤ 140737488355328) (htl : text.length ≤ 9223372036854775807) (hk0 : -9223372036854775808 ≤ k) (hk1 : k ≤ 9223372036854775807) (hm0 : -9223372036854775808 ≤ m) (hm1 : m ≤ 9223372036854775807) (hq0 : -9223372036854775808 ≤ q) (hq1 : q ≤ 9223372036854775807) (hm : MaxLenIs w)
    (hput : (put a file text k).2 = 0) (hrng : (Pl.range (put a file text k).1 file m q).2 ≠ 0) (hdrop : (drop a file).2 = 0) (hsame : other ≠ file) :
    Calls Tryz.prog 9 #[arcV A n cap A2 n2 cap2, S file, S text, I k, S other, I m, I q] w fun e w' => e = .returned (.bool true) ∧ Below w.heap.size w w' := by
  have CP := fun (W : World) (hi : ArcIn W A n A2 n2 a) => put_any A n cap A2 n2 cap2 a file text k W hi hz hfl htl hk0 hk1
  have CD := fun (W : World) (hi : ArcIn W A n A2 n2 a) => drop_any A n cap A2 n2 cap2 a file W hi hz
  have CG := fun (W : World) (hi : ArcIn W A n A2 n2 a) => get_any A n cap A2 n2 cap2 a other W hi hz
  have hra1 := put_ra a file text k
  have hra2 := drop_ra a file
  obtain ⟨b, hb⟩ : ∃ b, b = (put a file text k).1 := ⟨_, rfl⟩
  obtain ⟨c, hc⟩ : ∃ c, c = (drop a file).1 := ⟨_, rfl⟩
  obtain ⟨tw, htw⟩ : ∃ t, t = (Pl.get a other).1 := ⟨_, rfl⟩
  obtain ⟨fw, hfw⟩ : ∃ t, t = (Pl.get a other).2 := ⟨_, rfl⟩
  have CB1 := fun (W : World) (A : Option Addr) (n cap : Nat) (A2 : Option Addr) (n2 cap2 : Nat) (hi : ArcIn W A n A2 n2 b) => get_any A n cap A2 n2 cap2 b file W hi (right_sz (by rw [hb]; exact hra1))
  rw [show Pl.get b file = (text, 0) from by rw [hb]; exact put_get hput] at CB1
  have CB2 := fun (W : World) (A : Option Addr) (n cap : Nat) (A2 : Option Addr) (n2 cap2 : Nat) (hi : ArcIn W A n A2 n2 b) => get_any A n cap A2 n2 cap2 b other W hi (right_sz (by rw [hb]; exact hra1))
  rw [show Pl.get b other = (tw, fw) from by rw [hb, put_other hput hsame, htw, hfw]] at CB2
  have CR := fun (W : World) (A : Option Addr) (n cap : Nat) (A2 : Option Addr) (n2 cap2 : Nat) (hi : ArcIn W A n A2 n2 b) => range_any A n cap A2 n2 cap2 b file m q W hi (right_sz (by rw [hb]; exact hra1)) hm0 hm1 hq0 hq1
  have CK := fun (W : World) (A : Option Addr) (n cap : Nat) (A2 : Option Addr) (n2 cap2 : Nat) (hi : ArcIn W A n A2 n2 b) => check_arch A n cap A2 n2 cap2 b W hi (right_sz (by rw [hb]; exact hra1))
  rw [(check_iff b).2 (by rw [hb]; exact hra1)] at CK
  obtain ⟨tr, htr⟩ : ∃ t, t = (Pl.range b file m q).1 := ⟨_, rfl⟩
  obtain ⟨er, her⟩ : ∃ t, t = (Pl.range b file m q).2 := ⟨_, rfl⟩
  rw [← htr, ← her] at CR
  rw [← hb, ← her] at hrng
  have f1 : ((er : Int) != 0) = true := by rw [bne_iff_ne]; omega
  have f2 : ((er : Int) == 0) = false := by rw [beq_eq_false_iff_ne]; omega
  have f3 : ¬ (er : Int) = 0 := by omega
  clear htr her hrng
  rw [show put a file text k = (b, 0) from Prod.ext hb.symm hput] at CP
  have CC1 := fun (W : World) (A : Option Addr) (n cap : Nat) (A2 : Option Addr) (n2 cap2 : Nat) (hi : ArcIn W A n A2 n2 c) => get_any A n cap A2 n2 cap2 c file W hi (right_sz (by rw [hc]; exact hra2))
  rw [show Pl.get c file = ([], 5) from by rw [hc]; exact drop_get hdrop] at CC1
  have CC2 := fun (W : World) (A : Option Addr) (n cap : Nat) (A2 : Option Addr) (n2 cap2 : Nat) (hi : ArcIn W A n A2 n2 c) => get_any A n cap A2 n2 cap2 c other W hi (right_sz (by rw [hc]; exact hra2))
  rw [show Pl.get c other = (tw, fw) from by rw [hc, drop_other hdrop hsame, htw, hfw]] at CC2
  rw [show drop a file = (c, 0) from Prod.ext hc.symm hdrop] at CD
  rw [← htw, ← hfw] at CG
  have s1 : (other == file) = false := by rw [beq_eq_false_iff_ne]; exact hsame
  have s2 : (other != file) = true := by rw [bne_iff_ne]; exact hsame
  clear hsame
  have CP := hide CP
  have CD := hide CD
  have CG := hide CG
  have CB1 := hide CB1
  have CR := hide CR
  have CK := hide CK
  have CB2 := hide CB2
  have CC1 := hide CC1
  have CC2 := hide CC2
  clear hz hb hc htw hfw hra1 hra2 hput hdrop
  obtain ⟨B, hB⟩ : ∃ B, B = w.heap.size := ⟨_, rfl⟩
  obtain ⟨w0, hw0⟩ : ∃ w0, w0 = w.alloc (.cells #[.slice A n cap, .slice A2 n2 cap2] 33) := ⟨_, rfl⟩
  have H0 := hide (show St w w0 B [⟨B, A, n, cap, A2, n2, cap2, a⟩] by rw [hw0, hB]; exact St.box h cap cap2)
  have HB := hide hB
  have HW0 := hide hw0
  have HM := hide hm
  rw [← hB]
  clear hB hw0 hm
  go_enter Tryz.func9, Tryz.ntmps9
  go_upto_region 1 with fail
  rw [← unhide HW0, ← unhide HB]
  have u0x0 : w0.cell? ⟨B, 0, none⟩ = some (.slice A n cap) := (unhide H0).c0 0 rfl
  have v0x0 : w0.cell? ⟨B, 1, none⟩ = some (.slice A2 n2 cap2) := (unhide H0).c1 0 rfl
  go_wp2_with fail
  refine (unhide CP _ ((unhide H0).at_ 0 rfl).i).mono ?_
  rintro e w1 ⟨hr1, hb1⟩
  obtain ⟨Ra1, na1, ca1, Rb1, nb1, cb1, rfl, hi1, hc1, ho1⟩ := hr1.open
  have H1 := hide ((unhide H0).below hb1)
  have HI1 := hide hi1
  have HC1 := hide hc1
  have HO1 := hide ho1
  clear hb1 hi1 hc1 hr1 ho1
  go_upto_region 2 with (refine wpList_store_row rfl 33 (.tmp 15) (.tmp 37) rfl w1.heap.size #[.slice Ra1 na1 ca1, .slice Rb1 nb1 cb1] rfl rfl 33 _ (heap_alloc_new _ _) sizeArc rfl (one_two _ _ _ _ _ _) ?_)
  obtain ⟨x1, hx1⟩ : ∃ x, x = (w1.alloc (.cells #[.slice none 0 0, .slice none 0 0] 33)).setRow w1.heap.size #[.slice Ra1 na1 ca1, .slice Rb1 nb1 cb1] := ⟨_, rfl⟩
  obtain ⟨P1, hP1⟩ : ∃ P, P = w1.heap.size := ⟨_, rfl⟩
  have G1 := hide (show St w x1 B [⟨P1, Ra1, na1, ca1, Rb1, nb1, cb1, b⟩, ⟨B, A, n, cap, A2, n2, cap2, a⟩] by rw [hx1, hP1]; exact (unhide H1).new (unhide HI1) ca1 cb1)
  rw [← hx1, ← hP1]
  clear hx1 hP1
  clear u0x0 v0x0
  have u1x0 : x1.cell? ⟨P1, 0, none⟩ = some (.slice Ra1 na1 ca1) := (unhide G1).c0 0 rfl
  have v1x0 : x1.cell? ⟨P1, 1, none⟩ = some (.slice Rb1 nb1 cb1) := (unhide G1).c1 0 rfl
  have u1x1 : x1.cell? ⟨B, 0, none⟩ = some (.slice A n cap) := (unhide G1).c0 1 rfl
  have v1x1 : x1.cell? ⟨B, 1, none⟩ = some (.slice A2 n2 cap2) := (unhide G1).c1 1 rfl
  go_wp2_with fail
  refine (unhide CG _ ((unhide G1).at_ 1 rfl).i).mono ?_
  rintro e w2 ⟨rfl, hb2⟩
  have H2 := hide ((unhide G1).below hb2)
  clear hb2
  clear u1x0 v1x0 u1x1 v1x1
  have u2x0 : w2.cell? ⟨P1, 0, none⟩ = some (.slice Ra1 na1 ca1) := (unhide H2).c0 0 rfl
  have v2x0 : w2.cell? ⟨P1, 1, none⟩ = some (.slice Rb1 nb1 cb1) := (unhide H2).c1 0 rfl
  have u2x1 : w2.cell? ⟨B, 0, none⟩ = some (.slice A n cap) := (unhide H2).c0 1 rfl
  have v2x1 : w2.cell? ⟨B, 1, none⟩ = some (.slice A2 n2 cap2) := (unhide H2).c1 1 rfl
  go_wp2_with fail
  refine (unhide CB1 _ _ _ _ _ _ _ ((unhide H2).at_ 0 rfl).i).mono ?_
  rintro e w3 ⟨rfl, hb3⟩
  have H3 := hide ((unhide H2).below hb3)
  clear hb3
  clear u2x0 v2x0 u2x1 v2x1
  have u3x0 : w3.cell? ⟨P1, 0, none⟩ = some (.slice Ra1 na1 ca1) := (unhide H3).c0 0 rfl
  have v3x0 : w3.cell? ⟨P1, 1, none⟩ = some (.slice Rb1 nb1 cb1) := (unhide H3).c1 0 rfl
  have u3x1 : w3.cell? ⟨B, 0, none⟩ = some (.slice A n cap) := (unhide H3).c0 1 rfl
  have v3x1 : w3.cell? ⟨B, 1, none⟩ = some (.slice A2 n2 cap2) := (unhide H3).c1 1 rfl
  go_wp2_with fail
  refine (unhide CB2 _ _ _ _ _ _ _ ((unhide H3).at_ 0 rfl).i).mono ?_
  rintro e w4 ⟨rfl, hb4⟩
  have H4 := hide ((unhide H3).below hb4)
  clear hb4
  clear u3x0 v3x0 u3x1 v3x1
  have u4x0 : w4.cell? ⟨P1, 0, none⟩ = some (.slice Ra1 na1 ca1) := (unhide H4).c0 0 rfl
  have v4x0 : w4.cell? ⟨P1, 1, none⟩ = some (.slice Rb1 nb1 cb1) := (unhide H4).c1 0 rfl
  have u4x1 : w4.cell? ⟨B, 0, none⟩ = some (.slice A n cap) := (unhide H4).c0 1 rfl
  have v4x1 : w4.cell? ⟨B, 1, none⟩ = some (.slice A2 n2 cap2) := (unhide H4).c1 1 rfl
  go_wp2_with fail
  refine (unhide CR _ _ _ _ _ _ _ ((unhide H4).at_ 0 rfl).i).mono ?_
  rintro e w5 ⟨rfl, hb5⟩
  have H5 := hide ((unhide H4).below hb5)
  clear hb5
  clear u4x0 v4x0 u4x1 v4x1
  have u5x0 : w5.cell? ⟨P1, 0, none⟩ = some (.slice Ra1 na1 ca1) := (unhide H5).c0 0 rfl
  have v5x0 : w5.cell? ⟨P1, 1, none⟩ = some (.slice Rb1 nb1 cb1) := (unhide H5).c1 0 rfl
  have u5x1 : w5.cell? ⟨B, 0, none⟩ = some (.slice A n cap) := (unhide H5).c0 1 rfl
  have v5x1 : w5.cell? ⟨B, 1, none⟩ = some (.slice A2 n2 cap2) := (unhide H5).c1 1 rfl
  go_wp2_with fail
  refine (unhide CK _ _ _ _ _ _ _ ((unhide H5).at_ 0 rfl).i).mono ?_
  rintro e w6 ⟨rfl, hb6⟩
  have H6 := hide ((unhide H5).below hb6)
  clear hb6
  clear u5x0 v5x0 u5x1 v5x1
  have u6x0 : w6.cell? ⟨P1, 0, none⟩ = some (.slice Ra1 na1 ca1) := (unhide H6).c0 0 rfl
  have v6x0 : w6.cell? ⟨P1, 1, none⟩ = some (.slice Rb1 nb1 cb1) := (unhide H6).c1 0 rfl
  have u6x1 : w6.cell? ⟨B, 0, none⟩ = some (.slice A n cap) := (unhide H6).c0 1 rfl
  have v6x1 : w6.cell? ⟨B, 1, none⟩ = some (.slice A2 n2 cap2) := (unhide H6).c1 1 rfl
  go_wp2_with fail
  refine (unhide CD _ ((unhide H6).at_ 1 rfl).i).mono ?_
  rintro e w7 ⟨hr7, hb7⟩
  obtain ⟨Ra7, na7, ca7, Rb7, nb7, cb7, rfl, hi7, hc7, ho7⟩ := hr7.open
  have H7 := hide ((unhide H6).below hb7)
  have HI7 := hide hi7
  have HC7 := hide hc7
  have HO7 := hide ho7
  clear hb7 hi7 hc7 hr7 ho7
  go_upto_region 12 with (refine wpList_store_row rfl 33 (.tmp 25) (.tmp 126) rfl w7.heap.size #[.slice Ra7 na7 ca7, .slice Rb7 nb7 cb7] rfl rfl 33 _ (heap_alloc_new _ _) sizeArc rfl (one_two _ _ _ _ _ _) ?_)
  obtain ⟨x7, hx7⟩ : ∃ x, x = (w7.alloc (.cells #[.slice none 0 0, .slice none 0 0] 33)).setRow w7.heap.size #[.slice Ra7 na7 ca7, .slice Rb7 nb7 cb7] := ⟨_, rfl⟩
  obtain ⟨P7, hP7⟩ : ∃ P, P = w7.heap.size := ⟨_, rfl⟩
  have G7 := hide (show St w x7 B [⟨P7, Ra7, na7, ca7, Rb7, nb7, cb7, c⟩, ⟨P1, Ra1, na1, ca1, Rb1, nb1, cb1, b⟩, ⟨B, A, n, cap, A2, n2, cap2, a⟩] by rw [hx7, hP7]; exact (unhide H7).new (unhide HI7) ca7 cb7)
  rw [← hx7, ← hP7]
  clear hx7 hP7
  clear u6x0 v6x0 u6x1 v6x1
  have u7x0 : x7.cell? ⟨P7, 0, none⟩ = some (.slice Ra7 na7 ca7) := (unhide G7).c0 0 rfl
  have v7x0 : x7.cell? ⟨P7, 1, none⟩ = some (.slice Rb7 nb7 cb7) := (unhide G7).c1 0 rfl
  have u7x1 : x7.cell? ⟨P1, 0, none⟩ = some (.slice Ra1 na1 ca1) := (unhide G7).c0 1 rfl
  have v7x1 : x7.cell? ⟨P1, 1, none⟩ = some (.slice Rb1 nb1 cb1) := (unhide G7).c1 1 rfl
  have u7x2 : x7.cell? ⟨B, 0, none⟩ = some (.slice A n cap) := (unhide G7).c0 2 rfl
  have v7x2 : x7.cell? ⟨B, 1, none⟩ = some (.slice A2 n2 cap2) := (unhide G7).c1 2 rfl
  go_wp2_with fail
  refine (unhide CC1 _ _ _ _ _ _ _ ((unhide G7).at_ 0 rfl).i).mono ?_
  rintro e w8 ⟨rfl, hb8⟩
  have H8 := hide ((unhide G7).below hb8)
  clear hb8
  clear u7x0 v7x0 u7x1 v7x1 u7x2 v7x2
  have u8x0 : w8.cell? ⟨P7, 0, none⟩ = some (.slice Ra7 na7 ca7) := (unhide H8).c0 0 rfl
  have v8x0 : w8.cell? ⟨P7, 1, none⟩ = some (.slice Rb7 nb7 cb7) := (unhide H8).c1 0 rfl
  have u8x1 : w8.cell? ⟨P1, 0, none⟩ = some (.slice Ra1 na1 ca1) := (unhide H8).c0 1 rfl
  have v8x1 : w8.cell? ⟨P1, 1, none⟩ = some (.slice Rb1 nb1 cb1) := (unhide H8).c1 1 rfl
  have u8x2 : w8.cell? ⟨B, 0, none⟩ = some (.slice A n cap) := (unhide H8).c0 2 rfl
  have v8x2 : w8.cell? ⟨B, 1, none⟩ = some (.slice A2 n2 cap2) := (unhide H8).c1 2 rfl
  go_wp2_with fail
  refine (unhide CC2 _ _ _ _ _ _ _ ((unhide H8).at_ 0 rfl).i).mono ?_
  rintro e w9 ⟨rfl, hb9⟩
  have H9 := hide ((unhide H8).below hb9)
  clear hb9
  clear u8x0 v8x0 u8x1 v8x1 u8x2 v8x2
  have u9x0 : w9.cell? ⟨P7, 0, none⟩ = some (.slice Ra7 na7 ca7) := (unhide H9).c0 0 rfl
  have v9x0 : w9.cell? ⟨P7, 1, none⟩ = some (.slice Rb7 nb7 cb7) := (unhide H9).c1 0 rfl
  have u9x1 : w9.cell? ⟨P1, 0, none⟩ = some (.slice Ra1 na1 ca1) := (unhide H9).c0 1 rfl
  have v9x1 : w9.cell? ⟨P1, 1, none⟩ = some (.slice Rb1 nb1 cb1) := (unhide H9).c1 1 rfl
  have u9x2 : w9.cell? ⟨B, 0, none⟩ = some (.slice A n cap) := (unhide H9).c0 2 rfl
  have v9x2 : w9.cell? ⟨B, 1, none⟩ = some (.slice A2 n2 cap2) := (unhide H9).c1 2 rfl
  go_wp2_with fail
  refine (archBegun_any _ ((unhide HM).up (by have := (unhide H9).bel; rw [unhide HB] at this; exact this))).mono ?_
  rintro e w10 ⟨rfl, hb10⟩
  have H10 := hide ((unhide H9).below hb10)
  clear hb10
  clear u9x0 v9x0 u9x1 v9x1 u9x2 v9x2
  have u10x0 : w10.cell? ⟨P7, 0, none⟩ = some (.slice Ra7 na7 ca7) := (unhide H10).c0 0 rfl
  have v10x0 : w10.cell? ⟨P7, 1, none⟩ = some (.slice Rb7 nb7 cb7) := (unhide H10).c1 0 rfl
  have u10x1 : w10.cell? ⟨P1, 0, none⟩ = some (.slice Ra1 na1 ca1) := (unhide H10).c0 1 rfl
  have v10x1 : w10.cell? ⟨P1, 1, none⟩ = some (.slice Rb1 nb1 cb1) := (unhide H10).c1 1 rfl
  have u10x2 : w10.cell? ⟨B, 0, none⟩ = some (.slice A n cap) := (unhide H10).c0 2 rfl
  have v10x2 : w10.cell? ⟨B, 1, none⟩ = some (.slice A2 n2 cap2) := (unhide H10).c1 2 rfl
  go_wp2_with fail
  go_ret
  exact ⟨rfl, (unhide H10).bel⟩
end Go.Proofs.YtjpgoeimclipjaaGreat
namespace Go.Proofs.YtjpgoeimclipjaaGreat
open Go.RowKit Go.Lib Pl
attribute [local go_sem] ext_list app_list
set_option maxHeartbeats 8000000 in
set_option maxRecDepth 100000 in
theorem archTrue_1001 (A : Option Addr) (n cap : Nat) (A2 : Option Addr) (n2 cap2 : Nat) (a : Arc) (file text : Bytes) (k : Int) (other : Bytes) (m q : Int) (w : World) (h : ArcIn w A n A2 n2 a) (hz : ArcSz a) (hfl : file.length ≤ 140737488355328) (htl : text.length ≤ 9223372036854775807) (hk0 : -9223372036854775808 ≤ k) (hk1 : k ≤ 9223372036854775807) (hm0 : -9223372036854775808 ≤ m) (hm1 : m ≤ 9223372036854775807) (hq0 : -9223372036854775808 ≤ q) (hq1 : q ≤ 9223372036854775807) (hm : MaxLenIs w)
    (hput : (put a file text k).2 = 0) (hrng : (Pl.range (put a file text k).1 file m q).2 ≠ 0) (hdrop : (drop a file).2 ≠ 0) (hsame : other = file) :
    Calls Tryz.prog 9 #[arcV A n cap A2 n2 cap2, S file, S text, I k, S other, I m, I q] w fun e w' => e = .returned (.bool true) ∧ Below w.heap.size w w' := by
  subst hsame
  have CP := fun (W : World) (hi : ArcIn W A n A2 n2 a) => put_any A n cap A2 n2 cap2 a other text k W hi hz hfl htl hk0 hk1
  have CD := fun (W : World) (hi : ArcIn W A n A2 n2 a) => drop_any A n cap A2 n2 cap2 a other W hi hz
  have CG := fun (W : World) (hi : ArcIn W A n A2 n2 a) => get_any A n cap A2 n2 cap2 a other W hi hz
  have hra1 := put_ra a other text k
  have hra2 := drop_ra a other
  obtain ⟨b, hb⟩ : ∃ b, b = (put a other text k).1 := ⟨_, rfl⟩
  obtain ⟨c, hc⟩ : ∃ c, c = (drop a other).1 := ⟨_, rfl⟩
  obtain ⟨tw, htw⟩ : ∃ t, t = (Pl.get a other).1 := ⟨_, rfl⟩
  obtain ⟨fw, hfw⟩ : ∃ t, t = (Pl.get a other).2 := ⟨_, rfl⟩
  have CB1 := fun (W : World) (A : Option Addr) (n cap : Nat) (A2 : Option Addr) (n2 cap2 : Nat) (hi : ArcIn W A n A2 n2 b) => get_any A n cap A2 n2 cap2 b other W hi (right_sz (by rw [hb]; exact hra1))
  rw [show Pl.get b other = (text, 0) from by rw [hb]; exact put_get hput] at CB1
  have CR := fun (W : World) (A : Option Addr) (n cap : Nat) (A2 : Option Addr) (n2 cap2 : Nat) (hi : ArcIn W A n A2 n2 b) => range_any A n cap A2 n2 cap2 b other m q W hi (right_sz (by rw [hb]; exact hra1)) hm0 hm1 hq0 hq1
  have CK := fun (W : World) (A : Option Addr) (n cap : Nat) (A2 : Option Addr) (n2 cap2 : Nat) (hi : ArcIn W A n A2 n2 b) => check_arch A n cap A2 n2 cap2 b W hi (right_sz (by rw [hb]; exact hra1))
  rw [(check_iff b).2 (by rw [hb]; exact hra1)] at CK
  obtain ⟨tr, htr⟩ : ∃ t, t = (Pl.range b other m q).1 := ⟨_, rfl⟩
  obtain ⟨er, her⟩ : ∃ t, t = (Pl.range b other m q).2 := ⟨_, rfl⟩
  rw [← htr, ← her] at CR
  rw [← hb, ← her] at hrng
  have f1 : ((er : Int) != 0) = true := by rw [bne_iff_ne]; omega
  have f2 : ((er : Int) == 0) = false := by rw [beq_eq_false_iff_ne]; omega
  have f3 : ¬ (er : Int) = 0 := by omega
  clear htr her hrng
  rw [show put a other text k = (b, 0) from Prod.ext hb.symm hput] at CP
  obtain ⟨ed, hed⟩ : ∃ t, t = (drop a other).2 := ⟨_, rfl⟩
  rw [show drop a other = (c, ed) from Prod.ext hc.symm hed.symm] at CD
  rw [← hed] at hdrop
  have o1 : ((ed : Int) != 0) = true := by rw [bne_iff_ne]; omega
  have o2 : ((ed : Int) == 0) = false := by rw [beq_eq_false_iff_ne]; omega
  have o3 : ¬ (ed : Int) = 0 := by omega
  clear hed
  rw [← htw, ← hfw] at CG
  have CP := hide CP
  have CD := hide CD
  have CG := hide CG
  have CB1 := hide CB1
  have CR := hide CR
  have CK := hide CK
  clear hz hb hc htw hfw hra1 hra2 hput hdrop
  obtain ⟨B, hB⟩ : ∃ B, B = w.heap.size := ⟨_, rfl⟩
  obtain ⟨w0, hw0⟩ : ∃ w0, w0 = w.alloc (.cells #[.slice A n cap, .slice A2 n2 cap2] 33) := ⟨_, rfl⟩
  have H0 := hide (show St w w0 B [⟨B, A, n, cap, A2, n2, cap2, a⟩] by rw [hw0, hB]; exact St.box h cap cap2)
  have HB := hide hB
  have HW0 := hide hw0
  have HM := hide hm
  rw [← hB]
  clear hB hw0 hm
  go_enter Tryz.func9, Tryz.ntmps9
  go_upto_region 1 with fail
  rw [← unhide HW0, ← unhide HB]
  have u0x0 : w0.cell? ⟨B, 0, none⟩ = some (.slice A n cap) := (unhide H0).c0 0 rfl
  have v0x0 : w0.cell? ⟨B, 1, none⟩ = some (.slice A2 n2 cap2) := (unhide H0).c1 0 rfl
  go_wp2_with fail
  refine (unhide CP _ ((unhide H0).at_ 0 rfl).i).mono ?_
  rintro e w1 ⟨hr1, hb1⟩
  obtain ⟨Ra1, na1, ca1, Rb1, nb1, cb1, rfl, hi1, hc1, ho1⟩ := hr1.open
  have H1 := hide ((unhide H0).below hb1)
  have HI1 := hide hi1
  have HC1 := hide hc1
  have HO1 := hide ho1
  clear hb1 hi1 hc1 hr1 ho1
  go_upto_region 2 with (refine wpList_store_row rfl 33 (.tmp 15) (.tmp 37) rfl w1.heap.size #[.slice Ra1 na1 ca1, .slice Rb1 nb1 cb1] rfl rfl 33 _ (heap_alloc_new _ _) sizeArc rfl (one_two _ _ _ _ _ _) ?_)
  obtain ⟨x1, hx1⟩ : ∃ x, x = (w1.alloc (.cells #[.slice none 0 0, .slice none 0 0] 33)).setRow w1.heap.size #[.slice Ra1 na1 ca1, .slice Rb1 nb1 cb1] := ⟨_, rfl⟩
  obtain ⟨P1, hP1⟩ : ∃ P, P = w1.heap.size := ⟨_, rfl⟩
  have G1 := hide (show St w x1 B [⟨P1, Ra1, na1, ca1, Rb1, nb1, cb1, b⟩, ⟨B, A, n, cap, A2, n2, cap2, a⟩] by rw [hx1, hP1]; exact (unhide H1).new (unhide HI1) ca1 cb1)
  rw [← hx1, ← hP1]
  clear hx1 hP1
  clear u0x0 v0x0
  have u1x0 : x1.cell? ⟨P1, 0, none⟩ = some (.slice Ra1 na1 ca1) := (unhide G1).c0 0 rfl
  have v1x0 : x1.cell? ⟨P1, 1, none⟩ = some (.slice Rb1 nb1 cb1) := (unhide G1).c1 0 rfl
  have u1x1 : x1.cell? ⟨B, 0, none⟩ = some (.slice A n cap) := (unhide G1).c0 1 rfl
  have v1x1 : x1.cell? ⟨B, 1, none⟩ = some (.slice A2 n2 cap2) := (unhide G1).c1 1 rfl
  go_wp2_with fail
  refine (unhide CG _ ((unhide G1).at_ 1 rfl).i).mono ?_
  rintro e w2 ⟨rfl, hb2⟩
  have H2 := hide ((unhide G1).below hb2)
  clear hb2
  clear u1x0 v1x0 u1x1 v1x1
  have u2x0 : w2.cell? ⟨P1, 0, none⟩ = some (.slice Ra1 na1 ca1) := (unhide H2).c0 0 rfl
  have v2x0 : w2.cell? ⟨P1, 1, none⟩ = some (.slice Rb1 nb1 cb1) := (unhide H2).c1 0 rfl
  have u2x1 : w2.cell? ⟨B, 0, none⟩ = some (.slice A n cap) := (unhide H2).c0 1 rfl
  have v2x1 : w2.cell? ⟨B, 1, none⟩ = some (.slice A2 n2 cap2) := (unhide H2).c1 1 rfl
  go_wp2_with fail
  refine (unhide CB1 _ _ _ _ _ _ _ ((unhide H2).at_ 0 rfl).i).mono ?_
  rintro e w3 ⟨rfl, hb3⟩
  have H3 := hide ((unhide H2).below hb3)
  clear hb3
  clear u2x0 v2x0 u2x1 v2x1
  have u3x0 : w3.cell? ⟨P1, 0, none⟩ = some (.slice Ra1 na1 ca1) := (unhide H3).c0 0 rfl
  have v3x0 : w3.cell? ⟨P1, 1, none⟩ = some (.slice Rb1 nb1 cb1) := (unhide H3).c1 0 rfl
  have u3x1 : w3.cell? ⟨B, 0, none⟩ = some (.slice A n cap) := (unhide H3).c0 1 rfl
  have v3x1 : w3.cell? ⟨B, 1, none⟩ = some (.slice A2 n2 cap2) := (unhide H3).c1 1 rfl
  go_wp2_with fail
  refine (unhide CB1 _ _ _ _ _ _ _ ((unhide H3).at_ 0 rfl).i).mono ?_
  rintro e w4 ⟨rfl, hb4⟩
  have H4 := hide ((unhide H3).below hb4)
  clear hb4
  clear u3x0 v3x0 u3x1 v3x1
  have u4x0 : w4.cell? ⟨P1, 0, none⟩ = some (.slice Ra1 na1 ca1) := (unhide H4).c0 0 rfl
  have v4x0 : w4.cell? ⟨P1, 1, none⟩ = some (.slice Rb1 nb1 cb1) := (unhide H4).c1 0 rfl
  have u4x1 : w4.cell? ⟨B, 0, none⟩ = some (.slice A n cap) := (unhide H4).c0 1 rfl
  have v4x1 : w4.cell? ⟨B, 1, none⟩ = some (.slice A2 n2 cap2) := (unhide H4).c1 1 rfl
  go_wp2_with fail
  refine (unhide CR _ _ _ _ _ _ _ ((unhide H4).at_ 0 rfl).i).mono ?_
  rintro e w5 ⟨rfl, hb5⟩
  have H5 := hide ((unhide H4).below hb5)
  clear hb5
  clear u4x0 v4x0 u4x1 v4x1
  have u5x0 : w5.cell? ⟨P1, 0, none⟩ = some (.slice Ra1 na1 ca1) := (unhide H5).c0 0 rfl
  have v5x0 : w5.cell? ⟨P1, 1, none⟩ = some (.slice Rb1 nb1 cb1) := (unhide H5).c1 0 rfl
  have u5x1 : w5.cell? ⟨B, 0, none⟩ = some (.slice A n cap) := (unhide H5).c0 1 rfl
  have v5x1 : w5.cell? ⟨B, 1, none⟩ = some (.slice A2 n2 cap2) := (unhide H5).c1 1 rfl
  go_wp2_with fail
  refine (unhide CK _ _ _ _ _ _ _ ((unhide H5).at_ 0 rfl).i).mono ?_
  rintro e w6 ⟨rfl, hb6⟩
  have H6 := hide ((unhide H5).below hb6)
  clear hb6
  clear u5x0 v5x0 u5x1 v5x1
  have u6x0 : w6.cell? ⟨P1, 0, none⟩ = some (.slice Ra1 na1 ca1) := (unhide H6).c0 0 rfl
  have v6x0 : w6.cell? ⟨P1, 1, none⟩ = some (.slice Rb1 nb1 cb1) := (unhide H6).c1 0 rfl
  have u6x1 : w6.cell? ⟨B, 0, none⟩ = some (.slice A n cap) := (unhide H6).c0 1 rfl
  have v6x1 : w6.cell? ⟨B, 1, none⟩ = some (.slice A2 n2 cap2) := (unhide H6).c1 1 rfl
  go_wp2_with fail
  refine (unhide CD _ ((unhide H6).at_ 1 rfl).i).mono ?_
  rintro e w7 ⟨hr7, hb7⟩
  obtain ⟨Ra7, na7, ca7, Rb7, nb7, cb7, rfl, hi7, hc7, ho7⟩ := hr7.open
  have H7 := hide ((unhide H6).below hb7)
  have HI7 := hide hi7
  have HC7 := hide hc7
  have HO7 := hide ho7
  clear hb7 hi7 hc7 hr7 ho7
  go_upto_region 12 with (refine wpList_store_row rfl 33 (.tmp 25) (.tmp 126) rfl w7.heap.size #[.slice Ra7 na7 ca7, .slice Rb7 nb7 cb7] rfl rfl 33 _ (heap_alloc_new _ _) sizeArc rfl (one_two _ _ _ _ _ _) ?_)
  obtain ⟨x7, hx7⟩ : ∃ x, x = (w7.alloc (.cells #[.slice none 0 0, .slice none 0 0] 33)).setRow w7.heap.size #[.slice Ra7 na7 ca7, .slice Rb7 nb7 cb7] := ⟨_, rfl⟩
  obtain ⟨P7, hP7⟩ : ∃ P, P = w7.heap.size := ⟨_, rfl⟩
  have G7 := hide (show St w x7 B [⟨P7, Ra7, na7, ca7, Rb7, nb7, cb7, c⟩, ⟨P1, Ra1, na1, ca1, Rb1, nb1, cb1, b⟩, ⟨B, A, n, cap, A2, n2, cap2, a⟩] by rw [hx7, hP7]; exact (unhide H7).new (unhide HI7) ca7 cb7)
  rw [← hx7, ← hP7]
  clear hx7 hP7
  clear u6x0 v6x0 u6x1 v6x1
  have u7x0 : x7.cell? ⟨P7, 0, none⟩ = some (.slice Ra7 na7 ca7) := (unhide G7).c0 0 rfl
  have v7x0 : x7.cell? ⟨P7, 1, none⟩ = some (.slice Rb7 nb7 cb7) := (unhide G7).c1 0 rfl
  have u7x1 : x7.cell? ⟨P1, 0, none⟩ = some (.slice Ra1 na1 ca1) := (unhide G7).c0 1 rfl
  have v7x1 : x7.cell? ⟨P1, 1, none⟩ = some (.slice Rb1 nb1 cb1) := (unhide G7).c1 1 rfl
  have u7x2 : x7.cell? ⟨B, 0, none⟩ = some (.slice A n cap) := (unhide G7).c0 2 rfl
  have v7x2 : x7.cell? ⟨B, 1, none⟩ = some (.slice A2 n2 cap2) := (unhide G7).c1 2 rfl
  go_wp2_with fail
  refine (archBegun_any _ ((unhide HM).up (by have := (unhide G7).bel; rw [unhide HB] at this; exact this))).mono ?_
  rintro e w8 ⟨rfl, hb8⟩
  have H8 := hide ((unhide G7).below hb8)
  clear hb8
  clear u7x0 v7x0 u7x1 v7x1 u7x2 v7x2
  have u8x0 : w8.cell? ⟨P7, 0, none⟩ = some (.slice Ra7 na7 ca7) := (unhide H8).c0 0 rfl
  have v8x0 : w8.cell? ⟨P7, 1, none⟩ = some (.slice Rb7 nb7 cb7) := (unhide H8).c1 0 rfl
  have u8x1 : w8.cell? ⟨P1, 0, none⟩ = some (.slice Ra1 na1 ca1) := (unhide H8).c0 1 rfl
  have v8x1 : w8.cell? ⟨P1, 1, none⟩ = some (.slice Rb1 nb1 cb1) := (unhide H8).c1 1 rfl
  have u8x2 : w8.cell? ⟨B, 0, none⟩ = some (.slice A n cap) := (unhide H8).c0 2 rfl
  have v8x2 : w8.cell? ⟨B, 1, none⟩ = some (.slice A2 n2 cap2) := (unhide H8).c1 2 rfl
  go_wp2_with fail
  go_ret
  exact ⟨rfl, (unhide H8).bel⟩
set_option maxHeartbeats 8000000 in
set_option maxRecDepth 100000 in
theorem archTrue_1000 (A : Option Addr) (n cap : Nat) (A2 : Option Addr) (n2 cap2 : Nat) (a : Arc) (file text : Bytes) (k : Int) (other : Bytes) (m q : Int) (w : World) (h : ArcIn w A n A2 n2 a) (hz : ArcSz a) (hfl : file.length ≤ 140737488355328) (htl : text.length ≤ 9223372036854775807) (hk0 : -9223372036854775808 ≤ k) (hk1 : k ≤ 9223372036854775807) (hm0 : -9223372036854775808 ≤ m) (hm1 : m ≤ 9223372036854775807) (hq0 : -9223372036854775808 ≤ q) (hq1 : q ≤ 9223372036854775807) (hm : MaxLenIs w)
    (hput : (put a file text k).2 = 0) (hrng : (Pl.range (put a file text k).1 file m q).2 ≠ 0) (hdrop : (drop a file).2 ≠ 0) (hsame : other ≠ file) :
    Calls Tryz.prog 9 #[arcV A n cap A2 n2 cap2, S file, S text, I k, S other, I m, I q] w fun e w' => e = .returned (.bool true) ∧ Below w.heap.size w w' := by
  have CP := fun (W : World) (hi : ArcIn W A n A2 n2 a) => put_any A n cap A2 n2 cap2 a file text k W hi hz hfl htl hk0 hk1
  have CD := fun (W : World) (hi : ArcIn W A n A2 n2 a) => drop_any A n cap A2 n2 cap2 a file W hi hz
  have CG := fun (W : World) (hi : ArcIn W A n A2 n2 a) => get_any A n cap A2 n2 cap2 a other W hi hz
  have hra1 := put_ra a file text k
  have hra2 := drop_ra a file
  obtain ⟨b, hb⟩ : ∃ b, b = (put a file text k).1 := ⟨_, rfl⟩
  obtain ⟨c, hc⟩ : ∃ c, c = (drop a file).1 := ⟨_, rfl⟩
  obtain ⟨tw, htw⟩ : ∃ t, t = (Pl.get a other).1 := ⟨_, rfl⟩
  obtain ⟨fw, hfw⟩ : ∃ t, t = (Pl.get a other).2 := ⟨_, rfl⟩
  have CB1 := fun (W : World) (A : Option Addr) (n cap : Nat) (A2 : Option Addr) (n2 cap2 : Nat) (hi : ArcIn W A n A2 n2 b) => get_any A n cap A2 n2 cap2 b file W hi (right_sz (by rw [hb]; exact hra1))
  rw [show Pl.get b file = (text, 0) from by rw [hb]; exact put_get hput] at CB1
  have CB2 := fun (W : World) (A : Option Addr) (n cap : Nat) (A2 : Option Addr) (n2 cap2 : Nat) (hi : ArcIn W A n A2 n2 b) => get_any A n cap A2 n2 cap2 b other W hi (right_sz (by rw [hb]; exact hra1))
  rw [show Pl.get b other = (tw, fw) from by rw [hb, put_other hput hsame, htw, hfw]] at CB2
  have CR := fun (W : World) (A : Option Addr) (n cap : Nat) (A2 : Option Addr) (n2 cap2 : Nat) (hi : ArcIn W A n A2 n2 b) => range_any A n cap A2 n2 cap2 b file m q W hi (right_sz (by rw [hb]; exact hra1)) hm0 hm1 hq0 hq1
  have CK := fun (W : World) (A : Option Addr) (n cap : Nat) (A2 : Option Addr) (n2 cap2 : Nat) (hi : ArcIn W A n A2 n2 b) => check_arch A n cap A2 n2 cap2 b W hi (right_sz (by rw [hb]; exact hra1))
  rw [(check_iff b).2 (by rw [hb]; exact hra1)] at CK
  obtain ⟨tr, htr⟩ : ∃ t, t = (Pl.range b file m q).1 := ⟨_, rfl⟩
  obtain ⟨er, her⟩ : ∃ t, t = (Pl.range b file m q).2 := ⟨_, rfl⟩
  rw [← htr, ← her] at CR
  rw [← hb, ← her] at hrng
  have f1 : ((er : Int) != 0) = true := by rw [bne_iff_ne]; omega
  have f2 : ((er : Int) == 0) = false := by rw [beq_eq_false_iff_ne]; omega
  have f3 : ¬ (er : Int) = 0 := by omega
  clear htr her hrng
  rw [show put a file text k = (b, 0) from Prod.ext hb.symm hput] at CP
  obtain ⟨ed, hed⟩ : ∃ t, t = (drop a file).2 := ⟨_, rfl⟩
  rw [show drop a file = (c, ed) from Prod.ext hc.symm hed.symm] at CD
  rw [← hed] at hdrop
  have o1 : ((ed : Int) != 0) = true := by rw [bne_iff_ne]; omega
  have o2 : ((ed : Int) == 0) = false := by rw [beq_eq_false_iff_ne]; omega
  have o3 : ¬ (ed : Int) = 0 := by omega
  clear hed
  rw [← htw, ← hfw] at CG
  have s1 : (other == file) = false := by rw [beq_eq_false_iff_ne]; exact hsame
  have s2 : (other != file) = true := by rw [bne_iff_ne]; exact hsame
  clear hsame
  have CP := hide CP
  have CD := hide CD
  have CG := hide CG
  have CB1 := hide CB1
  have CR := hide CR
  have CK := hide CK
  have CB2 := hide CB2
  clear hz hb hc htw hfw hra1 hra2 hput hdrop
  obtain ⟨B, hB⟩ : ∃ B, B = w.heap.size := ⟨_, rfl⟩
  obtain ⟨w0, hw0⟩ : ∃ w0, w0 = w.alloc (.cells #[.slice A n cap, .slice A2 n2 cap2] 33) := ⟨_, rfl⟩
  have H0 := hide (show St w w0 B [⟨B, A, n, cap, A2, n2, cap2, a⟩] by rw [hw0, hB]; exact St.box h cap cap2)
  have HB := hide hB
  have HW0 := hide hw0
  have HM := hide hm
  rw [← hB]
  clear hB hw0 hm
  go_enter Tryz.func9, Tryz.ntmps9
  go_upto_region 1 with fail
  rw [← unhide HW0, ← unhide HB]
  have u0x0 : w0.cell? ⟨B, 0, none⟩ = some (.slice A n cap) := (unhide H0).c0 0 rfl
  have v0x0 : w0.cell? ⟨B, 1, none⟩ = some (.slice A2 n2 cap2) := (unhide H0).c1 0 rfl
  go_wp2_with fail
  refine (unhide CP _ ((unhide H0).at_ 0 rfl).i).mono ?_
  rintro e w1 ⟨hr1, hb1⟩
  obtain ⟨Ra1, na1, ca1, Rb1, nb1, cb1, rfl, hi1, hc1, ho1⟩ := hr1.open
  have H1 := hide ((unhide H0).below hb1)
  have HI1 := hide hi1
  have HC1 := hide hc1
  have HO1 := hide ho1
  clear hb1 hi1 hc1 hr1 ho1
  go_upto_region 2 with (refine wpList_store_row rfl 33 (.tmp 15) (.tmp 37) rfl w1.heap.size #[.slice Ra1 na1 ca1, .slice Rb1 nb1 cb1] rfl rfl 33 _ (heap_alloc_new _ _) sizeArc rfl (one_two _ _ _ _ _ _) ?_)
  obtain ⟨x1, hx1⟩ : ∃ x, x = (w1.alloc (.cells #[.slice none 0 0, .slice none 0 0] 33)).setRow w1.heap.size #[.slice Ra1 na1 ca1, .slice Rb1 nb1 cb1] := ⟨_, rfl⟩
  obtain ⟨P1, hP1⟩ : ∃ P, P = w1.heap.size := ⟨_, rfl⟩
  have G1 := hide (show St w x1 B [⟨P1, Ra1, na1, ca1, Rb1, nb1, cb1, b⟩, ⟨B, A, n, cap, A2, n2, cap2, a⟩] by rw [hx1, hP1]; exact (unhide H1).new (unhide HI1) ca1 cb1)
  rw [← hx1, ← hP1]
  clear hx1 hP1
  clear u0x0 v0x0
  have u1x0 : x1.cell? ⟨P1, 0, none⟩ = some (.slice Ra1 na1 ca1) := (unhide G1).c0 0 rfl
  have v1x0 : x1.cell? ⟨P1, 1, none⟩ = some (.slice Rb1 nb1 cb1) := (unhide G1).c1 0 rfl
  have u1x1 : x1.cell? ⟨B, 0, none⟩ = some (.slice A n cap) := (unhide G1).c0 1 rfl
  have v1x1 : x1.cell? ⟨B, 1, none⟩ = some (.slice A2 n2 cap2) := (unhide G1).c1 1 rfl
  go_wp2_with fail
  refine (unhide CG _ ((unhide G1).at_ 1 rfl).i).mono ?_
  rintro e w2 ⟨rfl, hb2⟩
  have H2 := hide ((unhide G1).below hb2)
  clear hb2
  clear u1x0 v1x0 u1x1 v1x1
  have u2x0 : w2.cell? ⟨P1, 0, none⟩ = some (.slice Ra1 na1 ca1) := (unhide H2).c0 0 rfl
  have v2x0 : w2.cell? ⟨P1, 1, none⟩ = some (.slice Rb1 nb1 cb1) := (unhide H2).c1 0 rfl
  have u2x1 : w2.cell? ⟨B, 0, none⟩ = some (.slice A n cap) := (unhide H2).c0 1 rfl
  have v2x1 : w2.cell? ⟨B, 1, none⟩ = some (.slice A2 n2 cap2) := (unhide H2).c1 1 rfl
  go_wp2_with fail
  refine (unhide CB1 _ _ _ _ _ _ _ ((unhide H2).at_ 0 rfl).i).mono ?_
  rintro e w3 ⟨rfl, hb3⟩
  have H3 := hide ((unhide H2).below hb3)
  clear hb3
  clear u2x0 v2x0 u2x1 v2x1
  have u3x0 : w3.cell? ⟨P1, 0, none⟩ = some (.slice Ra1 na1 ca1) := (unhide H3).c0 0 rfl
  have v3x0 : w3.cell? ⟨P1, 1, none⟩ = some (.slice Rb1 nb1 cb1) := (unhide H3).c1 0 rfl
  have u3x1 : w3.cell? ⟨B, 0, none⟩ = some (.slice A n cap) := (unhide H3).c0 1 rfl
  have v3x1 : w3.cell? ⟨B, 1, none⟩ = some (.slice A2 n2 cap2) := (unhide H3).c1 1 rfl
  go_wp2_with fail
  refine (unhide CB2 _ _ _ _ _ _ _ ((unhide H3).at_ 0 rfl).i).mono ?_
  rintro e w4 ⟨rfl, hb4⟩
  have H4 := hide ((unhide H3).below hb4)
  clear hb4
  clear u3x0 v3x0 u3x1 v3x1
  have u4x0 : w4.cell? ⟨P1, 0, none⟩ = some (.slice Ra1 na1 ca1) := (unhide H4).c0 0 rfl
  have v4x0 : w4.cell? ⟨P1, 1, none⟩ = some (.slice Rb1 nb1 cb1) := (unhide H4).c1 0 rfl
  have u4x1 : w4.cell? ⟨B, 0, none⟩ = some (.slice A n cap) := (unhide H4).c0 1 rfl
  have v4x1 : w4.cell? ⟨B, 1, none⟩ = some (.slice A2 n2 cap2) := (unhide H4).c1 1 rfl
  go_wp2_with fail
  refine (unhide CR _ _ _ _ _ _ _ ((unhide H4).at_ 0 rfl).i).mono ?_
  rintro e w5 ⟨rfl, hb5⟩
  have H5 := hide ((unhide H4).below hb5)
  clear hb5
  clear u4x0 v4x0 u4x1 v4x1
  have u5x0 : w5.cell? ⟨P1, 0, none⟩ = some (.slice Ra1 na1 ca1) := (unhide H5).c0 0 rfl
  have v5x0 : w5.cell? ⟨P1, 1, none⟩ = some (.slice Rb1 nb1 cb1) := (unhide H5).c1 0 rfl
  have u5x1 : w5.cell? ⟨B, 0, none⟩ = some (.slice A n cap) := (unhide H5).c0 1 rfl
  have v5x1 : w5.cell? ⟨B, 1, none⟩ = some (.slice A2 n2 cap2) := (unhide H5).c1 1 rfl
  go_wp2_with fail
  refine (unhide CK _ _ _ _ _ _ _ ((unhide H5).at_ 0 rfl).i).mono ?_
  rintro e w6 ⟨rfl, hb6⟩
  have H6 := hide ((unhide H5).below hb6)
  clear hb6
  clear u5x0 v5x0 u5x1 v5x1
  have u6x0 : w6.cell? ⟨P1, 0, none⟩ = some (.slice Ra1 na1 ca1) := (unhide H6).c0 0 rfl
  have v6x0 : w6.cell? ⟨P1, 1, none⟩ = some (.slice Rb1 nb1 cb1) := (unhide H6).c1 0 rfl
  have u6x1 : w6.cell? ⟨B, 0, none⟩ = some (.slice A n cap) := (unhide H6).c0 1 rfl
  have v6x1 : w6.cell? ⟨B, 1, none⟩ = some (.slice A2 n2 cap2) := (unhide H6).c1 1 rfl
  go_wp2_with fail
  refine (unhide CD _ ((unhide H6).at_ 1 rfl).i).mono ?_
  rintro e w7 ⟨hr7, hb7⟩
  obtain ⟨Ra7, na7, ca7, Rb7, nb7, cb7, rfl, hi7, hc7, ho7⟩ := hr7.open
  have H7 := hide ((unhide H6).below hb7)
  have HI7 := hide hi7
  have HC7 := hide hc7
  have HO7 := hide ho7
  clear hb7 hi7 hc7 hr7 ho7
  go_upto_region 12 with (refine wpList_store_row rfl 33 (.tmp 25) (.tmp 126) rfl w7.heap.size #[.slice Ra7 na7 ca7, .slice Rb7 nb7 cb7] rfl rfl 33 _ (heap_alloc_new _ _) sizeArc rfl (one_two _ _ _ _ _ _) ?_)
  obtain ⟨x7, hx7⟩ : ∃ x, x = (w7.alloc (.cells #[.slice none 0 0, .slice none 0 0] 33)).setRow w7.heap.size #[.slice Ra7 na7 ca7, .slice Rb7 nb7 cb7] := ⟨_, rfl⟩
  obtain ⟨P7, hP7⟩ : ∃ P, P = w7.heap.size := ⟨_, rfl⟩
  have G7 := hide (show St w x7 B [⟨P7, Ra7, na7, ca7, Rb7, nb7, cb7, c⟩, ⟨P1, Ra1, na1, ca1, Rb1, nb1, cb1, b⟩, ⟨B, A, n, cap, A2, n2, cap2, a⟩] by rw [hx7, hP7]; exact (unhide H7).new (unhide HI7) ca7 cb7)
  rw [← hx7, ← hP7]
  clear hx7 hP7
  clear u6x0 v6x0 u6x1 v6x1
  have u7x0 : x7.cell? ⟨P7, 0, none⟩ = some (.slice Ra7 na7 ca7) := (unhide G7).c0 0 rfl
  have v7x0 : x7.cell? ⟨P7, 1, none⟩ = some (.slice Rb7 nb7 cb7) := (unhide G7).c1 0 rfl
  have u7x1 : x7.cell? ⟨P1, 0, none⟩ = some (.slice Ra1 na1 ca1) := (unhide G7).c0 1 rfl
  have v7x1 : x7.cell? ⟨P1, 1, none⟩ = some (.slice Rb1 nb1 cb1) := (unhide G7).c1 1 rfl
  have u7x2 : x7.cell? ⟨B, 0, none⟩ = some (.slice A n cap) := (unhide G7).c0 2 rfl
  have v7x2 : x7.cell? ⟨B, 1, none⟩ = some (.slice A2 n2 cap2) := (unhide G7).c1 2 rfl
  go_wp2_with fail
  refine (archBegun_any _ ((unhide HM).up (by have := (unhide G7).bel; rw [unhide HB] at this; exact this))).mono ?_
  rintro e w8 ⟨rfl, hb8⟩
  have H8 := hide ((unhide G7).below hb8)
  clear hb8
  clear u7x0 v7x0 u7x1 v7x1 u7x2 v7x2
  have u8x0 : w8.cell? ⟨P7, 0, none⟩ = some (.slice Ra7 na7 ca7) := (unhide H8).c0 0 rfl
  have v8x0 : w8.cell? ⟨P7, 1, none⟩ = some (.slice Rb7 nb7 cb7) := (unhide H8).c1 0 rfl
  have u8x1 : w8.cell? ⟨P1, 0, none⟩ = some (.slice Ra1 na1 ca1) := (unhide H8).c0 1 rfl
  have v8x1 : w8.cell? ⟨P1, 1, none⟩ = some (.slice Rb1 nb1 cb1) := (unhide H8).c1 1 rfl
  have u8x2 : w8.cell? ⟨B, 0, none⟩ = some (.slice A n cap) := (unhide H8).c0 2 rfl
  have v8x2 : w8.cell? ⟨B, 1, none⟩ = some (.slice A2 n2 cap2) := (unhide H8).c1 2 rfl
  go_wp2_with fail
  go_ret
  exact ⟨rfl, (unhide H8).bel⟩
end Go.Proofs.YtjpgoeimclipjaaGreat
