/- ArchGets: for every input the law returns true, and the input reads as it did. No condition. -/
import Derived.Test.YtjpgoeimclipjaaGreatAg12
import Derived.Deep.Slices
import Derived.Deep.Fields
import Derived.ChangeSame
import Derived.Carry
import Derived.OpenVars
import Derived.HandedShaped
import Derived.Shelf.Vars
import Derived.Lib.SmallJoins
namespace Go.Proofs.YtjpgoeimclipjaaGreat
open Go.RowKit Go.Lib Pl
attribute [local go_sem] ext_list app_list
set_option maxHeartbeats 8000000 in
set_option maxRecDepth 100000 in
theorem archBegun_any (w : World) (hm : MaxLenIs w) : Calls Tryz.prog 30 #[] w fun e w' => e = .returned (.bool true) ∧ Below w.heap.size w w' := by
  obtain ⟨B, hB⟩ : ∃ B, B = w.heap.size := ⟨_, rfl⟩
  have H0 := hide (show St w w B [] by rw [hB]; exact St.nil w)
  have HM := hide hm
  have HB := hide hB
  have CG1 := fun (W : World) (A : Option Addr) (n cap : Nat) (A2 : Option Addr) (n2 cap2 : Nat) (h : ArcIn W A n A2 n2 twoA) => get_any A n cap A2 n2 cap2 twoA [98] W h (right_sz twoA_right)
  rw [twoA_get_b] at CG1
  have CR := fun (W : World) (A : Option Addr) (n cap : Nat) (A2 : Option Addr) (n2 cap2 : Nat) (h : ArcIn W A n A2 n2 twoA) => range_any A n cap A2 n2 cap2 twoA [97] 4 4 W h (right_sz twoA_right) (by decide) (by decide) (by decide) (by decide)
  rw [twoA_range] at CR
  have CD := fun (W : World) (A : Option Addr) (n cap : Nat) (A2 : Option Addr) (n2 cap2 : Nat) (h : ArcIn W A n A2 n2 twoA) => drop_any A n cap A2 n2 cap2 twoA [97] W h (right_sz twoA_right)
  rw [show drop twoA [97] = (twoDr, 0) from by rw [two_drop, twoDr_eq]] at CD
  have CG2 := fun (W : World) (A : Option Addr) (n cap : Nat) (A2 : Option Addr) (n2 cap2 : Nat) (h : ArcIn W A n A2 n2 twoDr) => get_any A n cap A2 n2 cap2 twoDr [97] W h (right_sz twoDr_right)
  rw [twoDr_get] at CG2
  have CC := fun (W : World) (A : Option Addr) (n cap : Nat) (A2 : Option Addr) (n2 cap2 : Nat) (h : ArcIn W A n A2 n2 twoDr) => compact_any A n cap A2 n2 cap2 twoDr W h (right_sz twoDr_right)
  rw [show compact twoDr = (twoC, 0) from Prod.ext rfl two_compact] at CC
  have CS := fun (W : World) (A : Option Addr) (n cap : Nat) (A2 : Option Addr) (n2 cap2 : Nat) (h : ArcIn W A n A2 n2 twoC) (hc : n ≤ cap) => arcSize_any A n cap A2 n2 cap2 twoC W h (right_sz twoC_right) hc
  rw [(check_iff twoC).2 twoC_right, if_pos rfl] at CS
  have CP := fun (W : World) (A : Option Addr) (n cap : Nat) (A2 : Option Addr) (n2 cap2 : Nat) (h : ArcIn W A n A2 n2 twoA) => put_any A n cap A2 n2 cap2 twoA [99] [] 0 W h (right_sz twoA_right) (by decide) (by decide) (by decide) (by decide)
  obtain ⟨pA, hpA⟩ : ∃ pA, pA = (put twoA [99] [] 0).1 := ⟨_, rfl⟩
  rw [show put twoA [99] [] 0 = (pA, 0) from by rw [hpA, two_c]] at CP
  have hp3 : pA.fs.length = 3 := by rw [hpA, two_c]; rfl
  have CK := fun (W : World) (A : Option Addr) (n cap : Nat) (A2 : Option Addr) (n2 cap2 : Nat) (h : ArcIn W A n A2 n2 twoA) => check_arch A n cap A2 n2 cap2 twoA W h (right_sz twoA_right)
  rw [(check_iff twoA).2 twoA_right] at CK
  obtain ⟨z, hz⟩ : ∃ z, z = sizeA twoC := ⟨_, rfl⟩
  have hz33 : (32 : Int) < (z : Int) := by have := twoC_fs.2; omega
  rw [← hz] at CS
  have CG1 := hide CG1
  have CR := hide CR
  have CD := hide CD
  have CG2 := hide CG2
  have CC := hide CC
  have CS := hide CS
  have CP := hide CP
  have CK := hide CK
  have HP3 := hide hp3
  rw [← hB]
  clear hB hm hz hpA hp3
  go_enter Tryz.func30, Tryz.ntmps30
  go_wp2_with fail
  refine (two_any _ ((unhide HM).up (by have := (unhide H0).bel; rw [unhide HB] at this; exact this))).mono ?_
  rintro e w1 ⟨⟨Ra1, na1, ca1, Rb1, nb1, cb1, rfl, hi1, hc1, hn1⟩, hb1⟩
  have H1 := hide ((unhide H0).below hb1)
  have HI1 := hide hi1
  have HC1 := hide hc1
  subst hn1
  clear hb1 hi1 hc1
  go_wp2_with fail
  refine (unhide CG1 _ _ _ _ _ _ _ (unhide HI1)).mono ?_
  rintro e w2 ⟨rfl, hb2⟩
  have H2 := hide ((unhide H1).below hb2)
  clear hb2
  go_wp2_with fail
  refine (two_any _ ((unhide HM).up (by have := (unhide H2).bel; rw [unhide HB] at this; exact this))).mono ?_
  rintro e w3 ⟨⟨Ra3, na3, ca3, Rb3, nb3, cb3, rfl, hi3, hc3, hn3⟩, hb3⟩
  have H3 := hide ((unhide H2).below hb3)
  have HI3 := hide hi3
  have HC3 := hide hc3
  subst hn3
  clear hb3 hi3 hc3
  go_wp2_with fail
  refine (unhide CR _ _ _ _ _ _ _ (unhide HI3)).mono ?_
  rintro e w4 ⟨rfl, hb4⟩
  have H4 := hide ((unhide H3).below hb4)
  clear hb4
  go_wp2_with fail
  refine (two_any _ ((unhide HM).up (by have := (unhide H4).bel; rw [unhide HB] at this; exact this))).mono ?_
  rintro e w5 ⟨⟨Ra5, na5, ca5, Rb5, nb5, cb5, rfl, hi5, hc5, hn5⟩, hb5⟩
  have H5 := hide ((unhide H4).below hb5)
  have HI5 := hide hi5
  have HC5 := hide hc5
  subst hn5
  clear hb5 hi5 hc5
  go_wp2_with fail
  refine (unhide CD _ _ _ _ _ _ _ (unhide HI5)).mono ?_
  rintro e w6 ⟨hr6, hb6⟩
  obtain ⟨Ra6, na6, ca6, Rb6, nb6, cb6, rfl, hi6, hc6, ho6⟩ := hr6.open
  have H6 := hide ((unhide H5).below hb6)
  have HI6 := hide hi6
  have HC6 := hide hc6
  have HO6 := hide ho6
  clear hb6 hi6 hc6 hr6 ho6
  go_upto_region 4 with (refine wpList_store_row rfl 33 (.tmp 5) (.tmp 28) rfl w6.heap.size #[.slice Ra6 na6 ca6, .slice Rb6 nb6 cb6] rfl rfl 33 _ (heap_alloc_new _ _) sizeArc rfl (one_two _ _ _ _ _ _) ?_)
  obtain ⟨x6, hx6⟩ : ∃ x, x = (w6.alloc (.cells #[.slice none 0 0, .slice none 0 0] 33)).setRow w6.heap.size #[.slice Ra6 na6 ca6, .slice Rb6 nb6 cb6] := ⟨_, rfl⟩
  obtain ⟨P6, hP6⟩ : ∃ P, P = w6.heap.size := ⟨_, rfl⟩
  have G6 := hide (show St w x6 B [⟨P6, Ra6, na6, ca6, Rb6, nb6, cb6, twoDr⟩] by rw [hx6, hP6]; exact (unhide H6).new (unhide HI6) ca6 cb6)
  rw [← hx6, ← hP6]
  clear hx6 hP6
  have u6x0 : x6.cell? ⟨P6, 0, none⟩ = some (.slice Ra6 na6 ca6) := (unhide G6).c0 0 rfl
  have v6x0 : x6.cell? ⟨P6, 1, none⟩ = some (.slice Rb6 nb6 cb6) := (unhide G6).c1 0 rfl
  go_wp2_with fail
  refine (unhide CG2 _ _ _ _ _ _ _ ((unhide G6).at_ 0 rfl).i).mono ?_
  rintro e w7 ⟨rfl, hb7⟩
  have H7 := hide ((unhide G6).below hb7)
  clear hb7
  clear u6x0 v6x0
  have u7x0 : w7.cell? ⟨P6, 0, none⟩ = some (.slice Ra6 na6 ca6) := (unhide H7).c0 0 rfl
  have v7x0 : w7.cell? ⟨P6, 1, none⟩ = some (.slice Rb6 nb6 cb6) := (unhide H7).c1 0 rfl
  go_wp2_with fail
  refine (unhide CC _ _ _ _ _ _ _ ((unhide H7).at_ 0 rfl).i).mono ?_
  rintro e w8 ⟨hr8, hb8⟩
  obtain ⟨Ra8, na8, ca8, Rb8, nb8, cb8, rfl, hi8, hc8, ho8⟩ := hr8.open
  have H8 := hide ((unhide H7).below hb8)
  have HI8 := hide hi8
  have HC8 := hide hc8
  have HO8 := hide ho8
  clear hb8 hi8 hc8 hr8 ho8
  obtain rfl : na8 = 1 := by have := (unhide HI8).s.1; rw [twoC_ds] at this; exact this.symm
  go_upto_region 6 with (refine wpList_store_row rfl 33 (.tmp 9) (.tmp 38) rfl w8.heap.size #[.slice Ra8 1 ca8, .slice Rb8 nb8 cb8] rfl rfl 33 _ (heap_alloc_new _ _) sizeArc rfl (one_two _ _ _ _ _ _) ?_)
  obtain ⟨x8, hx8⟩ : ∃ x, x = (w8.alloc (.cells #[.slice none 0 0, .slice none 0 0] 33)).setRow w8.heap.size #[.slice Ra8 1 ca8, .slice Rb8 nb8 cb8] := ⟨_, rfl⟩
  obtain ⟨P8, hP8⟩ : ∃ P, P = w8.heap.size := ⟨_, rfl⟩
  have G8 := hide (show St w x8 B [⟨P8, Ra8, 1, ca8, Rb8, nb8, cb8, twoC⟩, ⟨P6, Ra6, na6, ca6, Rb6, nb6, cb6, twoDr⟩] by rw [hx8, hP8]; exact (unhide H8).new (unhide HI8) ca8 cb8)
  rw [← hx8, ← hP8]
  clear hx8 hP8
  clear u7x0 v7x0
  have u8x0 : x8.cell? ⟨P8, 0, none⟩ = some (.slice Ra8 1 ca8) := (unhide G8).c0 0 rfl
  have v8x0 : x8.cell? ⟨P8, 1, none⟩ = some (.slice Rb8 nb8 cb8) := (unhide G8).c1 0 rfl
  have u8x1 : x8.cell? ⟨P6, 0, none⟩ = some (.slice Ra6 na6 ca6) := (unhide G8).c0 1 rfl
  have v8x1 : x8.cell? ⟨P6, 1, none⟩ = some (.slice Rb6 nb6 cb6) := (unhide G8).c1 1 rfl
  go_wp2_with fail
  refine (unhide CS _ _ _ _ _ _ _ ((unhide G8).at_ 0 rfl).i (unhide HC8)).mono ?_
  rintro e w9 ⟨rfl, hb9⟩
  have H9 := hide ((unhide G8).below hb9)
  clear hb9
  clear u8x0 v8x0 u8x1 v8x1
  have u9x0 : w9.cell? ⟨P8, 0, none⟩ = some (.slice Ra8 1 ca8) := (unhide H9).c0 0 rfl
  have v9x0 : w9.cell? ⟨P8, 1, none⟩ = some (.slice Rb8 nb8 cb8) := (unhide H9).c1 0 rfl
  have u9x1 : w9.cell? ⟨P6, 0, none⟩ = some (.slice Ra6 na6 ca6) := (unhide H9).c0 1 rfl
  have v9x1 : w9.cell? ⟨P6, 1, none⟩ = some (.slice Rb6 nb6 cb6) := (unhide H9).c1 1 rfl
  go_wp2_with fail
  refine (two_any _ ((unhide HM).up (by have := (unhide H9).bel; rw [unhide HB] at this; exact this))).mono ?_
  rintro e w10 ⟨⟨Ra10, na10, ca10, Rb10, nb10, cb10, rfl, hi10, hc10, hn10⟩, hb10⟩
  have H10 := hide ((unhide H9).below hb10)
  have HI10 := hide hi10
  have HC10 := hide hc10
  subst hn10
  clear hb10 hi10 hc10
  clear u9x0 v9x0 u9x1 v9x1
  have u10x0 : w10.cell? ⟨P8, 0, none⟩ = some (.slice Ra8 1 ca8) := (unhide H10).c0 0 rfl
  have v10x0 : w10.cell? ⟨P8, 1, none⟩ = some (.slice Rb8 nb8 cb8) := (unhide H10).c1 0 rfl
  have u10x1 : w10.cell? ⟨P6, 0, none⟩ = some (.slice Ra6 na6 ca6) := (unhide H10).c0 1 rfl
  have v10x1 : w10.cell? ⟨P6, 1, none⟩ = some (.slice Rb6 nb6 cb6) := (unhide H10).c1 1 rfl
  go_wp2_with fail
  refine (unhide CP _ _ _ _ _ _ _ (unhide HI10)).mono ?_
  rintro e w11 ⟨hr11, hb11⟩
  obtain ⟨Ra11, na11, ca11, Rb11, nb11, cb11, rfl, hi11, hc11, ho11⟩ := hr11.open
  have H11 := hide ((unhide H10).below hb11)
  have HI11 := hide hi11
  have HC11 := hide hc11
  have HO11 := hide ho11
  clear hb11 hi11 hc11 hr11 ho11
  obtain rfl : nb11 = 3 := by have := (unhide HI11).f.1; rw [unhide HP3] at this; exact this.symm
  go_upto_region 8 with (refine wpList_store_row rfl 33 (.tmp 13) (.tmp 48) rfl w11.heap.size #[.slice Ra11 na11 ca11, .slice Rb11 3 cb11] rfl rfl 33 _ (heap_alloc_new _ _) sizeArc rfl (one_two _ _ _ _ _ _) ?_)
  obtain ⟨x11, hx11⟩ : ∃ x, x = (w11.alloc (.cells #[.slice none 0 0, .slice none 0 0] 33)).setRow w11.heap.size #[.slice Ra11 na11 ca11, .slice Rb11 3 cb11] := ⟨_, rfl⟩
  obtain ⟨P11, hP11⟩ : ∃ P, P = w11.heap.size := ⟨_, rfl⟩
  have G11 := hide (show St w x11 B [⟨P11, Ra11, na11, ca11, Rb11, 3, cb11, pA⟩, ⟨P8, Ra8, 1, ca8, Rb8, nb8, cb8, twoC⟩, ⟨P6, Ra6, na6, ca6, Rb6, nb6, cb6, twoDr⟩] by rw [hx11, hP11]; exact (unhide H11).new (unhide HI11) ca11 cb11)
  rw [← hx11, ← hP11]
  clear hx11 hP11
  clear u10x0 v10x0 u10x1 v10x1
  have u11x0 : x11.cell? ⟨P11, 0, none⟩ = some (.slice Ra11 na11 ca11) := (unhide G11).c0 0 rfl
  have v11x0 : x11.cell? ⟨P11, 1, none⟩ = some (.slice Rb11 3 cb11) := (unhide G11).c1 0 rfl
  have u11x1 : x11.cell? ⟨P8, 0, none⟩ = some (.slice Ra8 1 ca8) := (unhide G11).c0 1 rfl
  have v11x1 : x11.cell? ⟨P8, 1, none⟩ = some (.slice Rb8 nb8 cb8) := (unhide G11).c1 1 rfl
  have u11x2 : x11.cell? ⟨P6, 0, none⟩ = some (.slice Ra6 na6 ca6) := (unhide G11).c0 2 rfl
  have v11x2 : x11.cell? ⟨P6, 1, none⟩ = some (.slice Rb6 nb6 cb6) := (unhide G11).c1 2 rfl
  go_wp2_with fail
  refine (two_any _ ((unhide HM).up (by have := (unhide G11).bel; rw [unhide HB] at this; exact this))).mono ?_
  rintro e w12 ⟨⟨Ra12, na12, ca12, Rb12, nb12, cb12, rfl, hi12, hc12, hn12⟩, hb12⟩
  have H12 := hide ((unhide G11).below hb12)
  have HI12 := hide hi12
  have HC12 := hide hc12
  subst hn12
  clear hb12 hi12 hc12
  clear u11x0 v11x0 u11x1 v11x1 u11x2 v11x2
  have u12x0 : w12.cell? ⟨P11, 0, none⟩ = some (.slice Ra11 na11 ca11) := (unhide H12).c0 0 rfl
  have v12x0 : w12.cell? ⟨P11, 1, none⟩ = some (.slice Rb11 3 cb11) := (unhide H12).c1 0 rfl
  have u12x1 : w12.cell? ⟨P8, 0, none⟩ = some (.slice Ra8 1 ca8) := (unhide H12).c0 1 rfl
  have v12x1 : w12.cell? ⟨P8, 1, none⟩ = some (.slice Rb8 nb8 cb8) := (unhide H12).c1 1 rfl
  have u12x2 : w12.cell? ⟨P6, 0, none⟩ = some (.slice Ra6 na6 ca6) := (unhide H12).c0 2 rfl
  have v12x2 : w12.cell? ⟨P6, 1, none⟩ = some (.slice Rb6 nb6 cb6) := (unhide H12).c1 2 rfl
  go_wp2_with fail
  refine (unhide CK _ _ _ _ _ _ _ (unhide HI12)).mono ?_
  rintro e w13 ⟨rfl, hb13⟩
  have H13 := hide ((unhide H12).below hb13)
  clear hb13
  clear u12x0 v12x0 u12x1 v12x1 u12x2 v12x2
  have u13x0 : w13.cell? ⟨P11, 0, none⟩ = some (.slice Ra11 na11 ca11) := (unhide H13).c0 0 rfl
  have v13x0 : w13.cell? ⟨P11, 1, none⟩ = some (.slice Rb11 3 cb11) := (unhide H13).c1 0 rfl
  have u13x1 : w13.cell? ⟨P8, 0, none⟩ = some (.slice Ra8 1 ca8) := (unhide H13).c0 1 rfl
  have v13x1 : w13.cell? ⟨P8, 1, none⟩ = some (.slice Rb8 nb8 cb8) := (unhide H13).c1 1 rfl
  have u13x2 : w13.cell? ⟨P6, 0, none⟩ = some (.slice Ra6 na6 ca6) := (unhide H13).c0 2 rfl
  have v13x2 : w13.cell? ⟨P6, 1, none⟩ = some (.slice Rb6 nb6 cb6) := (unhide H13).c1 2 rfl
  go_wp2_with fail
  refine (two_any _ ((unhide HM).up (by have := (unhide H13).bel; rw [unhide HB] at this; exact this))).mono ?_
  rintro e w14 ⟨⟨Ra14, na14, ca14, Rb14, nb14, cb14, rfl, hi14, hc14, hn14⟩, hb14⟩
  have H14 := hide ((unhide H13).below hb14)
  have HI14 := hide hi14
  have HC14 := hide hc14
  subst hn14
  clear hb14 hi14 hc14
  clear u13x0 v13x0 u13x1 v13x1 u13x2 v13x2
  have u14x0 : w14.cell? ⟨P11, 0, none⟩ = some (.slice Ra11 na11 ca11) := (unhide H14).c0 0 rfl
  have v14x0 : w14.cell? ⟨P11, 1, none⟩ = some (.slice Rb11 3 cb11) := (unhide H14).c1 0 rfl
  have u14x1 : w14.cell? ⟨P8, 0, none⟩ = some (.slice Ra8 1 ca8) := (unhide H14).c0 1 rfl
  have v14x1 : w14.cell? ⟨P8, 1, none⟩ = some (.slice Rb8 nb8 cb8) := (unhide H14).c1 1 rfl
  have u14x2 : w14.cell? ⟨P6, 0, none⟩ = some (.slice Ra6 na6 ca6) := (unhide H14).c0 2 rfl
  have v14x2 : w14.cell? ⟨P6, 1, none⟩ = some (.slice Rb6 nb6 cb6) := (unhide H14).c1 2 rfl
  obtain ⟨b, off, t, hAe, _, ht, hcell⟩ := (unhide HI14).s.at_ (k := 0) (by decide)
  subst hAe
  have ht2 : t.length = 32 := by rw [twoA_eq] at ht; simp at ht; rw [← ht]; exact twoD_len
  rw [Nat.add_zero] at hcell
  have ht3 : ((t.length : Int) == 32) = true := by rw [beq_iff_eq]; omega
  have HT2 := hide ht2
  clear ht ht2
  have hfd : ∀ w : World, (Instr.field 33 (arcV (some ⟨b, off, none⟩) 1 ca14 Rb14 nb14 cb14) 0).run Tryz.prog w = .ok (.slice (some ⟨b, off, none⟩) 1 ca14) w := fun _ => by kernel_rfl
  go_wp2_with fail
  go_ret
  exact ⟨rfl, (unhide H14).bel⟩
end Go.Proofs.YtjpgoeimclipjaaGreat
namespace Go.Proofs.YtjpgoeimclipjaaGreat
open Go.RowKit Go.Lib Pl
attribute [local go_sem] ext_list app_list
set_option maxHeartbeats 8000000 in
set_option maxRecDepth 100000 in
theorem archGets_any (A : Option Addr) (n cap : Nat) (A2 : Option Addr) (n2 cap2 : Nat) (a : Arc) (file : Bytes) (m k : Int) (w : World) (h : ArcIn w A n A2 n2 a) (hz : ArcSz a) (hm0 : -9223372036854775808 ≤ m) (hm1 : m ≤ 9223372036854775807) (hk0 : -9223372036854775808 ≤ k) (hk1 : k ≤ 9223372036854775807) (hm : MaxLenIs w) :
    Calls Tryz.prog 7 #[arcV A n cap A2 n2 cap2, S file, I m, I k] w fun e w' => e = .returned (.bool true) ∧ Below w.heap.size w w' := by
  have CG := fun (W : World) (hi : ArcIn W A n A2 n2 a) => get_any A n cap A2 n2 cap2 a file W hi hz
  have CG2 := fun (W : World) (hi : ArcIn W A n A2 n2 a) => getOf_any A n cap A2 n2 cap2 a file W hi hz
  have CR := fun (W : World) (hi : ArcIn W A n A2 n2 a) => range_any A n cap A2 n2 cap2 a file m k W hi hz hm0 hm1 hk0 hk1
  have CR2 := fun (W : World) (hi : ArcIn W A n A2 n2 a) => rangeOf_any A n cap A2 n2 cap2 a file m k W hi hz hm0 hm1 hk0 hk1
  obtain ⟨t1, ht1⟩ : ∃ t, t = (Pl.get a file).1 := ⟨_, rfl⟩
  obtain ⟨e1, he1⟩ : ∃ t, t = (Pl.get a file).2 := ⟨_, rfl⟩
  obtain ⟨t2, ht2⟩ : ∃ t, t = (Pl.range a file m k).1 := ⟨_, rfl⟩
  obtain ⟨e2, he2⟩ : ∃ t, t = (Pl.range a file m k).2 := ⟨_, rfl⟩
  rw [← ht1, ← he1] at CG CG2
  rw [← ht2, ← he2] at CR CR2
  have CG := hide CG
  have CG2 := hide CG2
  have CR := hide CR
  have CR2 := hide CR2
  clear ht1 he1 ht2 he2 hz
  obtain ⟨B, hB⟩ : ∃ B, B = w.heap.size := ⟨_, rfl⟩
  obtain ⟨w0, hw0⟩ : ∃ w0, w0 = w.alloc (.cells #[.slice A n cap, .slice A2 n2 cap2] 33) := ⟨_, rfl⟩
  have H0 := hide (show St w w0 B [⟨B, A, n, cap, A2, n2, cap2, a⟩] by rw [hw0, hB]; exact St.box h cap cap2)
  have HB := hide hB
  have HW0 := hide hw0
  have HM := hide hm
  rw [← hB]
  clear hB hw0 hm
  go_enter Tryz.func7, Tryz.ntmps7
  go_upto_region 1 with fail
  rw [← unhide HW0, ← unhide HB]
  have u0x0 : w0.cell? ⟨B, 0, none⟩ = some (.slice A n cap) := (unhide H0).c0 0 rfl
  have v0x0 : w0.cell? ⟨B, 1, none⟩ = some (.slice A2 n2 cap2) := (unhide H0).c1 0 rfl
  go_wp2_with fail
  refine (unhide CG _ ((unhide H0).at_ 0 rfl).i).mono ?_
  rintro e w1 ⟨rfl, hb1⟩
  have H1 := hide ((unhide H0).below hb1)
  clear hb1
  clear u0x0 v0x0
  have u1x0 : w1.cell? ⟨B, 0, none⟩ = some (.slice A n cap) := (unhide H1).c0 0 rfl
  have v1x0 : w1.cell? ⟨B, 1, none⟩ = some (.slice A2 n2 cap2) := (unhide H1).c1 0 rfl
  go_wp2_with fail
  refine (unhide CR _ ((unhide H1).at_ 0 rfl).i).mono ?_
  rintro e w2 ⟨rfl, hb2⟩
  have H2 := hide ((unhide H1).below hb2)
  clear hb2
  clear u1x0 v1x0
  have u2x0 : w2.cell? ⟨B, 0, none⟩ = some (.slice A n cap) := (unhide H2).c0 0 rfl
  have v2x0 : w2.cell? ⟨B, 1, none⟩ = some (.slice A2 n2 cap2) := (unhide H2).c1 0 rfl
  go_wp2_with fail
  refine (unhide CG2 _ ((unhide H2).at_ 0 rfl).i).mono ?_
  rintro e w3 ⟨rfl, hb3⟩
  have H3 := hide ((unhide H2).below hb3)
  clear hb3
  clear u2x0 v2x0
  have u3x0 : w3.cell? ⟨B, 0, none⟩ = some (.slice A n cap) := (unhide H3).c0 0 rfl
  have v3x0 : w3.cell? ⟨B, 1, none⟩ = some (.slice A2 n2 cap2) := (unhide H3).c1 0 rfl
  go_wp2_with fail
  refine (unhide CR2 _ ((unhide H3).at_ 0 rfl).i).mono ?_
  rintro e w4 ⟨rfl, hb4⟩
  have H4 := hide ((unhide H3).below hb4)
  clear hb4
  clear u3x0 v3x0
  have u4x0 : w4.cell? ⟨B, 0, none⟩ = some (.slice A n cap) := (unhide H4).c0 0 rfl
  have v4x0 : w4.cell? ⟨B, 1, none⟩ = some (.slice A2 n2 cap2) := (unhide H4).c1 0 rfl
  go_wp2_with fail
  refine (archBegun_any _ ((unhide HM).up (by have := (unhide H4).bel; rw [unhide HB] at this; exact this))).mono ?_
  rintro e w5 ⟨rfl, hb5⟩
  have H5 := hide ((unhide H4).below hb5)
  clear hb5
  clear u4x0 v4x0
  have u5x0 : w5.cell? ⟨B, 0, none⟩ = some (.slice A n cap) := (unhide H5).c0 0 rfl
  have v5x0 : w5.cell? ⟨B, 1, none⟩ = some (.slice A2 n2 cap2) := (unhide H5).c1 0 rfl
  go_wp2_with fail
  go_ret
  exact ⟨rfl, (unhide H5).bel⟩
end Go.Proofs.YtjpgoeimclipjaaGreat
namespace Go.Proofs.YtjpgoeimclipjaaGreat
open Go.ChangeShapes Go.WideShapes Go.Deep Go.RowKit Pl
section
variable {H : Type} {enc : TypeId × Value → H} {P : Program} {w : World} {base : Nat} {spare : Nat → Bool} {held : Bool}
theorem open_slice_fields {t e : TypeId} {fs : Array Field} {fuel : Nat} {cs : List Value} {x : DataW H × List MemPlace} (ht : P.underlying t = some (.slice e)) (he : P.underlying e = some (.struct fs))
    (hone : oneCellFields P fs = true) (hC : P.cellsOf e = fs.size) (h : DataW.trod enc P w base spare held fuel t cs = some x) :
    (cs = [.slice none 0 0] ∧ x = (.nil, [])) ∨
    ∃ (a : Addr) (len cap m : Nat) (D : Nat → DataW H) (Pl : Nat → List MemPlace), cs = [.slice (some a) len cap] ∧ base ≤ a.block ∧ len ≤ cap ∧ cap ≤ maxLen ∧ m = (if spare a.block then cap else len) ∧
      x = (.slice ((List.range len).map D) ((List.range (m - len)).map fun j => D (len + j)), MemPlace.row a (m * fs.size) ++ (List.range m).flatMap Pl) ∧
      ∀ i, i < m → ∃ (ys : List (DataW H × List MemPlace)) (n : Nat), D i = .agg (ys.map (·.1)) ∧ Pl i = ys.flatMap (·.2) ∧ ys.length = fs.size ∧
        ∀ (j : Nat) (f : Field), fs[j]? = some f → ∃ (v : Value) (y : DataW H × List MemPlace), w.cell? (a.add (i * fs.size + j)) = some v ∧ ys[j]? = some y ∧ DataW.trod enc P w base spare held n f.type [v] = some y := by
  rcases open_slice ht h with h0 | ⟨a, len, cap, m, n, D, Pl, hcs, hb, hl, hm, hmm, hx, hi⟩
  · exact .inl h0
  · refine .inr ⟨a, len, cap, m, D, Pl, hcs, hb, hl, hm, hmm, by rw [hC] at hx; exact hx, fun i him => ?_⟩
    obtain ⟨cs', hc, ht'⟩ := hi i him
    rw [hC] at hc
    obtain ⟨ys, n', hn', hy, hlen, hyl, hf⟩ := DataW.trod_struct he ht'
    obtain ⟨_, hcl, hat⟩ := World.cells?_some hc
    simp only [Prod.mk.injEq] at hy
    refine ⟨ys, n', hy.1, hy.2, hyl, fun j f hj => ?_⟩
    obtain ⟨ho, hk⟩ := hone_of hone j f hj
    have hjl : j < fs.size := (Array.getElem?_eq_some_iff.1 hj).1
    have hcell := hat j hjl
    have hv : cs'[j]? = some (cs'[j]'(by omega)) := List.getElem?_eq_getElem (by omega)
    have h1 := hf j f hj
    rw [ho, hk] at h1
    have hone' : (cs'.drop j).take 1 = [cs'[j]'(by omega)] := by
      rw [List.drop_eq_getElem_cons (by omega)]
      rfl
    rw [hone'] at h1
    have hys : ys[j]? = some (ys[j]'(by omega)) := List.getElem?_eq_getElem (by omega)
    refine ⟨_, _, ?_, hys, h1.trans hys⟩
    rw [← Go.Deep.add_add, hcell, hv]
end
theorem trodAll_pa {H : Type} {enc : TypeId × Value → H} {P : Program} {w : World} {base : Nat} {spare : Nat → Bool} {held : Bool} {ts : List TypeId} {vs : List Value} {ds : List (DataW H)} {p p' : List MemPlace} (h : DataW.TrodAll enc P w base spare held ts vs ds p) (e : p = p') : DataW.TrodAll enc P w base spare held ts vs ds p' := e ▸ h
theorem list_of {α : Type} (n : Nat) (p : Nat → α → Prop) (h : ∀ i, i < n → ∃ a, p i a) : ∃ l : List α, l.length = n ∧ ∀ i a, l[i]? = some a → p i a := by
  induction n with
  | zero => exact ⟨[], rfl, by simp⟩
  | succ n ih =>
    obtain ⟨l, hl, hp⟩ := ih fun i hi => h i (by omega)
    obtain ⟨a, ha⟩ := h n (by omega)
    refine ⟨l ++ [a], by simp [hl], fun i b hb => ?_⟩
    by_cases hi : i < n
    · rw [List.getElem?_append_left (by omega)] at hb; exact hp i b hb
    · rw [List.getElem?_append_right (by omega)] at hb
      have h0 : i - l.length = 0 := by
        rcases Nat.eq_zero_or_pos (i - l.length) with h0 | h0
        · exact h0
        · rw [List.getElem?_eq_none (by simp; omega)] at hb; cases hb
      rw [h0] at hb
      simp at hb
      subst hb
      have : i = n := by omega
      subst this; exact ha
end Go.Proofs.YtjpgoeimclipjaaGreat
namespace Go.Proofs.YtjpgoeimclipjaaGreat
open Go.ChangeShapes Go.WideShapes Go.Deep Go.RowKit Pl
theorem maxLen_of_shape {w : World} (h : w.ShapedOpen Tryz.prog) : MaxLenIs w :=
  Go.Proofs.cell_of_shapedOpen_int (zero := #[.int .i64 0]) (t := 3) h (of_decide_eq_true (by kernel_rfl)) (by kernel_rfl) rfl (by kernel_rfl) (by kernel_rfl) Tryz.underlying3
end Go.Proofs.YtjpgoeimclipjaaGreat
namespace Go.Proofs.YtjpgoeimclipjaaGreat
open Go.ChangeShapes Go.WideShapes Go.Deep Go.RowKit Pl
theorem weights_all_mem {H : Type} {P : Program} {e : TypeId} : ∀ {l : List (DataW H)} {x : DataW H}, x ∈ l → ∀ n ∈ x.weights P e, n ∈ DataW.weightsAll P e l
  | y :: l, x, hx, n, hn => by
    simp only [DataW.weightsAll, List.mem_append]
    rcases List.mem_cons.1 hx with rfl | hx
    · exact .inl hn
    · exact .inr (weights_all_mem hx n hn)
set_option maxRecDepth 100000 in
theorem open_strsW {H : Type} {enc : TypeId × Value → H} {w : World} {fuel : Nat} {v : Value} {d : DataW H} {p : List MemPlace}
    (hf : DataW.trod enc Tryz.prog w 0 (fun _ => true) true fuel 30 [v] = some (d, p)) (hlt : ∀ x ∈ p, x.block < w.heap.size) (hwt : ∀ n ∈ d.weights Tryz.prog 30, n ≤ reachBytes) :
    ∃ A n cap l, v = .slice A n cap ∧ StrsAt w w.heap.size A n l ∧ (∀ t ∈ l, t.length ≤ 140737488355328) ∧ n ≤ 4611686018427387904 ∧ n ≤ cap := by
  rcases open_slice1 Tryz.underlying30 (by kernel_rfl) hf with ⟨hcs, hx⟩ | ⟨a, len, cap', m, k, V, D, Pl, hcs, _, hlc, hcm, hm, hx, hi⟩
  · injection hcs with hcs
    exact ⟨_, _, _, [], hcs, ⟨rfl, fun h => absurd h (by omega)⟩, by simp, by omega, by omega⟩
  · injection hcs with hcs
    have hm : m = cap' := by simpa using hm
    subst hm
    injection hx with hd hp
    have hbt : Tryz.prog.bytesOf 9 = 16 := by kernel_rfl
    have hrb : reachBytes = 140737488351232 := rfl
    have hn : len ≤ 4611686018427387904 := by
      have := hwt (((List.range len).map D).length * 16 + ((List.range (m - len)).map fun j => D (len + j)).length * 16) (by
        rw [hd]
        simp only [DataW.weights, Tryz.underlying30, hbt, Nat.add_mul]
        exact List.mem_cons_self)
      simp at this
      omega
    have hl : ∀ i, i < len → ∃ t : Bytes, w.cell? (a.add i) = some (S t) ∧ t.length ≤ 140737488355328 := by
      intro i hin
      obtain ⟨c0, t0⟩ := hi i (by omega)
      obtain ⟨s, hs, hy, _⟩ := DataW.trod_string Tryz.underlying9 t0
      injection hs with hs
      injection hy with hy _
      rw [hs] at c0
      refine ⟨s.data.toList, c0, ?_⟩
      have hmem : D i ∈ (List.range len).map D := List.mem_map.2 ⟨i, List.mem_range.2 hin, rfl⟩
      have := hwt s.data.toList.length (by
        rw [hd]
        simp only [DataW.weights, Tryz.underlying30, List.mem_cons, List.mem_append]
        exact .inr (.inl (weights_all_mem hmem _ (by rw [hy]; simp [DataW.weights]))))
      omega
    obtain ⟨l, hll, hlp⟩ := list_of len _ hl
    refine ⟨_, len, m, l, hcs, ⟨hll, fun hn => ?_⟩, fun t ht => ?_, hn, by omega⟩
    · obtain ⟨b, off, spot⟩ := a
      have hspot : spot = none := by
        obtain ⟨t, c0, _⟩ := hl 0 hn
        simpa [Addr.add] using World.cell?_spot c0
      subst hspot
      have hb : b < w.heap.size := by
        refine hlt (.cell b off) ?_
        rw [hp]
        exact List.mem_append_left _ (MemPlace.mem_row.2 ⟨0, by omega, rfl⟩)
      refine ⟨b, off, rfl, hb, fun i t ht => ?_⟩
      have := (hlp i t ht).1
      simpa only [Go.WideShapes.add_plain] using this
    · obtain ⟨i, hi2⟩ := List.mem_iff_getElem?.1 ht
      exact (hlp i t hi2).2
theorem lit_range {a : Int} (h : (Lit.int .i64 a).wf = true) : -9223372036854775808 ≤ a ∧ a ≤ 9223372036854775807 := by
  have hmin : IntKind.i64.min = -9223372036854775808 := rfl
  have hmax : IntKind.i64.max = 9223372036854775807 := rfl
  simp only [Lit.wf, Bool.and_eq_true, decide_eq_true_eq] at h
  rw [hmin, hmax] at h
  exact h
set_option maxRecDepth 100000 in
theorem open_filsW {H : Type} {enc : TypeId × Value → H} {w : World} {fuel : Nat} {v : Value} {d : DataW H} {p : List MemPlace}
    (hf : DataW.trod enc Tryz.prog w 0 (fun _ => true) true fuel 31 [v] = some (d, p)) (hlt : ∀ x ∈ p, x.block < w.heap.size) (hwt : ∀ n ∈ d.weights Tryz.prog 31, n ≤ reachBytes) :
    ∃ A n cap l, v = .slice A n cap ∧ filsAt w w.heap.size A n l ∧ (∀ t ∈ l, FilSz t) ∧ n ≤ 4611686018427387904 := by
  rcases open_slice_fields Tryz.underlying31 Tryz.underlying61 (by kernel_rfl) (by kernel_rfl) hf with ⟨hcs, hx⟩ | ⟨a, len, cap', m, D, Pl, hcs, _, hlc, hcm, hm, hx, hi⟩
  · injection hcs with hcs
    exact ⟨_, _, _, [], hcs, ⟨rfl, fun h => absurd h (by omega)⟩, by simp, by omega⟩
  · injection hcs with hcs
    have hm : m = cap' := by simpa using hm
    subst hm
    injection hx with hd hp
    have hbt : Tryz.prog.bytesOf 61 = 56 := by kernel_rfl
    have hrb : reachBytes = 140737488351232 := rfl
    have hn : len ≤ 4611686018427387904 := by
      have := hwt (((List.range len).map D).length * 56 + ((List.range (m - len)).map fun j => D (len + j)).length * 56) (by
        rw [hd]
        simp only [DataW.weights, Tryz.underlying31, hbt, Nat.add_mul]
        exact List.mem_cons_self)
      simp at this
      omega
    have hl : ∀ i, i < len → ∃ t : Fil, (w.cell? (a.add (i * 5)) = some (S t.name) ∧ w.cell? (a.add (i * 5 + 1)) = some (I t.dict) ∧ w.cell? (a.add (i * 5 + 2)) = some (I t.size) ∧ w.cell? (a.add (i * 5 + 3)) = some (I t.sum) ∧ w.cell? (a.add (i * 5 + 4)) = some (S t.block)) ∧ FilSz t := by
      intro i hin
      obtain ⟨ys, k, hD, _, _, hf⟩ := hi i (by omega)
      obtain ⟨v0, y0, c0, e0, t0⟩ := hf 0 _ rfl
      obtain ⟨v1, y1, c1, e1, t1⟩ := hf 1 _ rfl
      obtain ⟨v2, y2, c2, e2, t2⟩ := hf 2 _ rfl
      obtain ⟨v3, y3, c3, e3, t3⟩ := hf 3 _ rfl
      obtain ⟨v4, y4, c4, e4, t4⟩ := hf 4 _ rfl
      obtain ⟨s, hs, hys, _⟩ := DataW.trod_string Tryz.underlying9 t0
      obtain ⟨x1, hx1, hy1, hw1⟩ := DataW.trod_int Tryz.underlying3 t1
      obtain ⟨x2, hx2, hy2, hw2⟩ := DataW.trod_int Tryz.underlying3 t2
      obtain ⟨x3, hx3, hy3, hw3⟩ := DataW.trod_int Tryz.underlying3 t3
      obtain ⟨u, hu, hyu, _⟩ := DataW.trod_string Tryz.underlying9 t4
      injection hs with hs
      injection hx1 with hx1
      injection hx2 with hx2
      injection hx3 with hx3
      injection hu with hu
      subst hs; subst hx1; subst hx2; subst hx3; subst hu
      have hmem : D i ∈ (List.range len).map D := List.mem_map.2 ⟨i, List.mem_range.2 hin, rfl⟩
      have hwi : ∀ n ∈ (D i).weights Tryz.prog 61, n ≤ reachBytes := fun n hn => hwt n (by
        rw [hd]
        simp only [DataW.weights, Tryz.underlying31, List.mem_cons, List.mem_append]
        exact .inr (.inl (weights_all_mem hmem _ hn)))
      have hwj : ∀ (j : Nat) (t : TypeId) (y : DataW H), (Tryz.prog.underlying 61).map (fun d => match d with | .struct fs => (fs.toList.map (·.type))[j]? | _ => none) = some (some t) → (ys.map (·.1))[j]? = some y → ∀ n ∈ y.weights Tryz.prog t, n ≤ reachBytes := by
        intro j t y ht hy n hn
        refine hwi n ?_
        rw [hD]
        simp only [Tryz.underlying61, Option.map_some, Option.some.injEq] at ht
        simp only [DataW.weights, Tryz.underlying61]
        exact DataW.weights_mem_each ht hy n hn
      have b0 := hwj 0 9 y0.1 (by rw [Tryz.underlying61]; rfl) (by rw [List.getElem?_map, e0]; rfl) s.data.toList.length (by rw [hys]; simp [DataW.weights])
      have b4 := hwj 4 9 y4.1 (by rw [Tryz.underlying61]; rfl) (by rw [List.getElem?_map, e4]; rfl) u.data.toList.length (by rw [hyu]; simp [DataW.weights])
      obtain ⟨r1, r1'⟩ := lit_range hw1
      obtain ⟨r2, r2'⟩ := lit_range hw2
      obtain ⟨r3, r3'⟩ := lit_range hw3
      exact ⟨⟨s.data.toList, x1, x2, x3, u.data.toList⟩, ⟨c0, c1, c2, c3, c4⟩, ⟨by show s.data.toList.length ≤ _; omega, by show u.data.toList.length ≤ _; omega, r1, r1', r2, r2', r3, r3'⟩⟩
    obtain ⟨l, hll, hlp⟩ := list_of len _ hl
    refine ⟨_, len, m, l, hcs, ⟨hll, fun hn => ?_⟩, fun t ht => ?_, hn⟩
    · obtain ⟨b, off, spot⟩ := a
      have hspot : spot = none := by
        obtain ⟨t, ⟨c0, _⟩, _⟩ := hl 0 hn
        simpa [Addr.add] using World.cell?_spot c0
      subst hspot
      have hb : b < w.heap.size := by
        refine hlt (.cell b off) ?_
        rw [hp]
        exact List.mem_append_left _ (MemPlace.mem_row.2 ⟨0, by simp; omega, rfl⟩)
      refine ⟨b, off, rfl, hb, fun i t ht => ?_⟩
      have := (hlp i t ht).1
      simpa only [Go.WideShapes.add_plain, Nat.add_assoc] using this
    · obtain ⟨i, hi2⟩ := List.mem_iff_getElem?.1 ht
      exact (hlp i t hi2).2
set_option maxRecDepth 100000 in
theorem open_arc {H : Type} {enc : TypeId × Value → H} {w : World} {base : Nat} {v : Value} {d : DataW H} {p : List MemPlace}
    (hok : Value.okWide Tryz.prog w .any base 33 v) (h : DataW.Trod enc Tryz.prog w 0 (fun _ => true) true 33 v d p) (hlt : ∀ x ∈ p, x.block < w.heap.size) (hwt : ∀ n ∈ d.weights Tryz.prog 33, n ≤ reachBytes) :
    ∃ A n cap A2 n2 cap2 a, v = arcV A n cap A2 n2 cap2 ∧ ArcIn w A n A2 n2 a ∧ ArcSz a ∧ n ≤ cap := by
  obtain ⟨cs, rfl, hcs⟩ := okWide_struct Tryz.underlying33 hok
  have hc2 : cs.size = 2 := hcs.trans (by kernel_rfl)
  obtain ⟨v0, v1, rfl⟩ : ∃ v0 v1, cs = #[v0, v1] := by
    obtain ⟨l⟩ := cs
    match l, hc2 with
    | [x, y], _ => exact ⟨x, y, rfl⟩
  obtain ⟨fuel, hf⟩ := h
  have hf : DataW.trod enc Tryz.prog w 0 (fun _ => true) true fuel 33 [v0, v1] = some (d, p) := hf
  obtain ⟨⟨d0, p0⟩, ⟨d1, p1⟩, k, hx, _, t0, t1⟩ := trod_struct2 Tryz.underlying33 hf
  injection hx with hd hp
  subst hd
  subst hp
  have t0 : DataW.trod enc Tryz.prog w 0 (fun _ => true) true k 30 (([v0, v1].drop 0).take (Tryz.prog.cellsOf 30)) = some (d0, p0) := t0
  have t1 : DataW.trod enc Tryz.prog w 0 (fun _ => true) true k 31 (([v0, v1].drop 1).take (Tryz.prog.cellsOf 31)) = some (d1, p1) := t1
  rw [show Tryz.prog.cellsOf 30 = 1 from by kernel_rfl] at t0
  rw [show Tryz.prog.cellsOf 31 = 1 from by kernel_rfl] at t1
  have t0 : DataW.trod enc Tryz.prog w 0 (fun _ => true) true k 30 [v0] = some (d0, p0) := t0
  have t1 : DataW.trod enc Tryz.prog w 0 (fun _ => true) true k 31 [v1] = some (d1, p1) := t1
  have hw0 : ∀ n ∈ d0.weights Tryz.prog 30, n ≤ reachBytes := fun n hn => hwt n (by
    simp only [DataW.weights, Tryz.underlying33]
    exact DataW.weights_mem_each (j := 0) rfl rfl n hn)
  have hw1 : ∀ n ∈ d1.weights Tryz.prog 31, n ≤ reachBytes := fun n hn => hwt n (by
    simp only [DataW.weights, Tryz.underlying33]
    exact DataW.weights_mem_each (j := 1) rfl rfl n hn)
  obtain ⟨A, n, cap, l, rfl, hs, hsz, hn, hnc⟩ := open_strsW t0 (fun x hx => hlt x (by simp [hx])) hw0
  obtain ⟨A2, n2, cap2, l2, rfl, hs2, hsz2, hn2⟩ := open_filsW t1 (fun x hx => hlt x (by simp [hx])) hw1
  exact ⟨A, n, cap, A2, n2, cap2, ⟨l, l2⟩, rfl, ⟨hs, hs2⟩, ⟨by have := hs.1; show l.length ≤ _; omega, by have := hs2.1; show l2.length ≤ _; omega, hsz, hsz2⟩, hnc⟩
end Go.Proofs.YtjpgoeimclipjaaGreat
namespace Go.Proofs.YtjpgoeimclipjaaGreat.archGets
open Go.ChangeShapes Go.WideShapes Go.ChangeAt Go.RowKit
open Go.ChangeMaps (open_string shut_string)
set_option maxRecDepth 100000 in
theorem lifted (os : Os) (started : os.Started) (H : Type) (enc : TypeId × Value → H) :
    ReturnsInHanded {} Tryz.checked os 7 .any (Rows.archGetsSpec.pre6 enc Tryz.prog Tryz.f7 Rows.archGetsRow.domain false) (Rows.archGetsSpec.post enc Tryz.prog Tryz.f7 false true false false) := by
  refine returnsInHanded_of_change_shaped (C := Tryz.checked) Tryz.own started (by kernel_rfl) Tryz.func7
    (ChangeSpec.witness6 (enc := enc) (C := Tryz.checked) false ⟨#[], #[.agg #[.slice none 0 0, .slice none 0 0], .string ByteArray.empty, .int .i64 0, .int .i64 0], []⟩ 8 (by kernel_rfl) (by kernel_rfl) (by kernel_rfl) (by kernel_rfl)) ?_
  intro W base args ds gs before hval0 hW _hcnd hsz0 hsh _
  have hval : ∀ (j : Nat) t v, Tryz.f7.params[j]? = some t → args[j]? = some v → Value.okWide Tryz.prog W .any base t v := hval0
  have hsz : (DataW.weightsEach Tryz.prog (Tryz.f7.params.toList ++ Rows.archGetsSpec.plain.varTypes Tryz.prog) (ds ++ gs)).all (· ≤ reachBytes) = true := hsz0
  have hW' := hW
  obtain ⟨p, q, hA0, hV, rfl, _hfz, _hnd⟩ := hW
  have hA : DataW.TrodAll enc Tryz.prog W 0 (fun _ => true) true Tryz.f7.params.toList args.toList ds p := hA0
  rw [Tryz.params7] at hA hval hsz
  obtain ⟨v0, vs0, d0, ds0, p0, q0, hargs, rfl, rfl, h0, r0⟩ := trodAll_cons hA
  obtain ⟨v1, vs1, d1, ds1, p1, q1, rfl, rfl, rfl, h1, r1⟩ := trodAll_cons r0
  obtain ⟨v2, vs2, d2, ds2, p2, q2, rfl, rfl, rfl, h2, r2⟩ := trodAll_cons r1
  obtain ⟨v3, vs3, d3, ds3, p3, q3, rfl, rfl, rfl, h3, r3⟩ := trodAll_cons r2
  obtain ⟨rfl, rfl, rfl⟩ := trodAll_nil r3
  obtain rfl : args = #[v0, v1, v2, v3] := by cases args; simp_all
  obtain ⟨rfl, rfl⟩ := trodVars_none hV
  have h0k := h0
  have hlt0 : ∀ x ∈ p0, x.block < W.heap.size := fun x hx => hW'.lt x (by simp [hx])
  have hwt0 : ∀ n ∈ d0.weights Tryz.prog 33, n ≤ reachBytes := fun n hn => of_decide_eq_true (List.all_eq_true.1 hsz n (DataW.weights_mem_each (j := 0) rfl rfl n hn))
  obtain ⟨A0, n0, cap0, B0, m0, dap0, l0, rfl, at0, sz0, nc0⟩ := open_arc (hval 0 33 v0 rfl rfl) h0 hlt0 hwt0
  obtain ⟨a1, rfl, rfl, rfl, w1⟩ := open_string Tryz.underlying9 (hval 1 9 v1 rfl rfl) h1
  have l1 := sized_string hsz (j := 1) (t := 9) rfl rfl
  obtain ⟨a2, rfl, rfl, rfl, w2⟩ := open_int Tryz.underlying3 (hval 2 3 v2 rfl rfl) h2
  obtain ⟨a3, rfl, rfl, rfl, w3⟩ := open_int Tryz.underlying3 (hval 3 3 v3 rfl rfl) h3
  clear hA0 hval0 hsz0 hsz
  simp only [List.append_nil] at hW'
  have z1 : a1.data.toList.length ≤ 140737488351232 := l1
  refine (archGets_any A0 n0 cap0 B0 m0 dap0 l0 a1.data.toList a2 a3 W at0 sz0 (bounds_i64 w2).1 (bounds_i64 w2).2 (bounds_i64 w3).1 (bounds_i64 w3).2 (maxLen_of_shape hsh)).mono fun e W' ⟨he, hg⟩ => ?_
  subst he
  exact ⟨_, rfl, post_of_below (pa := p0) (pv := []) hW' (fun _ _ _ => (trodAll_cons_mk (shut_bool Tryz.underlying4 _) trodAll_mk0)) (fun sp hsp => trodAll_pa (trodAll_cons_mk (Go.WideElems.Trod_stays Tryz.laidOut (by kernel_rfl) (of_decide_eq_true (by kernel_rfl)) h0k (fun x hx => hg.same (hlt0 x hx)) (fun x hx => hsp x (by simp [hx]))) (trodAll_cons_mk (shut_string Tryz.underlying9 w1) (trodAll_cons_mk (shut_int Tryz.underlying3 w2) (trodAll_cons_mk (shut_int Tryz.underlying3 w3) trodAll_mk0)))) (by simp)) (fun _ _ => rfl) (by simp)
    hg (ok_one (by kernel_rfl) rfl (okWide_bool_mk Tryz.underlying4 _))⟩
theorem facts : joinedFacts Tryz.prog 7 Tryz.f7 Rows.archGetsSpec Rows.archGetsRow = true := by kernel_rfl
theorem wraps : Tryz.f7.isWrapper Tryz.prog Rows.archGetsRow.wrapper Rows.archGetsRow.mainSum := by unfold Func.isWrapper; first | (rw [if_pos (by decide +kernel)]; kernel_rfl) | (rw [if_neg (by decide +kernel)]; exact ⟨rfl, rfl⟩)
theorem called : Tryz.prog.funcNamed Rows.archGetsRow.func = some 7 := by kernel_rfl
theorem instanced : Tryz.f7.isInstance Tryz.prog Rows.archGetsRow.origin Rows.archGetsRow.targs := of_decide_eq_true (by kernel_rfl)
theorem proved : Rows.ArchGetsSaid :=
  OpenClaim.holds_of_wide 7 Tryz.f7 rfl rfl rfl rfl rfl rfl rfl ⟨rfl, rfl, rfl, rfl, rfl⟩ rfl rfl rfl rfl rfl called Tryz.func7 facts
    instanced wraps
    (fun os started H enc _ => lifted os started H enc)
end Go.Proofs.YtjpgoeimclipjaaGreat.archGets
