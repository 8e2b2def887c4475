/- Parts of the proofs. -/
import Derived.Test.YtjpgoeimclipjaaGreatAd13
import Derived.Deep.DeepCutAuto
import Derived.Deep.QuietTactic
import Derived.BigQuiet
import Derived.Deep.Slices
import Derived.Deep.Fields
import Derived.ChangeSame
import Derived.Carry
import Derived.OpenVars
import Derived.HandedShaped
import Derived.Shelf.Vars
import Derived.Lib.SmallJoins
namespace Go.Proofs.YtjpgoeimclipjaaGreat
open Go.RowKit Go.Lib Pl
attribute [local go_sem] ext_list app_list
set_option maxHeartbeats 8000000 in
set_option maxRecDepth 100000 in
theorem archBegun_any (w : World) (hm : MaxLenIs w) : Calls Tryz.prog 30 #[] w fun e w' => e = .returned (.bool true) ∧ Below w.heap.size w w' := by
 obtain ⟨B, hB⟩ : ∃ B, B = w.heap.size := ⟨_, rfl⟩
 have H0 := hide (show St w w B [] by rw [hB]; exact St.nil w)
 have HM := hide hm
 have HB := hide hB
 have CG1 := fun (W : World) (A : Option Addr) (n cap : Nat) (A2 : Option Addr) (n2 cap2 : Nat) (h : ArcIn W A n A2 n2 twoA) => get_any A n cap A2 n2 cap2 twoA [98] W h (right_sz twoA_right)
 rw [twoA_get_b] at CG1
 have CR := fun (W : World) (A : Option Addr) (n cap : Nat) (A2 : Option Addr) (n2 cap2 : Nat) (h : ArcIn W A n A2 n2 twoA) => range_any A n cap A2 n2 cap2 twoA [97] 4 4 W h (right_sz twoA_right) (by decide) (by decide) (by decide) (by decide)
 rw [twoA_range] at CR
 have CD := fun (W : World) (A : Option Addr) (n cap : Nat) (A2 : Option Addr) (n2 cap2 : Nat) (h : ArcIn W A n A2 n2 twoA) => drop_any A n cap A2 n2 cap2 twoA [97] W h (right_sz twoA_right)
 rw [show drop twoA [97] = (twoDr, 0) from by rw [two_drop, twoDr_eq]] at CD
 have CG2 := fun (W : World) (A : Option Addr) (n cap : Nat) (A2 : Option Addr) (n2 cap2 : Nat) (h : ArcIn W A n A2 n2 twoDr) => get_any A n cap A2 n2 cap2 twoDr [97] W h (right_sz twoDr_right)
 rw [twoDr_get] at CG2
 have CC := fun (W : World) (A : Option Addr) (n cap : Nat) (A2 : Option Addr) (n2 cap2 : Nat) (h : ArcIn W A n A2 n2 twoDr) => compact_any A n cap A2 n2 cap2 twoDr W h (right_sz twoDr_right)
 rw [show compact twoDr = (twoC, 0) from Prod.ext rfl two_compact] at CC
 have CS := fun (W : World) (A : Option Addr) (n cap : Nat) (A2 : Option Addr) (n2 cap2 : Nat) (h : ArcIn W A n A2 n2 twoC) (hc : n ≤ cap) => arcSize_any A n cap A2 n2 cap2 twoC W h (right_sz twoC_right) hc
 rw [(check_iff twoC).2 twoC_right, if_pos rfl] at CS
 have CP := fun (W : World) (A : Option Addr) (n cap : Nat) (A2 : Option Addr) (n2 cap2 : Nat) (h : ArcIn W A n A2 n2 twoA) => put_any A n cap A2 n2 cap2 twoA [99] [] 0 W h (right_sz twoA_right) (by decide) (by decide) (by decide) (by decide)
 obtain ⟨pA, hpA⟩ : ∃ pA, pA = (put twoA [99] [] 0).1 := ⟨_, rfl⟩
 rw [show put twoA [99] [] 0 = (pA, 0) from by rw [hpA, two_c]] at CP
 have hp3 : pA.fs.length = 3 := by rw [hpA, two_c]; rfl
 have CK := fun (W : World) (A : Option Addr) (n cap : Nat) (A2 : Option Addr) (n2 cap2 : Nat) (h : ArcIn W A n A2 n2 twoA) => check_arch A n cap A2 n2 cap2 twoA W h (right_sz twoA_right)
 rw [(check_iff twoA).2 twoA_right] at CK
 obtain ⟨z, hz⟩ : ∃ z, z = sizeA twoC := ⟨_, rfl⟩
 have hz33 : (32 : Int) < (z : Int) := by have := twoC_fs.2; omega
 rw [← hz] at CS
 have CG1 := hide CG1
 have CR := hide CR
 have CD := hide CD
 have CG2 := hide CG2
 have CC := hide CC
 have CS := hide CS
 have CP := hide CP
 have CK := hide CK
 have HP3 := hide hp3
 rw [← hB]
 clear hB hm hz hpA hp3
 go_enter Tryz.func30, Tryz.ntmps30
 go_wp2_with fail
 refine (two_any _ ((unhide HM).up (by have := (unhide H0).bel; rw [unhide HB] at this; exact this))).mono ?_
 rintro e w1 ⟨⟨Ra1, na1, ca1, Rb1, nb1, cb1, rfl, hi1, hc1, hn1⟩, hb1⟩
 have H1 := hide ((unhide H0).below hb1)
 have HI1 := hide hi1
 have HC1 := hide hc1
 subst hn1
 clear hb1 hi1 hc1
 go_wp2_with fail
 refine (unhide CG1 _ _ _ _ _ _ _ (unhide HI1)).mono ?_
 rintro e w2 ⟨rfl, hb2⟩
 have H2 := hide ((unhide H1).below hb2)
 clear hb2
 go_wp2_with fail
 refine (two_any _ ((unhide HM).up (by have := (unhide H2).bel; rw [unhide HB] at this; exact this))).mono ?_
 rintro e w3 ⟨⟨Ra3, na3, ca3, Rb3, nb3, cb3, rfl, hi3, hc3, hn3⟩, hb3⟩
 have H3 := hide ((unhide H2).below hb3)
 have HI3 := hide hi3
 have HC3 := hide hc3
 subst hn3
 clear hb3 hi3 hc3
 go_wp2_with fail
 refine (unhide CR _ _ _ _ _ _ _ (unhide HI3)).mono ?_
 rintro e w4 ⟨rfl, hb4⟩
 have H4 := hide ((unhide H3).below hb4)
 clear hb4
 go_wp2_with fail
 refine (two_any _ ((unhide HM).up (by have := (unhide H4).bel; rw [unhide HB] at this; exact this))).mono ?_
 rintro e w5 ⟨⟨Ra5, na5, ca5, Rb5, nb5, cb5, rfl, hi5, hc5, hn5⟩, hb5⟩
 have H5 := hide ((unhide H4).below hb5)
 have HI5 := hide hi5
 have HC5 := hide hc5
 subst hn5
 clear hb5 hi5 hc5
 go_wp2_with fail
 refine (unhide CD _ _ _ _ _ _ _ (unhide HI5)).mono ?_
 rintro e w6 ⟨hr6, hb6⟩
 obtain ⟨Ra6, na6, ca6, Rb6, nb6, cb6, rfl, hi6, hc6, ho6⟩ := hr6.open
 have H6 := hide ((unhide H5).below hb6)
 have HI6 := hide hi6
 have HC6 := hide hc6
 have HO6 := hide ho6
 clear hb6 hi6 hc6 hr6 ho6
 go_upto_region 4 with (refine wpList_store_row rfl 33 (.tmp 5) (.tmp 28) rfl w6.heap.size #[.slice Ra6 na6 ca6, .slice Rb6 nb6 cb6] rfl rfl 33 _ (heap_alloc_new _ _) sizeArc rfl (one_two _ _ _ _ _ _) ?_)
 obtain ⟨x6, hx6⟩ : ∃ x, x = (w6.alloc (.cells #[.slice none 0 0, .slice none 0 0] 33)).setRow w6.heap.size #[.slice Ra6 na6 ca6, .slice Rb6 nb6 cb6] := ⟨_, rfl⟩
 obtain ⟨P6, hP6⟩ : ∃ P, P = w6.heap.size := ⟨_, rfl⟩
 have G6 := hide (show St w x6 B [⟨P6, Ra6, na6, ca6, Rb6, nb6, cb6, twoDr⟩] by rw [hx6, hP6]; exact (unhide H6).new (unhide HI6) ca6 cb6)
 rw [← hx6, ← hP6]
 clear hx6 hP6
 have u6x0 : x6.cell? ⟨P6, 0, none⟩ = some (.slice Ra6 na6 ca6) := (unhide G6).c0 0 rfl
 have v6x0 : x6.cell? ⟨P6, 1, none⟩ = some (.slice Rb6 nb6 cb6) := (unhide G6).c1 0 rfl
 go_wp2_with fail
 refine (unhide CG2 _ _ _ _ _ _ _ ((unhide G6).at_ 0 rfl).i).mono ?_
 rintro e w7 ⟨rfl, hb7⟩
 have H7 := hide ((unhide G6).below hb7)
 clear hb7
 clear u6x0 v6x0
 have u7x0 : w7.cell? ⟨P6, 0, none⟩ = some (.slice Ra6 na6 ca6) := (unhide H7).c0 0 rfl
 have v7x0 : w7.cell? ⟨P6, 1, none⟩ = some (.slice Rb6 nb6 cb6) := (unhide H7).c1 0 rfl
 go_wp2_with fail
 refine (unhide CC _ _ _ _ _ _ _ ((unhide H7).at_ 0 rfl).i).mono ?_
 rintro e w8 ⟨hr8, hb8⟩
 obtain ⟨Ra8, na8, ca8, Rb8, nb8, cb8, rfl, hi8, hc8, ho8⟩ := hr8.open
 have H8 := hide ((unhide H7).below hb8)
 have HI8 := hide hi8
 have HC8 := hide hc8
 have HO8 := hide ho8
 clear hb8 hi8 hc8 hr8 ho8
 obtain rfl : na8 = 1 := by have := (unhide HI8).s.1; rw [twoC_ds] at this; exact this.symm
 go_upto_region 6 with (refine wpList_store_row rfl 33 (.tmp 9) (.tmp 38) rfl w8.heap.size #[.slice Ra8 1 ca8, .slice Rb8 nb8 cb8] rfl rfl 33 _ (heap_alloc_new _ _) sizeArc rfl (one_two _ _ _ _ _ _) ?_)
 obtain ⟨x8, hx8⟩ : ∃ x, x = (w8.alloc (.cells #[.slice none 0 0, .slice none 0 0] 33)).setRow w8.heap.size #[.slice Ra8 1 ca8, .slice Rb8 nb8 cb8] := ⟨_, rfl⟩
 obtain ⟨P8, hP8⟩ : ∃ P, P = w8.heap.size := ⟨_, rfl⟩
 have G8 := hide (show St w x8 B [⟨P8, Ra8, 1, ca8, Rb8, nb8, cb8, twoC⟩, ⟨P6, Ra6, na6, ca6, Rb6, nb6, cb6, twoDr⟩] by rw [hx8, hP8]; exact (unhide H8).new (unhide HI8) ca8 cb8)
 rw [← hx8, ← hP8]
 clear hx8 hP8
 clear u7x0 v7x0
 have u8x0 : x8.cell? ⟨P8, 0, none⟩ = some (.slice Ra8 1 ca8) := (unhide G8).c0 0 rfl
 have v8x0 : x8.cell? ⟨P8, 1, none⟩ = some (.slice Rb8 nb8 cb8) := (unhide G8).c1 0 rfl
 have u8x1 : x8.cell? ⟨P6, 0, none⟩ = some (.slice Ra6 na6 ca6) := (unhide G8).c0 1 rfl
 have v8x1 : x8.cell? ⟨P6, 1, none⟩ = some (.slice Rb6 nb6 cb6) := (unhide G8).c1 1 rfl
 go_wp2_with fail
 refine (unhide CS _ _ _ _ _ _ _ ((unhide G8).at_ 0 rfl).i (unhide HC8)).mono ?_
 rintro e w9 ⟨rfl, hb9⟩
 have H9 := hide ((unhide G8).below hb9)
 clear hb9
 clear u8x0 v8x0 u8x1 v8x1
 have u9x0 : w9.cell? ⟨P8, 0, none⟩ = some (.slice Ra8 1 ca8) := (unhide H9).c0 0 rfl
 have v9x0 : w9.cell? ⟨P8, 1, none⟩ = some (.slice Rb8 nb8 cb8) := (unhide H9).c1 0 rfl
 have u9x1 : w9.cell? ⟨P6, 0, none⟩ = some (.slice Ra6 na6 ca6) := (unhide H9).c0 1 rfl
 have v9x1 : w9.cell? ⟨P6, 1, none⟩ = some (.slice Rb6 nb6 cb6) := (unhide H9).c1 1 rfl
 go_wp2_with fail
 refine (two_any _ ((unhide HM).up (by have := (unhide H9).bel; rw [unhide HB] at this; exact this))).mono ?_
 rintro e w10 ⟨⟨Ra10, na10, ca10, Rb10, nb10, cb10, rfl, hi10, hc10, hn10⟩, hb10⟩
 have H10 := hide ((unhide H9).below hb10)
 have HI10 := hide hi10
 have HC10 := hide hc10
 subst hn10
 clear hb10 hi10 hc10
 clear u9x0 v9x0 u9x1 v9x1
 have u10x0 : w10.cell? ⟨P8, 0, none⟩ = some (.slice Ra8 1 ca8) := (unhide H10).c0 0 rfl
 have v10x0 : w10.cell? ⟨P8, 1, none⟩ = some (.slice Rb8 nb8 cb8) := (unhide H10).c1 0 rfl
 have u10x1 : w10.cell? ⟨P6, 0, none⟩ = some (.slice Ra6 na6 ca6) := (unhide H10).c0 1 rfl
 have v10x1 : w10.cell? ⟨P6, 1, none⟩ = some (.slice Rb6 nb6 cb6) := (unhide H10).c1 1 rfl
 go_wp2_with fail
 refine (unhide CP _ _ _ _ _ _ _ (unhide HI10)).mono ?_
 rintro e w11 ⟨hr11, hb11⟩
 obtain ⟨Ra11, na11, ca11, Rb11, nb11, cb11, rfl, hi11, hc11, ho11⟩ := hr11.open
 have H11 := hide ((unhide H10).below hb11)
 have HI11 := hide hi11
 have HC11 := hide hc11
 have HO11 := hide ho11
 clear hb11 hi11 hc11 hr11 ho11
 obtain rfl : nb11 = 3 := by have := (unhide HI11).f.1; rw [unhide HP3] at this; exact this.symm
 go_upto_region 8 with (refine wpList_store_row rfl 33 (.tmp 13) (.tmp 48) rfl w11.heap.size #[.slice Ra11 na11 ca11, .slice Rb11 3 cb11] rfl rfl 33 _ (heap_alloc_new _ _) sizeArc rfl (one_two _ _ _ _ _ _) ?_)
 obtain ⟨x11, hx11⟩ : ∃ x, x = (w11.alloc (.cells #[.slice none 0 0, .slice none 0 0] 33)).setRow w11.heap.size #[.slice Ra11 na11 ca11, .slice Rb11 3 cb11] := ⟨_, rfl⟩
 obtain ⟨P11, hP11⟩ : ∃ P, P = w11.heap.size := ⟨_, rfl⟩
 have G11 := hide (show St w x11 B [⟨P11, Ra11, na11, ca11, Rb11, 3, cb11, pA⟩, ⟨P8, Ra8, 1, ca8, Rb8, nb8, cb8, twoC⟩, ⟨P6, Ra6, na6, ca6, Rb6, nb6, cb6, twoDr⟩] by rw [hx11, hP11]; exact (unhide H11).new (unhide HI11) ca11 cb11)
 rw [← hx11, ← hP11]
 clear hx11 hP11
 clear u10x0 v10x0 u10x1 v10x1
 have u11x0 : x11.cell? ⟨P11, 0, none⟩ = some (.slice Ra11 na11 ca11) := (unhide G11).c0 0 rfl
 have v11x0 : x11.cell? ⟨P11, 1, none⟩ = some (.slice Rb11 3 cb11) := (unhide G11).c1 0 rfl
 have u11x1 : x11.cell? ⟨P8, 0, none⟩ = some (.slice Ra8 1 ca8) := (unhide G11).c0 1 rfl
 have v11x1 : x11.cell? ⟨P8, 1, none⟩ = some (.slice Rb8 nb8 cb8) := (unhide G11).c1 1 rfl
 have u11x2 : x11.cell? ⟨P6, 0, none⟩ = some (.slice Ra6 na6 ca6) := (unhide G11).c0 2 rfl
 have v11x2 : x11.cell? ⟨P6, 1, none⟩ = some (.slice Rb6 nb6 cb6) := (unhide G11).c1 2 rfl
 go_wp2_with fail
 refine (two_any _ ((unhide HM).up (by have := (unhide G11).bel; rw [unhide HB] at this; exact this))).mono ?_
 rintro e w12 ⟨⟨Ra12, na12, ca12, Rb12, nb12, cb12, rfl, hi12, hc12, hn12⟩, hb12⟩
 have H12 := hide ((unhide G11).below hb12)
 have HI12 := hide hi12
 have HC12 := hide hc12
 subst hn12
 clear hb12 hi12 hc12
 clear u11x0 v11x0 u11x1 v11x1 u11x2 v11x2
 have u12x0 : w12.cell? ⟨P11, 0, none⟩ = some (.slice Ra11 na11 ca11) := (unhide H12).c0 0 rfl
 have v12x0 : w12.cell? ⟨P11, 1, none⟩ = some (.slice Rb11 3 cb11) := (unhide H12).c1 0 rfl
 have u12x1 : w12.cell? ⟨P8, 0, none⟩ = some (.slice Ra8 1 ca8) := (unhide H12).c0 1 rfl
 have v12x1 : w12.cell? ⟨P8, 1, none⟩ = some (.slice Rb8 nb8 cb8) := (unhide H12).c1 1 rfl
 have u12x2 : w12.cell? ⟨P6, 0, none⟩ = some (.slice Ra6 na6 ca6) := (unhide H12).c0 2 rfl
 have v12x2 : w12.cell? ⟨P6, 1, none⟩ = some (.slice Rb6 nb6 cb6) := (unhide H12).c1 2 rfl
 go_wp2_with fail
 refine (unhide CK _ _ _ _ _ _ _ (unhide HI12)).mono ?_
 rintro e w13 ⟨rfl, hb13⟩
 have H13 := hide ((unhide H12).below hb13)
 clear hb13
 clear u12x0 v12x0 u12x1 v12x1 u12x2 v12x2
 have u13x0 : w13.cell? ⟨P11, 0, none⟩ = some (.slice Ra11 na11 ca11) := (unhide H13).c0 0 rfl
 have v13x0 : w13.cell? ⟨P11, 1, none⟩ = some (.slice Rb11 3 cb11) := (unhide H13).c1 0 rfl
 have u13x1 : w13.cell? ⟨P8, 0, none⟩ = some (.slice Ra8 1 ca8) := (unhide H13).c0 1 rfl
 have v13x1 : w13.cell? ⟨P8, 1, none⟩ = some (.slice Rb8 nb8 cb8) := (unhide H13).c1 1 rfl
 have u13x2 : w13.cell? ⟨P6, 0, none⟩ = some (.slice Ra6 na6 ca6) := (unhide H13).c0 2 rfl
 have v13x2 : w13.cell? ⟨P6, 1, none⟩ = some (.slice Rb6 nb6 cb6) := (unhide H13).c1 2 rfl
 go_wp2_with fail
 refine (two_any _ ((unhide HM).up (by have := (unhide H13).bel; rw [unhide HB] at this; exact this))).mono ?_
 rintro e w14 ⟨⟨Ra14, na14, ca14, Rb14, nb14, cb14, rfl, hi14, hc14, hn14⟩, hb14⟩
 have H14 := hide ((unhide H13).below hb14)
 have HI14 := hide hi14
 have HC14 := hide hc14
 subst hn14
 clear hb14 hi14 hc14
 clear u13x0 v13x0 u13x1 v13x1 u13x2 v13x2
 have u14x0 : w14.cell? ⟨P11, 0, none⟩ = some (.slice Ra11 na11 ca11) := (unhide H14).c0 0 rfl
 have v14x0 : w14.cell? ⟨P11, 1, none⟩ = some (.slice Rb11 3 cb11) := (unhide H14).c1 0 rfl
 have u14x1 : w14.cell? ⟨P8, 0, none⟩ = some (.slice Ra8 1 ca8) := (unhide H14).c0 1 rfl
 have v14x1 : w14.cell? ⟨P8, 1, none⟩ = some (.slice Rb8 nb8 cb8) := (unhide H14).c1 1 rfl
 have u14x2 : w14.cell? ⟨P6, 0, none⟩ = some (.slice Ra6 na6 ca6) := (unhide H14).c0 2 rfl
 have v14x2 : w14.cell? ⟨P6, 1, none⟩ = some (.slice Rb6 nb6 cb6) := (unhide H14).c1 2 rfl
 obtain ⟨b, off, t, hAe, _, ht, hcell⟩ := (unhide HI14).s.at_ (k := 0) (by decide)
 subst hAe
 have ht2 : t.length = 32 := by rw [twoA_eq] at ht; simp at ht; rw [← ht]; exact twoD_len
 rw [Nat.add_zero] at hcell
 have ht3 : ((t.length : Int) == 32) = true := by rw [beq_iff_eq]; omega
 have HT2 := hide ht2
 clear ht ht2
 have hfd : ∀ w : World, (Instr.field 33 (arcV (some ⟨b, off, none⟩) 1 ca14 Rb14 nb14 cb14) 0).run Tryz.prog w = .ok (.slice (some ⟨b, off, none⟩) 1 ca14) w := fun _ => by kernel_rfl
 go_wp2_with fail
 go_ret
 exact ⟨rfl, (unhide H14).bel⟩
end Go.Proofs.YtjpgoeimclipjaaGreat
namespace Go.Proofs.YtjpgoeimclipjaaGreat
open Go.RowKit Go.Lib Pl
attribute [local go_sem] ext_list app_list
structure AbC (A : Option Addr) (n cap : Nat) (A2 : Option Addr) (n2 cap2 : Nat) (W : World) (B : Nat) : Prop where
 a : W.cell? ⟨B, 0, none⟩ = some (.slice A n cap)
 b : W.cell? ⟨B, 1, none⟩ = some (.slice A2 n2 cap2)
theorem AbC.below {A A2 : Option Addr} {n cap n2 cap2 B : Nat} {W W1 : World} (h : AbC A n cap A2 n2 cap2 W B) (hb : Below W.heap.size W W1) : AbC A n cap A2 n2 cap2 W1 B :=
 ⟨(hb.cell (block_lt_of_cell h.a)).trans h.a, (hb.cell (block_lt_of_cell h.b)).trans h.b⟩
theorem AbC.drew {A A2 : Option Addr} {n cap n2 cap2 B : Nat} {W : World} (h : AbC A n cap A2 n2 cap2 W B) : AbC A n cap A2 n2 cap2 W.drew B := ⟨h.a, h.b⟩
theorem PK.abc {A A2 : Option Addr} {n cap n2 cap2 : Nat} {a : Arc} {w W : World} {B : Nat} (h : PK A n cap A2 n2 cap2 a w W B) : AbC A n cap A2 n2 cap2 W B := ⟨h.ab.c.1, h.ab.c.2⟩
theorem five_cells {W : World} {p : Nat} {c : Array Value} {T : TypeId} (h : W.heap[p]? = some (.cells c T (0, 0))) (i : Nat) (v : Value) (hv : c[i]? = some v) : W.cell? ⟨p, i, none⟩ = some v ∧ W.frozen? ⟨p, i, none⟩ = false :=
 ⟨by rw [cell_of_row _ _ _ _ _ _ h]; exact hv, by simp [World.frozen?, h]⟩
theorem set_five {W : World} {p : Nat} {a b c d e a' b' c' d' e' : Value} {T : TypeId} (h : W.heap[p]? = some (.cells #[a, b, c, d, e] T (0, 0))) :
  ((((W.setCell ⟨p, 0, none⟩ a').setCell ⟨p, 1, none⟩ b').setCell ⟨p, 2, none⟩ c').setCell ⟨p, 3, none⟩ d').setCell ⟨p, 4, none⟩ e' = W.setRow p #[a', b', c', d', e'] := by
 have h1 := setRow_heap W p _ #[a', b, c, d, e] T _ h
 have h2 := setRow_heap W p _ #[a', b', c, d, e] T _ h
 have h3 := setRow_heap W p _ #[a', b', c', d, e] T _ h
 have h4 := setRow_heap W p _ #[a', b', c', d', e] T _ h
 rw [setCell_eq_setRow W p 0 _ T (0, 0) a' h]
 show ((((W.setRow p #[a', b, c, d, e]).setCell _ b').setCell _ c').setCell _ d').setCell _ e' = _
 rw [setCell_eq_setRow _ p 1 _ T (0, 0) b' h1, setRow_setRow]
 show (((W.setRow p #[a', b', c, d, e]).setCell _ c').setCell _ d').setCell _ e' = _
 rw [setCell_eq_setRow _ p 2 _ T (0, 0) c' h2, setRow_setRow]
 show ((W.setRow p #[a', b', c', d, e]).setCell _ d').setCell _ e' = _
 rw [setCell_eq_setRow _ p 3 _ T (0, 0) d' h3, setRow_setRow]
 show (W.setRow p #[a', b', c', d', e]).setCell _ e' = _
 rw [setCell_eq_setRow _ p 4 _ T (0, 0) e' h4, setRow_setRow]
 rfl
set_option maxHeartbeats 4000000 in
set_option maxRecDepth 100000 in
theorem packedR_any (A : Option Addr) (n cap : Nat) (A2 : Option Addr) (n2 cap2 : Nat) (a : Arc) (name text : Bytes) (k : Int) (d : Bytes) (w : World) (h : ArcIn w A n A2 n2 a) (hn : n ≤ 1000000) (hd : dictO a.ds k = some d) (hdl : d.length ≤ 256) (ht : text.length ≤ 512) :
  Calls Tryz.prog 79 #[arcV A n cap A2 n2 cap2, S name, S text, I k] w fun e w' => e = .returned (filV (packedF a.ds name text k)) ∧ Below w.heap.size w w' := by
 obtain ⟨B, hB⟩ : ∃ B, B = w.heap.size := ⟨_, rfl⟩
 obtain ⟨w0, hw0⟩ : ∃ w0, w0 = (w.alloc (.cells #[.slice A n cap, .slice A2 n2 cap2] 33)).alloc (.cells zeroF 61) := ⟨_, rfl⟩
 have h0 : PK A n cap A2 n2 cap2 a w w0 B := by rw [hw0, hB]; exact PK.new h cap cap2
 have KD := hide (fun (W : World) (hW : Below w0.heap.size w0 W) => dictOf_any A n cap A2 n2 cap2 a k W (h0.below hW).ab.i (by omega) (by rw [hd]; rfl))
 rw [hd] at KD
 have KP : ∀ W, Below w0.heap.size w0 W → Calls Tryz.prog 113 #[S d, S text] W fun e w' => e = .returned (S (pack d text)) ∧ PK A n cap A2 n2 cap2 a w w' B := fun W hW =>
  (packOf_any d text W hdl ht).mono fun e w' ⟨h1, h2⟩ => ⟨h1, (h0.below hW).below h2⟩
 have KS := fun (W : World) => (sumOf_any text W (by omega)).mono fun e w' ⟨h1, h2⟩ => (⟨h1, h2.symm⟩ : e = Ending.returned (I (sumOf text)) ∧ w' = W)
 have hf : packedF a.ds name text k = ⟨name, k, text.length, (sumOf text : Nat), pack d text⟩ := by unfold packedF; rw [hd]; rfl
 rw [hf, ← hB]
 obtain ⟨b, hb⟩ : ∃ b, b = pack d text := ⟨_, rfl⟩
 obtain ⟨s, hs⟩ : ∃ s, s = sumOf text := ⟨_, rfl⟩
 rw [← hb] at KP ⊢
 rw [← hs] at KS ⊢
 have KP := hide KP
 have KS := hide KS
 have H0 := hide h0
 have HA := hide h0.abc
 have HB := hide hB
 have HW0 := hide hw0
 have R := hide (show (∀ W : World, AbC A n cap A2 n2 cap2 W B → W.cell? ⟨B, 0, none⟩ = some (.slice A n cap)) ∧ (∀ W : World, AbC A n cap A2 n2 cap2 W B → W.cell? ⟨B, 1, none⟩ = some (.slice A2 n2 cap2)) from ⟨fun W h => h.a, fun W h => h.b⟩)
 clear hB hw0 h hd hf hb hs h0
 go_enter Tryz.func79, Tryz.ntmps79
 go_upto_region 1 with fail
 rw [← unhide HW0, ← unhide HB]
 obtain ⟨r1, r2⟩ := unhide R
 go_region_held3 (fun w' => AbC A n cap A2 n2 cap2 w' B) (first | exact (unhide HA).drew | assumption | exact AbC.drew (by assumption) | exact (unhide HS4) | exact AbC.below (by assumption) (by assumption))
  ((first
   | (go_at_call 85; refine (unhide KD _ (by first | exact (Below.refl _ _).drew | exact Below.refl _ _)).mono ?_; rintro e w4 ⟨rfl, hb4⟩)
   | (go_at_call 86; refine (unhide KS _).mono ?_; rintro e w3 ⟨rfl, rfl⟩)
   | (go_at_call 113; refine (unhide KP _ (by first | exact (Below.refl _ _).drew.trans (by assumption) | assumption)).mono ?_; rintro e w5 ⟨rfl, hp5⟩; have HP5 := hide hp5; have hA5 := hp5.abc; obtain ⟨y0, v0⟩ := five_cells hp5.z 0 _ rfl; obtain ⟨y1, v1⟩ := five_cells hp5.z 1 _ rfl; obtain ⟨y2, v2⟩ := five_cells hp5.z 2 _ rfl; obtain ⟨y3, v3⟩ := five_cells hp5.z 3 _ rfl; obtain ⟨y4, v4⟩ := five_cells hp5.z 4 _ rfl; have HS4 := hide (show AbC A n cap A2 n2 cap2 (((((w5.setCell ⟨B + 1, 0, none⟩ (S name)).setCell ⟨B + 1, 1, none⟩ (I k)).setCell ⟨B + 1, 2, none⟩ (I text.length)).setCell ⟨B + 1, 3, none⟩ (I s)).setCell ⟨B + 1, 4, none⟩ (S b)) B by rw [set_five hp5.z]; exact ⟨by rw [setRow_cells (by simp)]; exact hA5.a, by rw [setRow_cells (by simp)]; exact hA5.b⟩); clear hp5)))
 all_goals
  rw [set_five (unhide HP5).z]
  go_wp2_with fail
  refine bodyPost_ret (results_cell_row rfl _ _ (B + 1) 61 _ (0, 0) _ rfl (setRow_heap _ _ _ _ _ _ (unhide HP5).z) Tryz.underlying61 rfl sizeFil) rfl ⟨rfl, ?_⟩
  exact below_setRow (unhide HP5).ab.bel (by omega) _
end Go.Proofs.YtjpgoeimclipjaaGreat
namespace Go.Proofs.YtjpgoeimclipjaaGreat
open Go.RowKit Go.Lib Pl
attribute [local go_sem] ext_list app_list
set_option maxRecDepth 100000 in
theorem run_append_strs (W : World) (ty : TypeId) (A : Option Addr) (n cap : Nat) (l : List Bytes) (hl : StrsAt W W.heap.size A n l) (hn : n ≤ 1000000) :
  ∃ A' cap' w', (Builtin.append_ #[30, 30] ty #[.slice (some ⟨W.heap.size, 0, none⟩) 0 0, .slice A n cap]).run Tryz.prog (W.alloc (.cells #[] 9)) = .ok (.slice A' n cap') w' ∧ w'.ownsRow W.heap.size 9 1 (.slice A' n cap') n (l.map strS) ∧ Below W.heap.size W w' := by
 obtain ⟨i0, hi, hz0, hz1, hz2⟩ := info_parts info_str
 have hln := hl.1
 have hmade := World.ownsRow_made (e := 9) (base := W.heap.size) (size := 1) W #[] 0 (Nat.le_refl _) (Nat.zero_le _) (by simp)
 have hbel : Below W.heap.size W (W.alloc (.cells #[] 9)) := (Below.refl _ _).alloc (Nat.le_refl _) _
 cases A with
 | none =>
  have h0 : n = 0 := by
   rcases Nat.eq_zero_or_pos n with h | h
   ·exact h
   ·obtain ⟨b, off, e, _⟩ := hl.2 h; cases e
  subst h0
  obtain rfl : l = [] := List.eq_nil_of_length_eq_zero hln
  refine ⟨some ⟨W.heap.size, 0, none⟩, 0, W.alloc (.cells #[] 9), ?_, hmade, hbel⟩
  simp [Builtin.append_, run_underlying Tryz.underlying30, sizeOf, typeInfo, hi, Builtin.lenOf, Builtin.firstCells, storeCells]
 | some ad =>
  have hc : ∀ j u, (l.map strS)[j]? = some u → (W.alloc (.cells #[] 9)).cell? (ad.add j) = some u := fun j u hj => by
   rw [List.getElem?_map] at hj
   cases hlj : l[j]? with
   | none => rw [hlj] at hj; cases hj
   | some t =>
    rw [hlj] at hj
    have hjl := (List.getElem?_eq_some_iff.1 hlj).1
    obtain ⟨b, off, e, hb, hcc⟩ := hl.2 (by omega)
    cases e
    simp only [Option.map_some, Option.some.injEq] at hj
    subst hj
    rw [Addr.add_lit]
    exact (hbel.cell (p := ⟨b, off + j, none⟩) hb).trans (hcc j t hlj)
  obtain ⟨v', w', h1, h2, h3, _⟩ := run_append_own (P := Tryz.prog) (W.alloc (.cells #[] 9)) W.heap.size 30 ty 9 i0 _ 1 16 Tryz.underlying30 hi hz0 hz1 hz2 rfl (by decide) _ 0 [] hmade ad n cap (l.map strS) (by simp; omega) hc (strS_one l) (by unfold maxLen; omega) (by omega) (by simp)
  rw [Nat.zero_add, List.nil_append] at h2
  obtain ⟨A', cap', rfl, _⟩ := strsAt_of_own h2
  exact ⟨A', cap', w', h1, h2, hbel.grown h3 (by simp) (fun k hk => by simp [Value.ownBlock] at hk; omega)⟩
theorem wpList_append_strs {W : World} {ops : Array Oper} {rest : List Oper} {o : Oper} {a : Act} {Q : Exit → Act → World → Prop} (hgd : o.guard = none) (s x : Operand)
  (ho : o.op = .call { callee := .builtin .append, args := #[s, x], argTypes := #[30, 30] })
  (A : Option Addr) (n cap : Nat) (l : List Bytes) (hl : StrsAt W W.heap.size A n l) (hn : n ≤ 1000000) (hs : a.eval s = .slice (some ⟨W.heap.size, 0, none⟩) 0 0) (hx : a.eval x = .slice A n cap)
  (h : ∀ A' cap' w', w'.ownsRow W.heap.size 9 1 (.slice A' n cap') n (l.map strS) → Below W.heap.size W w' → wpList Tryz.prog ops Q rest (a.put o.dst (.slice A' n cap')) w') :
  wpList Tryz.prog ops Q (o :: rest) a (W.alloc (.cells #[] 9)) := by
 obtain ⟨A', cap', w', h1, h2, h3⟩ := run_append_strs W o.type A n cap l hl hn
 exact Lib.wpList_append_run _ hgd s x _ _ ho _ _ hs hx _ _ h1 (h A' cap' w' h2 h3)
theorem step_push_fil {w : World} {ops : Array Oper} {o : Oper} {a : Act} {K : Act → World → Prop} {Q : Exit → Act → World → Prop} {E : Prop} (hgd : o.guard = none) (s x : Operand)
  (ho : o.op = .call { callee := .builtin .append, args := #[s, x], argTypes := #[31, 31] })
  (base : Nat) (v : Value) (n : Nat) (l : List Fil) (hs : a.eval s = v) (hown : w.ownsRow base 61 5 v n (filsCells l)) (t : Fil)
  (H : Nat) (hx : a.eval x = .slice (some ⟨H, 0, none⟩) 1 1) (hc : w.heap[H]? = some (.cells (filA t) 61 (0, 0)))
  (hn : n ≤ 1000000) (hbase : base ≤ w.heap.size)
  (h : ∀ A' cap' w', w'.ownsRow base 61 5 (.slice A' (n + 1) cap') (n + 1) (filsCells (l ++ [t])) → w.grownBy w' v.ownBlock → K (a.put o.dst (.slice A' (n + 1) cap')) w') :
  if Region.wanted o (yielded ops a.tmps) = true then Oper.wp Tryz.prog o a w K Q else E := by
 have hw : Region.wanted o (yielded ops a.tmps) = true := by simp [Region.wanted, hgd]
 rw [if_pos hw]
 obtain ⟨i0, hi, hz0, hz1, hz2⟩ := info_parts info_fil
 obtain ⟨v', w', h1, h2, h3, _⟩ := run_append_own (P := Tryz.prog) w base 31 o.type 61 i0 _ 5 56 Tryz.underlying31 hi hz0 hz1 hz2 rfl (by decide) v n (filsCells l) hown ⟨H, 0, none⟩ 1 1 (filCells t) rfl (VarF.cells ⟨hc⟩) (fil_one t) (by unfold maxLen; omega) (by omega) hbase
 have h2' : w'.ownsRow base 61 5 v' (n + 1) (filsCells (l ++ [t])) := by rw [filsCells_snoc]; exact h2
 obtain ⟨A', cap', rfl, _⟩ := filsAt_of_own h2'
 unfold Oper.wp execOp
 simp only [ho, resolve, invoke, builtin, Sem.run_bind, Sem.run_pure, Result.andThen_ok, List.map_toArray, List.map_cons, List.map_nil, hs, hx, h1]
 exact h A' cap' w' h2' h3
theorem CompS.pushF {w W W' : World} {B E P : Nat} {c0 : Array Value} {v1 v2 : Value} {x : Arc} (h : CompS w W B E P c0 v1 v2 x) {v2' : Value} {f : Fil} (hg : W.grownBy W' v2.ownBlock) (hs : W'.ownsRow E 61 5 v2' (x.fs.length + 1) (filsCells (x.fs ++ [f]))) :
  CompS w (W'.setCell ⟨P, 1, none⟩ v2') B E P c0 v1 v2' ⟨x.ds, x.fs ++ [f]⟩ ∧ W'.heap[P]? = some (.cells #[v1, v2] 33 (0, 0)) ∧ W'.heap[B]? = some (.cells c0 33 (0, 0)) := by
 have h1 := h.lt
 have h2 := h.be
 have h3 := h.ep
 have hP' : W'.heap[P]? = some (.cells #[v1, v2] 33 (0, 0)) := (hg.block P h1 h.ownP2).trans h.p
 have hlo : ∀ j, j < E → some j ≠ v2.ownBlock := fun j hj e => by have := (h.o.f.lt j e.symm).1; omega
 have hrow : W'.setCell ⟨P, 1, none⟩ v2' = W'.setRow P #[v1, v2'] := by rw [setCell_eq_setRow W' P 1 _ _ _ _ hP']; rfl
 rw [hrow]
 have hoth : ∀ j, j < W.heap.size → j ≠ P → some j ≠ v2.ownBlock → (W'.setRow P #[v1, v2']).heap[j]? = W.heap[j]? := fun j hj hne hno => by
  rw [setRow_other W' P j _ hne]
  exact hg.block j hj hno
 have hd' : W'.ownsRow E 9 1 v1 x.ds.length (x.ds.map strS) := h.o.s.kept hg (own_apart h.o.s h.o.f (by decide))
 have hPt : ∀ {e size n : Nat} {v : Value} {xs : List Value}, W'.ownsRow E e size v n xs → e ≠ 33 → ∀ k, v.ownBlock = some k → k ≠ P := fun ho hne k hk e => by
  subst e
  obtain ⟨c, g⟩ := own_obj ho hk
  rw [hP'] at g
  injection g with g
  injection g with _ g _
  exact hne g.symm
 refine ⟨⟨(hoth B (by omega) (by omega) (hlo B (by omega))).trans h.b, (hoth (B + 1) (by omega) (by omega) (hlo (B + 1) h2)).trans h.z, setRow_heap _ _ _ _ _ _ hP', ⟨own_setRow hd' (hPt hd' (by decide)) _, ?_⟩, h2, h3, ?_⟩, hP', (hg.block B (by omega) (hlo B (by omega))).trans h.b⟩
 ·have : (x.fs ++ [f]).length = x.fs.length + 1 := by simp
  show (W'.setRow P _).ownsRow E 61 5 v2' (x.fs ++ [f]).length _
  rw [this]
  exact own_setRow hs (hPt hs (by decide)) _
 ·exact below_setRow (h.bel.grown hg (by omega) (fun k hk => by have := (h.o.f.lt k hk).1; omega)) (by omega) _
end Go.Proofs.YtjpgoeimclipjaaGreat
namespace Go.Proofs.YtjpgoeimclipjaaGreat
open Go.RowKit Go.Lib Pl
theorem enters {f : FuncId} {fn : Func} (hf : Tryz.prog.funcs[f]? = some fn) (hname : (fn.name == "runtime.NumGoroutine") = false) (hb : fn.body.isSome = true) (args : Array Value) (w : World) : (callFunc f args).run Tryz.prog w = .ok (.enter f args) w := by
 have h1 : fn.name ≠ "runtime.NumGoroutine" := by simpa using hname
 obtain ⟨c, hc⟩ := Option.isSome_iff_exists.1 hb
 simp [callFunc, hf, h1, hc]
theorem packedR_enters (args : Array Value) (w : World) : (callFunc 79 args).run Tryz.prog w = .ok (.enter 79 args) w :=
 enters Tryz.func79 (by kernel_rfl) (by kernel_rfl) args w
set_option maxRecDepth 100000 in
theorem step_call4 {w : World} {ops : Array Oper} {o : Oper} {a : Act} {K : Act → World → Prop} {Q : Exit → Act → World → Prop} {E : Prop} (hgd : o.guard = none) (f : Nat) (x1 x2 x3 x4 : Nat) (ts : Array TypeId)
  (ho : o.op = .call { callee := .value (.func f), args := #[.tmp x1, .tmp x2, .tmp x3, .tmp x4], argTypes := ts }) (v1 v2 v3 v4 : Value) (h1 : a.tmps[x1]?.getD undef = v1) (h2 : a.tmps[x2]?.getD undef = v2) (h3 : a.tmps[x3]?.getD undef = v3) (h4 : a.tmps[x4]?.getD undef = v4)
  (hcall : ∀ vals w, (callFunc f vals).run Tryz.prog w = .ok (.enter f vals) w) (h : Calls Tryz.prog f #[v1, v2, v3, v4] w fun e w' => ∃ v, e = .returned v ∧ K (a.put o.dst v) w') :
  if Region.wanted o (yielded ops a.tmps) = true then Oper.wp Tryz.prog o a w K Q else E := by
 have hw : Region.wanted o (yielded ops a.tmps) = true := by simp [Region.wanted, hgd]
 rw [if_pos hw]
 have hm := h.mono (R' := fun e w' => match e, w' with
  | .returned v, w'' => K (a.put o.dst v) w''
  | .panicked chain, w'' => Q (.panic chain) a w''
  | .outgrown, _ => LetsOut Q) (fun e w' ⟨v, he, hk⟩ => by subst he; exact hk)
 unfold Oper.wp execOp
 simp [ho, resolve, invoke, go_sem, h1, h2, h3, h4]
 rw [hcall]
 exact hm
end Go.Proofs.YtjpgoeimclipjaaGreat
namespace Go.Proofs.YtjpgoeimclipjaaGreat
open Go.RowKit Go.Lib Pl
theorem S_eq (a b : Bytes) : ((⟨a.toArray⟩ : ByteArray).toList == (⟨b.toArray⟩ : ByteArray).toList) = decide (a = b) := by
 rw [ByteArray.toList_eq, ByteArray.toList_eq]
 simp [Bool.beq_eq_decide_eq]
end Go.Proofs.YtjpgoeimclipjaaGreat
namespace Go.Proofs.YtjpgoeimclipjaaGreat
open Go.RowKit Go.Lib Pl
attribute [local go_sem] ext_list app_list
theorem fil_fields : Tryz.prog.underlying 61 = some (.struct (Tryz.prog.fieldsOf 61)) := by kernel_rfl
theorem fil_stood : Tryz.prog.stoodInHeld 61 = false := by kernel_rfl
theorem fil_guard : Tryz.prog.eqGuardType Tryz.prog.depth 61 = false := by kernel_rfl
theorem run_neq_fil (w : World) (f g : Fil) : (binOp .neq 61 (filV f) (filV g)).run Tryz.prog w = .ok (.bool (!decide (f = g))) w := by
 obtain ⟨a, b, c, d, e⟩ := f
 obtain ⟨a', b', c', d', e'⟩ := g
 rw [run_neq_struct, run_equalIn_agg _ _ _ _ _ fil_fields fil_stood]
 simp only [Program.fieldsOf, Tryz.underlying61]
 have e1 : ∀ (x y : Bytes) w, (Op.equalIn 9999 9 (S x) (S y)).run Tryz.prog w = .ok (decide (x = y)) w := fun x y w => by
  rw [run_equalIn_string w 9998 _ _ _ Tryz.underlying9, S_eq]
 have e2 : ∀ (x y : Int) w, (Op.equalIn 9999 3 (I x) (I y)).run Tryz.prog w = .ok (x == y) w := fun x y w => run_equalIn_int w 9998 _ _ _ x y Tryz.underlying3
 simp [Op.eqFields, part, e1, e2]
 by_cases h1 : a = a' <;> by_cases h2 : b = b' <;> by_cases h3 : c = c' <;> by_cases h4 : d = d' <;> by_cases h5 : e = e' <;> simp [h1, h2, h3, h4, h5]
structure AB2 (A : Option Addr) (n cap : Nat) (A2 : Option Addr) (n2 cap2 : Nat) (a : Arc) (C : Option Addr) (m cap3 : Nat) (C2 : Option Addr) (m2 cap4 : Nat) (c : Arc) (w W : World) (B : Nat) : Prop where
 o : W.heap[B]? = some (.cells #[.slice A n cap, .slice A2 n2 cap2] 33 (0, 0))
 p : W.heap[B + 1]? = some (.cells #[.slice C m cap3, .slice C2 m2 cap4] 33 (0, 0))
 i : ArcIn W A n A2 n2 a
 j : ArcIn W C m C2 m2 c
 bel : Below B w W
theorem AB2.c {A A2 C C2 : Option Addr} {n cap n2 cap2 m cap3 m2 cap4 B : Nat} {a c : Arc} {w W : World} (h : AB2 A n cap A2 n2 cap2 a C m cap3 C2 m2 cap4 c w W B) :
  W.cell? ⟨B, 0, none⟩ = some (.slice A n cap) ∧ W.cell? ⟨B, 1, none⟩ = some (.slice A2 n2 cap2) ∧ W.cell? ⟨B + 1, 0, none⟩ = some (.slice C m cap3) ∧ W.cell? ⟨B + 1, 1, none⟩ = some (.slice C2 m2 cap4) := by
 refine ⟨?_, ?_, ?_, ?_⟩
 ·rw [cell_of_row _ _ _ _ _ _ h.o]; rfl
 ·rw [cell_of_row _ _ _ _ _ _ h.o]; rfl
 ·rw [cell_of_row _ _ _ _ _ _ h.p]; rfl
 ·rw [cell_of_row _ _ _ _ _ _ h.p]; rfl
theorem AB2.below {A A2 C C2 : Option Addr} {n cap n2 cap2 m cap3 m2 cap4 B : Nat} {a c : Arc} {w W W' : World} (h : AB2 A n cap A2 n2 cap2 a C m cap3 C2 m2 cap4 c w W B) (hb : Below W.heap.size W W') : AB2 A n cap A2 n2 cap2 a C m cap3 C2 m2 cap4 c w W' B := by
 have h1 := (Array.getElem?_eq_some_iff.1 h.o).1
 have h2 := (Array.getElem?_eq_some_iff.1 h.p).1
 exact ⟨(hb.block _ h1).trans h.o, (hb.block _ h2).trans h.p, h.i.up hb, h.j.up hb, h.bel.trans (hb.mono (Nat.le_of_lt h1))⟩
theorem AB2.new {A A2 C C2 : Option Addr} {n n2 m m2 : Nat} {a c : Arc} {w : World} (h : ArcIn w A n A2 n2 a) (h' : ArcIn w C m C2 m2 c) (cap cap2 cap3 cap4 : Nat) :
  AB2 A n cap A2 n2 cap2 a C m cap3 C2 m2 cap4 c w ((w.alloc (.cells #[.slice A n cap, .slice A2 n2 cap2] 33)).alloc (.cells #[.slice C m cap3, .slice C2 m2 cap4] 33)) w.heap.size :=
 ⟨(Below.heap_alloc _ _ _ (by simp)).trans (heap_alloc_new _ _), by have := heap_alloc_new (w.alloc (.cells #[.slice A n cap, .slice A2 n2 cap2] 33)) (.cells #[.slice C m cap3, .slice C2 m2 cap4] 33); simpa using this, (h.alloc _).alloc _, (h'.alloc _).alloc _, ((Below.refl _ _).alloc (Nat.le_refl _) _).alloc (by simp) _⟩
set_option maxHeartbeats 4000000 in
set_option maxRecDepth 100000 in
theorem sameArchives_any (A : Option Addr) (n cap : Nat) (A2 : Option Addr) (n2 cap2 : Nat) (a : Arc) (C : Option Addr) (m cap3 : Nat) (C2 : Option Addr) (m2 cap4 : Nat) (c : Arc) (w : World) (h : ArcIn w A n A2 n2 a) (h' : ArcIn w C m C2 m2 c) (hn : n ≤ 4611686018427387904) (hn2 : n2 ≤ 4611686018427387904) :
  Calls Tryz.prog 18 #[arcV A n cap A2 n2 cap2, arcV C m cap3 C2 m2 cap4] w fun e w' => e = .returned (.bool (decide (a = c))) ∧ Below w.heap.size w w' := by
 obtain ⟨B, hB⟩ : ∃ B, B = w.heap.size := ⟨_, rfl⟩
 obtain ⟨w0, hw0⟩ : ∃ w0, w0 = (w.alloc (.cells #[.slice A n cap, .slice A2 n2 cap2] 33)).alloc (.cells #[.slice C m cap3, .slice C2 m2 cap4] 33) := ⟨_, rfl⟩
 have H0 := hide (show AB2 A n cap A2 n2 cap2 a C m cap3 C2 m2 cap4 c w w0 B by rw [hw0, hB]; exact AB2.new h h' cap cap2 cap3 cap4)
 have hl1 := h.s.1
 have hl2 := h.f.1
 have hm1 := h'.s.1
 have hm2 := h'.f.1
 obtain ⟨ds, fs⟩ := a
 obtain ⟨es, gs⟩ := c
 simp only at hl1 hl2 hm1 hm2
 obtain ⟨rs, hrs⟩ : ∃ rs, rs = decide ((⟨ds, fs⟩ : Arc) = ⟨es, gs⟩) := ⟨_, rfl⟩
 rw [← hrs, ← hB]
 have HB := hide hB
 have HW0 := hide hw0
 have HRS := hide hrs
 clear hB hw0 h h' hrs
 by_cases hlen : ¬ (n = m ∧ n2 = m2)
 ·have hne : rs = false := by
   rw [unhide HRS, decide_eq_false]
   intro e
   injection e with e1 e2
   subst e1; subst e2
   exact hlen ⟨by omega, by omega⟩
  rw [hne]
  have hc : (((n : Int) == (m : Int)) = false ∧ ((n : Int) != (m : Int)) = true) ∨ (((n : Int) == (m : Int)) = true ∧ ((n : Int) != (m : Int)) = false ∧ ((n2 : Int) == (m2 : Int)) = false ∧ ((n2 : Int) != (m2 : Int)) = true) := by
   by_cases e : n = m
   ·right
    have : n2 ≠ m2 := fun e2 => hlen ⟨e, e2⟩
    refine ⟨by rw [beq_iff_eq]; omega, by rw [bne_eq_false_iff_eq]; omega, by rw [beq_eq_false_iff_ne]; omega, by rw [bne_iff_ne]; omega⟩
   ·left
    exact ⟨by rw [beq_eq_false_iff_ne]; omega, by rw [bne_iff_ne]; omega⟩
  clear hlen hne
  rcases hc with ⟨d1, d2⟩ | ⟨d1, d2, d3, d4⟩
  all_goals
   go_enter Tryz.func18, Tryz.ntmps18
   go_upto_region 1 with fail
   rw [← unhide HW0, ← unhide HB]
   obtain ⟨q0, q1, q2, q3⟩ := (unhide H0).c
   go_wp2_with fail
   go_ret
   exact ⟨rfl, (unhide H0).bel⟩
 obtain ⟨e1, e2⟩ := Decidable.not_not.1 hlen
 subst e1; subst e2
 clear hlen
 have d1 : ((n : Int) == (n : Int)) = true := by simp
 have d2 : ((n : Int) != (n : Int)) = false := by simp
 have d3 : ((n2 : Int) == (n2 : Int)) = true := by simp
 have d4 : ((n2 : Int) != (n2 : Int)) = false := by simp
 go_enter Tryz.func18, Tryz.ntmps18
 go_upto_region 1 with fail
 rw [← unhide HW0, ← unhide HB]
 obtain ⟨q0, q1, q2, q3⟩ := (unhide H0).c
 go_wp2_with fail
 clear q0 q1 q2 q3 d1 d2 d3 d4
 go_loopw [5] (fun iv wr => ∃ k : Nat, k ≤ n ∧ iv = .int .i64 k ∧ ds.take k = es.take k ∧ AB2 A n cap A2 n2 cap2 ⟨ds, fs⟩ C n cap3 C2 n2 cap4 ⟨es, gs⟩ w wr B) (fun iv _ => n - (intOf iv).toNat)
 case atStart => exact ⟨0, Nat.zero_le _, rfl, rfl, unhide H0⟩
 case round =>
  obtain ⟨k, hk, rfl, hs, hAB⟩ := hrel
  have HAB := hide hAB
  obtain ⟨q0, q1, q2, q3⟩ := hAB.c
  by_cases hkn : k < n
  ·obtain ⟨b, off, t, rfl, hb, ht, hc⟩ := hAB.i.s.at_ (k := k) hkn
   obtain ⟨b', off', t', rfl, hb', ht', hc'⟩ := hAB.j.s.at_ (k := k) hkn
   have z0 : (0 : Int) ≤ (k : Int) := by omega
   have z1 : (k : Int) < (n : Int) := by omega
   by_cases he : t = t'
   ·subst he
    have HS := hide (show ds.take (k + 1) = es.take (k + 1) by
     have h1 : ds[k]? = some t := ht
     have h2 : es[k]? = some t := ht'
     rw [List.take_add_one, List.take_add_one, hs, h1, h2])
    clear ht ht' hs hAB
    go_wp2_with fail
    go_quiet (fail)
    go_wp2_with fail
    go_roundw
    case rel => exact ⟨k + 1, by omega, by go_num, unhide HS, (unhide HAB).below (_root_.Go.below_drewN (Below.refl _ _) _)⟩
    case measure => simp [intOf]; omega
   ·have hne : rs = false := by
     rw [unhide HRS, decide_eq_false]
     intro e
     injection e with e1 e2
     have h1 : ds[k]? = some t := ht
     have h2 : es[k]? = some t' := ht'
     rw [e1, h2] at h1
     injection h1 with h1
     exact he h1.symm
    have HN := hide hne
    have d2 : (t != t') = true := by rw [bne_iff_ne]; exact he
    have d3 : (t == t') = false := by rw [beq_eq_false_iff_ne]; exact he
    clear ht ht' hs hAB hne he
    go_wp2_with fail
    go_quiet (fail)
    go_wp2_with fail
    go_ret
    rw [unhide HN]
    exact ⟨rfl, ((unhide HAB).below (_root_.Go.below_drewN (Below.refl _ _) _)).bel⟩
  ·have hds : ds = es := by
    rw [List.take_of_length_le (by omega), List.take_of_length_le (by omega)] at hs
    exact hs
   have HDS := hide hds
   have z1 : ¬ (k : Int) < (n : Int) := by omega
   have z2 : decide ((k : Int) < (n : Int)) = false := by simp; omega
   clear hds hs hAB
   go_wp2_with fail
   clear q0 q1 q2 q3
   go_loopw [6] (fun iv wr => ∃ k : Nat, k ≤ n2 ∧ iv = .int .i64 k ∧ fs.take k = gs.take k ∧ AB2 A n cap A2 n2 cap2 ⟨ds, fs⟩ C n cap3 C2 n2 cap4 ⟨es, gs⟩ w wr B) (fun iv _ => n2 - (intOf iv).toNat)
   case atStart => exact ⟨0, Nat.zero_le _, rfl, rfl, unhide HAB⟩
   case round =>
    clear HAB z1 z2 hk hkn
    obtain ⟨j, hj, rfl, hs, hAB⟩ := hrel
    have HAB := hide hAB
    obtain ⟨q0, q1, q2, q3⟩ := hAB.c
    by_cases hjn : j < n2
    ·obtain ⟨b, off, f, rfl, hb, hf, x0, x1, x2, x3, x4⟩ := hAB.i.f.at_ (k := j) hjn
     obtain ⟨b', off', g, rfl, hb', hg, y0, y1, y2, y3, y4⟩ := hAB.j.f.at_ (k := j) hjn
     have z0 : (0 : Int) ≤ (j : Int) := by omega
     have z1 : (j : Int) < (n2 : Int) := by omega
     have hgd := fil_guard
     have hq := fun W => run_neq_fil W f g
     obtain ⟨f1, f2, f3, f4, f5⟩ := f
     obtain ⟨g1, g2, g3, g4, g5⟩ := g
     by_cases he : (⟨f1, f2, f3, f4, f5⟩ : Fil) = ⟨g1, g2, g3, g4, g5⟩
     ·rw [decide_eq_true he] at hq
      have HS := hide (show fs.take (j + 1) = gs.take (j + 1) by
       have h1 : fs[j]? = some _ := hf
       have h2 : gs[j]? = some _ := hg
       rw [List.take_add_one, List.take_add_one, hs, h1, h2, he])
      clear hf hg hs hAB he
      go_wp2_with fail
      go_quiet (fail)
      go_wp2_with fail
      go_roundw
      case rel => exact ⟨j + 1, by omega, by go_num, unhide HS, (unhide HAB).below (_root_.Go.below_drewN (Below.refl _ _) _)⟩
      case measure => simp [intOf]; omega
     ·rw [decide_eq_false he] at hq
      have hne : rs = false := by
       rw [unhide HRS, decide_eq_false]
       intro e
       injection e with e1 e2
       have h1 : fs[j]? = some _ := hf
       have h2 : gs[j]? = some _ := hg
       rw [e2, h2] at h1
       injection h1 with h1
       exact he h1.symm
      have HN := hide hne
      clear hf hg hs hAB hne he
      go_wp2_with fail
      go_quiet (fail)
      go_wp2_with fail
      go_ret
      rw [unhide HN]
      exact ⟨rfl, ((unhide HAB).below (_root_.Go.below_drewN (Below.refl _ _) _)).bel⟩
    ·have hfs : fs = gs := by
      rw [List.take_of_length_le (by omega), List.take_of_length_le (by omega)] at hs
      exact hs
     have hy : rs = true := by rw [unhide HRS, decide_eq_true]; rw [hfs, unhide HDS]
     have HY := hide hy
     have z1 : ¬ (j : Int) < (n2 : Int) := by omega
     have z2 : decide ((j : Int) < (n2 : Int)) = false := by simp; omega
     clear hfs hs hAB hy
     go_wp2_with fail
     go_ret
     rw [unhide HY]
     exact ⟨rfl, (unhide HAB).bel⟩
theorem sameArc (A : Option Addr) (n cap : Nat) (A2 : Option Addr) (n2 cap2 : Nat) (C : Option Addr) (m cap3 : Nat) (C2 : Option Addr) (m2 cap4 : Nat) (a : Arc) (w : World) (h : ArcIn w A n A2 n2 a) (h' : ArcIn w C m C2 m2 a) (hd : a.ds.length ≤ 4) (hf : a.fs.length ≤ 12) :
  Calls Tryz.prog 18 #[arcV A n cap A2 n2 cap2, arcV C m cap3 C2 m2 cap4] w fun e w' => e = .returned (.bool true) ∧ Below w.heap.size w w' := by
 have h1 := h.s.1
 have h2 := h.f.1
 have := sameArchives_any A n cap A2 n2 cap2 a C m cap3 C2 m2 cap4 a w h h' (by omega) (by omega)
 rw [decide_eq_true rfl] at this
 exact this
end Go.Proofs.YtjpgoeimclipjaaGreat
namespace Go.Proofs.YtjpgoeimclipjaaGreat
open Go.ChangeShapes Go.WideShapes Go.Deep Go.RowKit Pl
section
variable {H : Type} {enc : TypeId × Value → H} {P : Program} {w : World} {base : Nat} {spare : Nat → Bool} {held : Bool}
theorem open_slice_fields {t e : TypeId} {fs : Array Field} {fuel : Nat} {cs : List Value} {x : DataW H × List MemPlace} (ht : P.underlying t = some (.slice e)) (he : P.underlying e = some (.struct fs))
  (hone : oneCellFields P fs = true) (hC : P.cellsOf e = fs.size) (h : DataW.trod enc P w base spare held fuel t cs = some x) :
  (cs = [.slice none 0 0] ∧ x = (.nil, [])) ∨
  ∃ (a : Addr) (len cap m : Nat) (D : Nat → DataW H) (Pl : Nat → List MemPlace), cs = [.slice (some a) len cap] ∧ base ≤ a.block ∧ len ≤ cap ∧ cap ≤ maxLen ∧ m = (if spare a.block then cap else len) ∧
   x = (.slice ((List.range len).map D) ((List.range (m - len)).map fun j => D (len + j)), MemPlace.row a (m * fs.size) ++ (List.range m).flatMap Pl) ∧
   ∀ i, i < m → ∃ (ys : List (DataW H × List MemPlace)) (n : Nat), D i = .agg (ys.map (·.1)) ∧ Pl i = ys.flatMap (·.2) ∧ ys.length = fs.size ∧
    ∀ (j : Nat) (f : Field), fs[j]? = some f → ∃ (v : Value) (y : DataW H × List MemPlace), w.cell? (a.add (i * fs.size + j)) = some v ∧ ys[j]? = some y ∧ DataW.trod enc P w base spare held n f.type [v] = some y := by
 rcases open_slice ht h with h0 | ⟨a, len, cap, m, n, D, Pl, hcs, hb, hl, hm, hmm, hx, hi⟩
 ·exact .inl h0
 ·refine .inr ⟨a, len, cap, m, D, Pl, hcs, hb, hl, hm, hmm, by rw [hC] at hx; exact hx, fun i him => ?_⟩
  obtain ⟨cs', hc, ht'⟩ := hi i him
  rw [hC] at hc
  obtain ⟨ys, n', hn', hy, hlen, hyl, hf⟩ := DataW.trod_struct he ht'
  obtain ⟨_, hcl, hat⟩ := World.cells?_some hc
  simp only [Prod.mk.injEq] at hy
  refine ⟨ys, n', hy.1, hy.2, hyl, fun j f hj => ?_⟩
  obtain ⟨ho, hk⟩ := hone_of hone j f hj
  have hjl : j < fs.size := (Array.getElem?_eq_some_iff.1 hj).1
  have hcell := hat j hjl
  have hv : cs'[j]? = some (cs'[j]'(by omega)) := List.getElem?_eq_getElem (by omega)
  have h1 := hf j f hj
  rw [ho, hk] at h1
  have hone' : (cs'.drop j).take 1 = [cs'[j]'(by omega)] := by
   rw [List.drop_eq_getElem_cons (by omega)]
   rfl
  rw [hone'] at h1
  have hys : ys[j]? = some (ys[j]'(by omega)) := List.getElem?_eq_getElem (by omega)
  refine ⟨_, _, ?_, hys, h1.trans hys⟩
  rw [← Go.Deep.add_add, hcell, hv]
end
theorem trodAll_pa {H : Type} {enc : TypeId × Value → H} {P : Program} {w : World} {base : Nat} {spare : Nat → Bool} {held : Bool} {ts : List TypeId} {vs : List Value} {ds : List (DataW H)} {p p' : List MemPlace} (h : DataW.TrodAll enc P w base spare held ts vs ds p) (e : p = p') : DataW.TrodAll enc P w base spare held ts vs ds p' := e ▸ h
theorem list_of {α : Type} (n : Nat) (p : Nat → α → Prop) (h : ∀ i, i < n → ∃ a, p i a) : ∃ l : List α, l.length = n ∧ ∀ i a, l[i]? = some a → p i a := by
 induction n with
 | zero => exact ⟨[], rfl, by simp⟩
 | succ n ih =>
  obtain ⟨l, hl, hp⟩ := ih fun i hi => h i (by omega)
  obtain ⟨a, ha⟩ := h n (by omega)
  refine ⟨l ++ [a], by simp [hl], fun i b hb => ?_⟩
  by_cases hi : i < n
  ·rw [List.getElem?_append_left (by omega)] at hb; exact hp i b hb
  ·rw [List.getElem?_append_right (by omega)] at hb
   have h0 : i - l.length = 0 := by
    rcases Nat.eq_zero_or_pos (i - l.length) with h0 | h0
    ·exact h0
    ·rw [List.getElem?_eq_none (by simp; omega)] at hb; cases hb
   rw [h0] at hb
   simp at hb
   subst hb
   have : i = n := by omega
   subst this; exact ha
end Go.Proofs.YtjpgoeimclipjaaGreat
namespace Go.Proofs.YtjpgoeimclipjaaGreat
open Go.ChangeShapes Go.WideShapes Go.Deep Go.RowKit Pl
theorem maxLen_of_shape {w : World} (h : w.ShapedOpen Tryz.prog) : MaxLenIs w :=
 Go.Proofs.cell_of_shapedOpen_int (zero := #[.int .i64 0]) (t := 3) h (of_decide_eq_true (by kernel_rfl)) (by kernel_rfl) rfl (by kernel_rfl) (by kernel_rfl) Tryz.underlying3
end Go.Proofs.YtjpgoeimclipjaaGreat
namespace Go.Proofs.YtjpgoeimclipjaaGreat
open Go.ChangeShapes Go.WideShapes Go.Deep Go.RowKit Pl
theorem weights_all_mem {H : Type} {P : Program} {e : TypeId} : ∀ {l : List (DataW H)} {x : DataW H}, x ∈ l → ∀ n ∈ x.weights P e, n ∈ DataW.weightsAll P e l
 | y :: l, x, hx, n, hn => by
  simp only [DataW.weightsAll, List.mem_append]
  rcases List.mem_cons.1 hx with rfl | hx
  ·exact .inl hn
  ·exact .inr (weights_all_mem hx n hn)
set_option maxRecDepth 100000 in
theorem open_strsW {H : Type} {enc : TypeId × Value → H} {w : World} {fuel : Nat} {v : Value} {d : DataW H} {p : List MemPlace}
  (hf : DataW.trod enc Tryz.prog w 0 (fun _ => true) true fuel 30 [v] = some (d, p)) (hlt : ∀ x ∈ p, x.block < w.heap.size) (hwt : ∀ n ∈ d.weights Tryz.prog 30, n ≤ reachBytes) :
  ∃ A n cap l, v = .slice A n cap ∧ StrsAt w w.heap.size A n l ∧ (∀ t ∈ l, t.length ≤ 140737488355328) ∧ n ≤ 4611686018427387904 ∧ n ≤ cap := by
 rcases open_slice1 Tryz.underlying30 (by kernel_rfl) hf with ⟨hcs, hx⟩ | ⟨a, len, cap', m, k, V, D, Pl, hcs, _, hlc, hcm, hm, hx, hi⟩
 ·injection hcs with hcs
  exact ⟨_, _, _, [], hcs, ⟨rfl, fun h => absurd h (by omega)⟩, by simp, by omega, by omega⟩
 ·injection hcs with hcs
  have hm : m = cap' := by simpa using hm
  subst hm
  injection hx with hd hp
  have hbt : Tryz.prog.bytesOf 9 = 16 := by kernel_rfl
  have hrb : reachBytes = 140737488351232 := rfl
  have hn : len ≤ 4611686018427387904 := by
   have := hwt (((List.range len).map D).length * 16 + ((List.range (m - len)).map fun j => D (len + j)).length * 16) (by
    rw [hd]
    simp only [DataW.weights, Tryz.underlying30, hbt, Nat.add_mul]
    exact List.mem_cons_self)
   simp at this
   omega
  have hl : ∀ i, i < len → ∃ t : Bytes, w.cell? (a.add i) = some (S t) ∧ t.length ≤ 140737488355328 := by
   intro i hin
   obtain ⟨c0, t0⟩ := hi i (by omega)
   obtain ⟨s, hs, hy, _⟩ := DataW.trod_string Tryz.underlying9 t0
   injection hs with hs
   injection hy with hy _
   rw [hs] at c0
   refine ⟨s.data.toList, c0, ?_⟩
   have hmem : D i ∈ (List.range len).map D := List.mem_map.2 ⟨i, List.mem_range.2 hin, rfl⟩
   have := hwt s.data.toList.length (by
    rw [hd]
    simp only [DataW.weights, Tryz.underlying30, List.mem_cons, List.mem_append]
    exact .inr (.inl (weights_all_mem hmem _ (by rw [hy]; simp [DataW.weights]))))
   omega
  obtain ⟨l, hll, hlp⟩ := list_of len _ hl
  refine ⟨_, len, m, l, hcs, ⟨hll, fun hn => ?_⟩, fun t ht => ?_, hn, by omega⟩
  ·obtain ⟨b, off, spot⟩ := a
   have hspot : spot = none := by
    obtain ⟨t, c0, _⟩ := hl 0 hn
    simpa [Addr.add] using World.cell?_spot c0
   subst hspot
   have hb : b < w.heap.size := by
    refine hlt (.cell b off) ?_
    rw [hp]
    exact List.mem_append_left _ (MemPlace.mem_row.2 ⟨0, by omega, rfl⟩)
   refine ⟨b, off, rfl, hb, fun i t ht => ?_⟩
   have := (hlp i t ht).1
   simpa only [Go.WideShapes.add_plain] using this
  ·obtain ⟨i, hi2⟩ := List.mem_iff_getElem?.1 ht
   exact (hlp i t hi2).2
theorem lit_range {a : Int} (h : (Lit.int .i64 a).wf = true) : -9223372036854775808 ≤ a ∧ a ≤ 9223372036854775807 := by
 have hmin : IntKind.i64.min = -9223372036854775808 := rfl
 have hmax : IntKind.i64.max = 9223372036854775807 := rfl
 simp only [Lit.wf, Bool.and_eq_true, decide_eq_true_eq] at h
 rw [hmin, hmax] at h
 exact h
set_option maxRecDepth 100000 in
theorem open_filsW {H : Type} {enc : TypeId × Value → H} {w : World} {fuel : Nat} {v : Value} {d : DataW H} {p : List MemPlace}
  (hf : DataW.trod enc Tryz.prog w 0 (fun _ => true) true fuel 31 [v] = some (d, p)) (hlt : ∀ x ∈ p, x.block < w.heap.size) (hwt : ∀ n ∈ d.weights Tryz.prog 31, n ≤ reachBytes) :
  ∃ A n cap l, v = .slice A n cap ∧ filsAt w w.heap.size A n l ∧ (∀ t ∈ l, FilSz t) ∧ n ≤ 4611686018427387904 := by
 rcases open_slice_fields Tryz.underlying31 Tryz.underlying61 (by kernel_rfl) (by kernel_rfl) hf with ⟨hcs, hx⟩ | ⟨a, len, cap', m, D, Pl, hcs, _, hlc, hcm, hm, hx, hi⟩
 ·injection hcs with hcs
  exact ⟨_, _, _, [], hcs, ⟨rfl, fun h => absurd h (by omega)⟩, by simp, by omega⟩
 ·injection hcs with hcs
  have hm : m = cap' := by simpa using hm
  subst hm
  injection hx with hd hp
  have hbt : Tryz.prog.bytesOf 61 = 56 := by kernel_rfl
  have hrb : reachBytes = 140737488351232 := rfl
  have hn : len ≤ 4611686018427387904 := by
   have := hwt (((List.range len).map D).length * 56 + ((List.range (m - len)).map fun j => D (len + j)).length * 56) (by
    rw [hd]
    simp only [DataW.weights, Tryz.underlying31, hbt, Nat.add_mul]
    exact List.mem_cons_self)
   simp at this
   omega
  have hl : ∀ i, i < len → ∃ t : Fil, (w.cell? (a.add (i * 5)) = some (S t.name) ∧ w.cell? (a.add (i * 5 + 1)) = some (I t.dict) ∧ w.cell? (a.add (i * 5 + 2)) = some (I t.size) ∧ w.cell? (a.add (i * 5 + 3)) = some (I t.sum) ∧ w.cell? (a.add (i * 5 + 4)) = some (S t.block)) ∧ FilSz t := by
   intro i hin
   obtain ⟨ys, k, hD, _, _, hf⟩ := hi i (by omega)
   obtain ⟨v0, y0, c0, e0, t0⟩ := hf 0 _ rfl
   obtain ⟨v1, y1, c1, e1, t1⟩ := hf 1 _ rfl
   obtain ⟨v2, y2, c2, e2, t2⟩ := hf 2 _ rfl
   obtain ⟨v3, y3, c3, e3, t3⟩ := hf 3 _ rfl
   obtain ⟨v4, y4, c4, e4, t4⟩ := hf 4 _ rfl
   obtain ⟨s, hs, hys, _⟩ := DataW.trod_string Tryz.underlying9 t0
   obtain ⟨x1, hx1, hy1, hw1⟩ := DataW.trod_int Tryz.underlying3 t1
   obtain ⟨x2, hx2, hy2, hw2⟩ := DataW.trod_int Tryz.underlying3 t2
   obtain ⟨x3, hx3, hy3, hw3⟩ := DataW.trod_int Tryz.underlying3 t3
   obtain ⟨u, hu, hyu, _⟩ := DataW.trod_string Tryz.underlying9 t4
   injection hs with hs
   injection hx1 with hx1
   injection hx2 with hx2
   injection hx3 with hx3
   injection hu with hu
   subst hs; subst hx1; subst hx2; subst hx3; subst hu
   have hmem : D i ∈ (List.range len).map D := List.mem_map.2 ⟨i, List.mem_range.2 hin, rfl⟩
   have hwi : ∀ n ∈ (D i).weights Tryz.prog 61, n ≤ reachBytes := fun n hn => hwt n (by
    rw [hd]
    simp only [DataW.weights, Tryz.underlying31, List.mem_cons, List.mem_append]
    exact .inr (.inl (weights_all_mem hmem _ hn)))
   have hwj : ∀ (j : Nat) (t : TypeId) (y : DataW H), (Tryz.prog.underlying 61).map (fun d => match d with | .struct fs => (fs.toList.map (·.type))[j]? | _ => none) = some (some t) → (ys.map (·.1))[j]? = some y → ∀ n ∈ y.weights Tryz.prog t, n ≤ reachBytes := by
    intro j t y ht hy n hn
    refine hwi n ?_
    rw [hD]
    simp only [Tryz.underlying61, Option.map_some, Option.some.injEq] at ht
    simp only [DataW.weights, Tryz.underlying61]
    exact DataW.weights_mem_each ht hy n hn
   have b0 := hwj 0 9 y0.1 (by rw [Tryz.underlying61]; rfl) (by rw [List.getElem?_map, e0]; rfl) s.data.toList.length (by rw [hys]; simp [DataW.weights])
   have b4 := hwj 4 9 y4.1 (by rw [Tryz.underlying61]; rfl) (by rw [List.getElem?_map, e4]; rfl) u.data.toList.length (by rw [hyu]; simp [DataW.weights])
   obtain ⟨r1, r1'⟩ := lit_range hw1
   obtain ⟨r2, r2'⟩ := lit_range hw2
   obtain ⟨r3, r3'⟩ := lit_range hw3
   exact ⟨⟨s.data.toList, x1, x2, x3, u.data.toList⟩, ⟨c0, c1, c2, c3, c4⟩, ⟨by show s.data.toList.length ≤ _; omega, by show u.data.toList.length ≤ _; omega, r1, r1', r2, r2', r3, r3'⟩⟩
  obtain ⟨l, hll, hlp⟩ := list_of len _ hl
  refine ⟨_, len, m, l, hcs, ⟨hll, fun hn => ?_⟩, fun t ht => ?_, hn⟩
  ·obtain ⟨b, off, spot⟩ := a
   have hspot : spot = none := by
    obtain ⟨t, ⟨c0, _⟩, _⟩ := hl 0 hn
    simpa [Addr.add] using World.cell?_spot c0
   subst hspot
   have hb : b < w.heap.size := by
    refine hlt (.cell b off) ?_
    rw [hp]
    exact List.mem_append_left _ (MemPlace.mem_row.2 ⟨0, by simp; omega, rfl⟩)
   refine ⟨b, off, rfl, hb, fun i t ht => ?_⟩
   have := (hlp i t ht).1
   simpa only [Go.WideShapes.add_plain, Nat.add_assoc] using this
  ·obtain ⟨i, hi2⟩ := List.mem_iff_getElem?.1 ht
   exact (hlp i t hi2).2
set_option maxRecDepth 100000 in
theorem open_arc {H : Type} {enc : TypeId × Value → H} {w : World} {base : Nat} {v : Value} {d : DataW H} {p : List MemPlace}
  (hok : Value.okWide Tryz.prog w .any base 33 v) (h : DataW.Trod enc Tryz.prog w 0 (fun _ => true) true 33 v d p) (hlt : ∀ x ∈ p, x.block < w.heap.size) (hwt : ∀ n ∈ d.weights Tryz.prog 33, n ≤ reachBytes) :
  ∃ A n cap A2 n2 cap2 a, v = arcV A n cap A2 n2 cap2 ∧ ArcIn w A n A2 n2 a ∧ ArcSz a ∧ n ≤ cap := by
 obtain ⟨cs, rfl, hcs⟩ := okWide_struct Tryz.underlying33 hok
 have hc2 : cs.size = 2 := hcs.trans (by kernel_rfl)
 obtain ⟨v0, v1, rfl⟩ : ∃ v0 v1, cs = #[v0, v1] := by
  obtain ⟨l⟩ := cs
  match l, hc2 with
  | [x, y], _ => exact ⟨x, y, rfl⟩
 obtain ⟨fuel, hf⟩ := h
 have hf : DataW.trod enc Tryz.prog w 0 (fun _ => true) true fuel 33 [v0, v1] = some (d, p) := hf
 obtain ⟨⟨d0, p0⟩, ⟨d1, p1⟩, k, hx, _, t0, t1⟩ := trod_struct2 Tryz.underlying33 hf
 injection hx with hd hp
 subst hd
 subst hp
 have t0 : DataW.trod enc Tryz.prog w 0 (fun _ => true) true k 30 (([v0, v1].drop 0).take (Tryz.prog.cellsOf 30)) = some (d0, p0) := t0
 have t1 : DataW.trod enc Tryz.prog w 0 (fun _ => true) true k 31 (([v0, v1].drop 1).take (Tryz.prog.cellsOf 31)) = some (d1, p1) := t1
 rw [show Tryz.prog.cellsOf 30 = 1 from by kernel_rfl] at t0
 rw [show Tryz.prog.cellsOf 31 = 1 from by kernel_rfl] at t1
 have t0 : DataW.trod enc Tryz.prog w 0 (fun _ => true) true k 30 [v0] = some (d0, p0) := t0
 have t1 : DataW.trod enc Tryz.prog w 0 (fun _ => true) true k 31 [v1] = some (d1, p1) := t1
 have hw0 : ∀ n ∈ d0.weights Tryz.prog 30, n ≤ reachBytes := fun n hn => hwt n (by
  simp only [DataW.weights, Tryz.underlying33]
  exact DataW.weights_mem_each (j := 0) rfl rfl n hn)
 have hw1 : ∀ n ∈ d1.weights Tryz.prog 31, n ≤ reachBytes := fun n hn => hwt n (by
  simp only [DataW.weights, Tryz.underlying33]
  exact DataW.weights_mem_each (j := 1) rfl rfl n hn)
 obtain ⟨A, n, cap, l, rfl, hs, hsz, hn, hnc⟩ := open_strsW t0 (fun x hx => hlt x (by simp [hx])) hw0
 obtain ⟨A2, n2, cap2, l2, rfl, hs2, hsz2, hn2⟩ := open_filsW t1 (fun x hx => hlt x (by simp [hx])) hw1
 exact ⟨A, n, cap, A2, n2, cap2, ⟨l, l2⟩, rfl, ⟨hs, hs2⟩, ⟨by have := hs.1; show l.length ≤ _; omega, by have := hs2.1; show l2.length ≤ _; omega, hsz, hsz2⟩, hnc⟩
end Go.Proofs.YtjpgoeimclipjaaGreat
