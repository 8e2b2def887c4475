/- Parts of the proofs. -/
import Derived.Test.YtjpgoeimclipjaaGreatAc13
namespace Go.Proofs.YtjpgoeimclipjaaGreat
namespace Pl
theorem findF_mem {name : Bytes} {fs : List Fil} {f : Fil} (h : findF name fs = some f) : f ∈ fs := List.mem_of_find?_eq_some h
theorem keepD_sum (fs : List Fil) : ∀ (ds : List Bytes) (i : Nat), ((keepD fs i ds).map List.length).sum ≤ (ds.map List.length).sum
  | [], _ => by simp [keepD]
  | x :: r, i => by
    have := keepD_sum fs r (i + 1)
    rw [keepD]
    split
    · simp only [List.map_cons, List.sum_cons]; omega
    · simp only [List.map_cons, List.sum_cons]; omega
theorem compact_get {a : Arc} (h : (compact a).2 = 0) (name : Bytes) : get (compact a).1 name = get a name := by
  obtain ⟨h1, h2, h3⟩ := compact_right h
  rw [get_right h2, get_right h1, h3]
  simp only
  rw [find_map (g := moveF a.fs) (fun _ => rfl)]
  cases hf : findF name a.fs with
  | none => rfl
  | some f =>
    have hm := findF_mem hf
    simp only [Option.map_some]
    have hk := keepD_text hm (fileB_text (h1.fr.each f hm))
    show ((textO (keepD a.fs 0 a.ds) (moveF a.fs f)).getD [], 0) = (textD a.ds f, 0)
    rw [hk]
    rfl
theorem compact_size {a : Arc} (h : (compact a).2 = 0) : sizeA (compact a).1 ≤ sizeA a := by
  obtain ⟨h1, h2, h3⟩ := compact_right h
  rw [h3]
  unfold sizeA
  simp only [List.map_map]
  have := keepD_sum a.fs a.ds 0
  have e : ((fun f : Fil => f.block.length) ∘ moveF a.fs) = fun f => f.block.length := rfl
  rw [e]
  omega
theorem moved_hit (fs : List Fil) : ∀ (N x : Nat), 1 ≤ x → x ≤ movedN fs N → ∃ n, 1 ≤ n ∧ n ≤ N ∧ usedB fs n = true ∧ movedN fs n = x
  | 0, x, h1, h2 => by rw [movedN] at h2; omega
  | N + 1, x, h1, h2 => by
    by_cases hx : x ≤ movedN fs N
    · obtain ⟨n, a, b, c, d⟩ := moved_hit fs N x h1 hx
      exact ⟨n, a, by omega, c, d⟩
    · have hs := moved_step fs N
      by_cases hu : usedB fs (N + 1) = true
      · rw [if_pos hu] at hs
        exact ⟨N + 1, by omega, Nat.le_refl _, hu, by omega⟩
      · rw [if_neg hu] at hs; omega
theorem compact_used {a : Arc} {x : Nat} (h1 : 1 ≤ x) (h2 : x ≤ (keepD a.fs 0 a.ds).length) : usedB (a.fs.map (moveF a.fs)) x = true := by
  have hkl := keepD_len a.fs a.ds 0
  have hz : movedN a.fs 0 = 0 := rfl
  obtain ⟨n, _, _, hu, hx⟩ := moved_hit a.fs (0 + a.ds.length) x h1 (by omega)
  obtain ⟨f, hf, hd⟩ := used_iff.1 hu
  exact used_iff.2 ⟨moveF a.fs f, List.mem_map_of_mem hf, by
    unfold moveF
    simp only
    rw [hd, Int.toNat_natCast, hx]⟩
theorem keepD_all {fs : List Fil} : ∀ (l : List Bytes) (i : Nat), (∀ x, i < x → x ≤ i + l.length → usedB fs x = true) → keepD fs i l = l
  | [], _, _ => rfl
  | d :: r, i, h => by
    rw [keepD, if_pos (h (i + 1) (by omega) (by simp)), keepD_all r (i + 1) fun x h1 h2 => h x (by omega) (by simp; omega)]
theorem moved_all {fs : List Fil} {N : Nat} (h : ∀ x, 1 ≤ x → x ≤ N → usedB fs x = true) : ∀ n, n ≤ N → movedN fs n = n
  | 0, _ => rfl
  | n + 1, hn => by rw [moved_step, moved_all h n (by omega), if_pos (h (n + 1) (by omega) hn)]
theorem compact_again {a : Arc} (h : (compact a).2 = 0) : compact (compact a).1 = ((compact a).1, 0) := by
  obtain ⟨h1, h2, h3⟩ := compact_right h
  obtain ⟨c, hc⟩ : ∃ c, c = (compact a).1 := ⟨_, rfl⟩
  rw [← hc] at h2 h3 ⊢
  unfold compact
  rw [if_neg (by rw [(check_iff c).2 h2]; simp)]
  have hu : ∀ x, 1 ≤ x → x ≤ c.ds.length → usedB c.fs x = true := fun x a1 a2 => by
    rw [h3] at a2 ⊢
    exact compact_used a1 a2
  have e1 : keepD c.fs 0 c.ds = c.ds := keepD_all c.ds 0 fun x a1 a2 => hu x (by omega) (by omega)
  have e2 : c.fs.map (moveF c.fs) = c.fs := by
    have e : c.fs.map (moveF c.fs) = c.fs.map id := List.map_congr_left fun g hg => by
      have hle : g.dict.toNat ≤ c.ds.length ∧ 0 ≤ g.dict := by
        have hg2 := hg
        rw [h3] at hg2
        obtain ⟨f, hf, rfl⟩ := List.mem_map.1 hg2
        have hkl := keepD_len a.fs a.ds 0
        have hz : movedN a.fs 0 = 0 := rfl
        have hn : f.dict.toNat ≤ a.ds.length := by
          have ht := fileB_text (h1.fr.each f hf)
          unfold textO dictO at ht
          by_cases h0 : f.dict = 0
          · rw [h0]; simp
          · rw [if_neg h0] at ht
            by_cases hx : f.dict < 1 ∨ (a.ds.length : Int) < f.dict
            · rw [if_pos hx] at ht; cases ht
            · omega
        have hm := moved_mono a.fs (show f.dict.toNat ≤ 0 + a.ds.length from by omega)
        rw [h3]
        unfold moveF
        simp only
        omega
      have hm := moved_all hu g.dict.toNat hle.1
      show moveF c.fs g = g
      unfold moveF
      rw [hm, Int.toNat_of_nonneg hle.2]
    rw [e, List.map_id]
  rw [e1, e2]
end Pl
end Go.Proofs.YtjpgoeimclipjaaGreat
namespace Go.Proofs.YtjpgoeimclipjaaGreat
open Go.RowKit Go.Lib Pl
attribute [local go_sem] ext_list app_list
section
variable {W W' : World} {p : Nat} {A : Option Addr} {n cap : Nat} {A2 : Option Addr} {n2 cap2 : Nat} {a : Arc}
end
theorem retrainBad {a : Arc} {size : Int} (h : (retrain a size).2 ≠ 0) : (retrain a size).1 = arc0 := by
  unfold retrain at h ⊢
  split
  · rfl
  · split
    · rfl
    · split
      · rfl
      · simp_all
theorem compactBad {a : Arc} (h : (compact a).2 ≠ 0) : (compact a).1 = arc0 := by
  unfold compact at h ⊢
  split
  · rfl
  · simp_all
theorem retrain_ra (a : Arc) (size : Int) : RightA (retrain a size).1 := by
  by_cases h : (retrain a size).2 = 0
  · exact (retrain_right h).2.1
  · rw [retrainBad h]; exact arc0_right
theorem compact_ra (a : Arc) : RightA (compact a).1 := by
  by_cases h : (compact a).2 = 0
  · exact (compact_right h).2.1
  · rw [compactBad h]; exact arc0_right
end Go.Proofs.YtjpgoeimclipjaaGreat
namespace Go.Proofs.YtjpgoeimclipjaaGreat
open Go.RowKit Go.Lib Pl
attribute [local go_sem] ext_list app_list
theorem usedB_take {fs : List Fil} {i : Nat} {f : Fil} (h : fs[i]? = some f) (n : Nat) : usedB (fs.take (i + 1)) n = (usedB (fs.take i) n || decide (f.dict = (n : Int))) := by
  unfold usedB; rw [List.take_add_one, h, List.any_append]; simp
end Go.Proofs.YtjpgoeimclipjaaGreat
namespace Go.Proofs.YtjpgoeimclipjaaGreat
open Go.RowKit Go.Lib Pl
attribute [local go_sem] ext_list app_list
set_option maxHeartbeats 8000000 in
set_option maxRecDepth 100000 in
theorem archStays_11 (A : Option Addr) (n cap : Nat) (A2 : Option Addr) (n2 cap2 : Nat) (a : Arc) (size : Int) (file : Bytes) (w : World) (h : ArcIn w A n A2 n2 a) (hz : ArcSz a) (hcap : n ≤ cap) (hm : MaxLenIs w)
    (hrt : (retrain a size).2 = 0) (hck : (compact a).2 = 0) :
    Calls Tryz.prog 10 #[arcV A n cap A2 n2 cap2, I size, S file] w fun e w' => e = .returned (.bool true) ∧ Below w.heap.size w w' := by
  have CG := fun (W : World) (hi : ArcIn W A n A2 n2 a) => get_any A n cap A2 n2 cap2 a file W hi hz
  have CR := fun (W : World) (hi : ArcIn W A n A2 n2 a) (hM : MaxLenIs W) => retrain_any A n cap A2 n2 cap2 a size W hi hz hM
  have CC := fun (W : World) (hi : ArcIn W A n A2 n2 a) => compact_any A n cap A2 n2 cap2 a W hi hz
  have hra1 := retrain_ra a size
  have hra2 := compact_ra a
  obtain ⟨b, hb⟩ : ∃ b, b = (retrain a size).1 := ⟨_, rfl⟩
  obtain ⟨c, hc⟩ : ∃ c, c = (compact a).1 := ⟨_, rfl⟩
  obtain ⟨t0, ht0⟩ : ∃ t, t = (Pl.get a file).1 := ⟨_, rfl⟩
  obtain ⟨f0, hf0⟩ : ∃ t, t = (Pl.get a file).2 := ⟨_, rfl⟩
  rw [← ht0, ← hf0] at CG
  rw [← hb] at hra1
  rw [← hc] at hra2
  have CGb := fun (W : World) (A : Option Addr) (n cap : Nat) (A2 : Option Addr) (n2 cap2 : Nat) (hi : ArcIn W A n A2 n2 b) => get_any A n cap A2 n2 cap2 b file W hi (right_sz hra1)
  rw [show Pl.get b file = (t0, f0) from by rw [hb, retrain_get hrt, ht0, hf0]] at CGb
  rw [show retrain a size = (b, 0) from Prod.ext hb.symm hrt] at CR
  have CGc := fun (W : World) (A : Option Addr) (n cap : Nat) (A2 : Option Addr) (n2 cap2 : Nat) (hi : ArcIn W A n A2 n2 c) => get_any A n cap A2 n2 cap2 c file W hi (right_sz hra2)
  rw [show Pl.get c file = (t0, f0) from by rw [hc, compact_get hck, ht0, hf0]] at CGc
  have hra := (compact_right hck).1
  have CZ := fun (W : World) (hi : ArcIn W A n A2 n2 a) => arcSize_any A n cap A2 n2 cap2 a W hi hz hcap
  rw [(check_iff a).2 hra, if_pos rfl] at CZ
  have CZc := fun (W : World) (A : Option Addr) (n cap : Nat) (A2 : Option Addr) (n2 cap2 : Nat) (hi : ArcIn W A n A2 n2 c) (hn : n ≤ cap) => arcSize_any A n cap A2 n2 cap2 c W hi (right_sz hra2) hn
  rw [(check_iff c).2 hra2, if_pos rfl] at CZc
  have hle : ¬ ((sizeA a : Nat) : Int) < ((sizeA c : Nat) : Int) := by have := compact_size hck; rw [← hc] at this; omega
  obtain ⟨z1, hz1⟩ : ∃ z, z = sizeA a := ⟨_, rfl⟩
  obtain ⟨z2, hz2⟩ : ∃ z, z = sizeA c := ⟨_, rfl⟩
  rw [← hz1] at CZ hle
  rw [← hz2] at CZc hle
  have CCc := fun (W : World) (A : Option Addr) (n cap : Nat) (A2 : Option Addr) (n2 cap2 : Nat) (hi : ArcIn W A n A2 n2 c) => compact_any A n cap A2 n2 cap2 c W hi (right_sz hra2)
  rw [show compact c = (c, 0) from by rw [hc]; exact compact_again hck] at CCc
  have hus : ∀ x : Nat, 1 ≤ x → x ≤ c.ds.length → usedB c.fs x = true := fun x h1 h2 => by
    have h3 := (compact_right hck).2.2
    rw [← hc] at h3
    rw [h3] at h2 ⊢
    exact compact_used h1 h2
  have hnd := hra2.nd
  have hnf := hra2.nf
  rw [show compact a = (c, 0) from Prod.ext hc.symm hck] at CC
  have HUS := hide hus
  clear hus hz1 hz2 hra
  have CG := hide CG
  have CR := hide CR
  have CC := hide CC
  have CGb := hide CGb
  have CGc := hide CGc
  have CZ := hide CZ
  have CZc := hide CZc
  have CCc := hide CCc
  clear hz hcap hb hc ht0 hf0 hra1 hra2 hrt hck
  obtain ⟨B, hB⟩ : ∃ B, B = w.heap.size := ⟨_, rfl⟩
  obtain ⟨w0, hw0⟩ : ∃ w0, w0 = w.alloc (.cells #[.slice A n cap, .slice A2 n2 cap2] 33) := ⟨_, rfl⟩
  have H0 := hide (show St w w0 B [⟨B, A, n, cap, A2, n2, cap2, a⟩] by rw [hw0, hB]; exact St.box h cap cap2)
  have HB := hide hB
  have HW0 := hide hw0
  have HM := hide hm
  rw [← hB]
  clear hB hw0 hm
  go_enter Tryz.func10, Tryz.ntmps10
  go_upto_region 1 with fail
  rw [← unhide HW0, ← unhide HB]
  have u0x0 : w0.cell? ⟨B, 0, none⟩ = some (.slice A n cap) := (unhide H0).c0 0 rfl
  have v0x0 : w0.cell? ⟨B, 1, none⟩ = some (.slice A2 n2 cap2) := (unhide H0).c1 0 rfl
  go_wp2_with fail
  refine (unhide CG _ ((unhide H0).at_ 0 rfl).i).mono ?_
  rintro e w1 ⟨rfl, hb1⟩
  have H1 := hide ((unhide H0).below hb1)
  clear hb1
  clear u0x0 v0x0
  have u1x0 : w1.cell? ⟨B, 0, none⟩ = some (.slice A n cap) := (unhide H1).c0 0 rfl
  have v1x0 : w1.cell? ⟨B, 1, none⟩ = some (.slice A2 n2 cap2) := (unhide H1).c1 0 rfl
  go_wp2_with fail
  refine (unhide CR _ ((unhide H1).at_ 0 rfl).i ((unhide HM).up (by have := (unhide H1).bel; rw [unhide HB] at this; exact this))).mono ?_
  rintro e w2 ⟨hr2, hb2⟩
  obtain ⟨Ra2, na2, ca2, Rb2, nb2, cb2, rfl, hi2, hc2, ho2⟩ := hr2.open
  have H2 := hide ((unhide H1).below hb2)
  have HI2 := hide hi2
  have HC2 := hide hc2
  have HO2 := hide ho2
  clear hb2 hi2 hc2 hr2 ho2
  go_upto_region 3 with (refine wpList_store_row rfl 33 (.tmp 9) (.tmp 36) rfl w2.heap.size #[.slice Ra2 na2 ca2, .slice Rb2 nb2 cb2] rfl rfl 33 _ (heap_alloc_new _ _) sizeArc rfl (one_two _ _ _ _ _ _) ?_)
  obtain ⟨x2, hx2⟩ : ∃ x, x = (w2.alloc (.cells #[.slice none 0 0, .slice none 0 0] 33)).setRow w2.heap.size #[.slice Ra2 na2 ca2, .slice Rb2 nb2 cb2] := ⟨_, rfl⟩
  obtain ⟨P2, hP2⟩ : ∃ P, P = w2.heap.size := ⟨_, rfl⟩
  have G2 := hide (show St w x2 B [⟨P2, Ra2, na2, ca2, Rb2, nb2, cb2, b⟩, ⟨B, A, n, cap, A2, n2, cap2, a⟩] by rw [hx2, hP2]; exact (unhide H2).new (unhide HI2) ca2 cb2)
  rw [← hx2, ← hP2]
  clear hx2 hP2
  clear u1x0 v1x0
  have u2x0 : x2.cell? ⟨P2, 0, none⟩ = some (.slice Ra2 na2 ca2) := (unhide G2).c0 0 rfl
  have v2x0 : x2.cell? ⟨P2, 1, none⟩ = some (.slice Rb2 nb2 cb2) := (unhide G2).c1 0 rfl
  have u2x1 : x2.cell? ⟨B, 0, none⟩ = some (.slice A n cap) := (unhide G2).c0 1 rfl
  have v2x1 : x2.cell? ⟨B, 1, none⟩ = some (.slice A2 n2 cap2) := (unhide G2).c1 1 rfl
  go_wp2_with fail
  refine (unhide CGb _ _ _ _ _ _ _ ((unhide G2).at_ 0 rfl).i).mono ?_
  rintro e w3 ⟨rfl, hb3⟩
  have H3 := hide ((unhide G2).below hb3)
  clear hb3
  clear u2x0 v2x0 u2x1 v2x1
  have u3x0 : w3.cell? ⟨P2, 0, none⟩ = some (.slice Ra2 na2 ca2) := (unhide H3).c0 0 rfl
  have v3x0 : w3.cell? ⟨P2, 1, none⟩ = some (.slice Rb2 nb2 cb2) := (unhide H3).c1 0 rfl
  have u3x1 : w3.cell? ⟨B, 0, none⟩ = some (.slice A n cap) := (unhide H3).c0 1 rfl
  have v3x1 : w3.cell? ⟨B, 1, none⟩ = some (.slice A2 n2 cap2) := (unhide H3).c1 1 rfl
  go_wp2_with fail
  refine (unhide CC _ ((unhide H3).at_ 1 rfl).i).mono ?_
  rintro e w4 ⟨hr4, hb4⟩
  obtain ⟨Ra4, na4, ca4, Rb4, nb4, cb4, rfl, hi4, hc4, ho4⟩ := hr4.open
  have H4 := hide ((unhide H3).below hb4)
  have HI4 := hide hi4
  have HC4 := hide hc4
  have HO4 := hide ho4
  clear hb4 hi4 hc4 hr4 ho4
  go_upto_region 8 with (refine wpList_store_row rfl 33 (.tmp 13) (.tmp 57) rfl w4.heap.size #[.slice Ra4 na4 ca4, .slice Rb4 nb4 cb4] rfl rfl 33 _ (heap_alloc_new _ _) sizeArc rfl (one_two _ _ _ _ _ _) ?_)
  obtain ⟨x4, hx4⟩ : ∃ x, x = (w4.alloc (.cells #[.slice none 0 0, .slice none 0 0] 33)).setRow w4.heap.size #[.slice Ra4 na4 ca4, .slice Rb4 nb4 cb4] := ⟨_, rfl⟩
  obtain ⟨P4, hP4⟩ : ∃ P, P = w4.heap.size := ⟨_, rfl⟩
  have G4 := hide (show St w x4 B [⟨P4, Ra4, na4, ca4, Rb4, nb4, cb4, c⟩, ⟨P2, Ra2, na2, ca2, Rb2, nb2, cb2, b⟩, ⟨B, A, n, cap, A2, n2, cap2, a⟩] by rw [hx4, hP4]; exact (unhide H4).new (unhide HI4) ca4 cb4)
  rw [← hx4, ← hP4]
  clear hx4 hP4
  clear u3x0 v3x0 u3x1 v3x1
  have u4x0 : x4.cell? ⟨P4, 0, none⟩ = some (.slice Ra4 na4 ca4) := (unhide G4).c0 0 rfl
  have v4x0 : x4.cell? ⟨P4, 1, none⟩ = some (.slice Rb4 nb4 cb4) := (unhide G4).c1 0 rfl
  have u4x1 : x4.cell? ⟨P2, 0, none⟩ = some (.slice Ra2 na2 ca2) := (unhide G4).c0 1 rfl
  have v4x1 : x4.cell? ⟨P2, 1, none⟩ = some (.slice Rb2 nb2 cb2) := (unhide G4).c1 1 rfl
  have u4x2 : x4.cell? ⟨B, 0, none⟩ = some (.slice A n cap) := (unhide G4).c0 2 rfl
  have v4x2 : x4.cell? ⟨B, 1, none⟩ = some (.slice A2 n2 cap2) := (unhide G4).c1 2 rfl
  go_wp2_with fail
  refine (unhide CGc _ _ _ _ _ _ _ ((unhide G4).at_ 0 rfl).i).mono ?_
  rintro e w5 ⟨rfl, hb5⟩
  have H5 := hide ((unhide G4).below hb5)
  clear hb5
  clear u4x0 v4x0 u4x1 v4x1 u4x2 v4x2
  have u5x0 : w5.cell? ⟨P4, 0, none⟩ = some (.slice Ra4 na4 ca4) := (unhide H5).c0 0 rfl
  have v5x0 : w5.cell? ⟨P4, 1, none⟩ = some (.slice Rb4 nb4 cb4) := (unhide H5).c1 0 rfl
  have u5x1 : w5.cell? ⟨P2, 0, none⟩ = some (.slice Ra2 na2 ca2) := (unhide H5).c0 1 rfl
  have v5x1 : w5.cell? ⟨P2, 1, none⟩ = some (.slice Rb2 nb2 cb2) := (unhide H5).c1 1 rfl
  have u5x2 : w5.cell? ⟨B, 0, none⟩ = some (.slice A n cap) := (unhide H5).c0 2 rfl
  have v5x2 : w5.cell? ⟨B, 1, none⟩ = some (.slice A2 n2 cap2) := (unhide H5).c1 2 rfl
  go_wp2_with fail
  refine (unhide CZ _ ((unhide H5).at_ 2 rfl).i).mono ?_
  rintro e w6 ⟨rfl, hb6⟩
  have H6 := hide ((unhide H5).below hb6)
  clear hb6
  clear u5x0 v5x0 u5x1 v5x1 u5x2 v5x2
  have u6x0 : w6.cell? ⟨P4, 0, none⟩ = some (.slice Ra4 na4 ca4) := (unhide H6).c0 0 rfl
  have v6x0 : w6.cell? ⟨P4, 1, none⟩ = some (.slice Rb4 nb4 cb4) := (unhide H6).c1 0 rfl
  have u6x1 : w6.cell? ⟨P2, 0, none⟩ = some (.slice Ra2 na2 ca2) := (unhide H6).c0 1 rfl
  have v6x1 : w6.cell? ⟨P2, 1, none⟩ = some (.slice Rb2 nb2 cb2) := (unhide H6).c1 1 rfl
  have u6x2 : w6.cell? ⟨B, 0, none⟩ = some (.slice A n cap) := (unhide H6).c0 2 rfl
  have v6x2 : w6.cell? ⟨B, 1, none⟩ = some (.slice A2 n2 cap2) := (unhide H6).c1 2 rfl
  go_wp2_with fail
  refine (unhide CZc _ _ _ _ _ _ _ ((unhide H6).at_ 0 rfl).i (unhide HC4)).mono ?_
  rintro e w7 ⟨rfl, hb7⟩
  have H7 := hide ((unhide H6).below hb7)
  clear hb7
  clear u6x0 v6x0 u6x1 v6x1 u6x2 v6x2
  have u7x0 : w7.cell? ⟨P4, 0, none⟩ = some (.slice Ra4 na4 ca4) := (unhide H7).c0 0 rfl
  have v7x0 : w7.cell? ⟨P4, 1, none⟩ = some (.slice Rb4 nb4 cb4) := (unhide H7).c1 0 rfl
  have u7x1 : w7.cell? ⟨P2, 0, none⟩ = some (.slice Ra2 na2 ca2) := (unhide H7).c0 1 rfl
  have v7x1 : w7.cell? ⟨P2, 1, none⟩ = some (.slice Rb2 nb2 cb2) := (unhide H7).c1 1 rfl
  have u7x2 : w7.cell? ⟨B, 0, none⟩ = some (.slice A n cap) := (unhide H7).c0 2 rfl
  have v7x2 : w7.cell? ⟨B, 1, none⟩ = some (.slice A2 n2 cap2) := (unhide H7).c1 2 rfl
  go_wp2_with fail
  refine (unhide CCc _ _ _ _ _ _ _ ((unhide H7).at_ 0 rfl).i).mono ?_
  rintro e w8 ⟨hr8, hb8⟩
  obtain ⟨Ra8, na8, ca8, Rb8, nb8, cb8, rfl, hi8, hc8, ho8⟩ := hr8.open
  have H8 := hide ((unhide H7).below hb8)
  have HI8 := hide hi8
  have HC8 := hide hc8
  have HO8 := hide ho8
  clear hb8 hi8 hc8 hr8 ho8
  go_upto_region 14 with (refine wpList_store_row rfl 33 (.tmp 21) (.tmp 81) rfl w8.heap.size #[.slice Ra8 na8 ca8, .slice Rb8 nb8 cb8] rfl rfl 33 _ (heap_alloc_new _ _) sizeArc rfl (one_two _ _ _ _ _ _) ?_)
  obtain ⟨x8, hx8⟩ : ∃ x, x = (w8.alloc (.cells #[.slice none 0 0, .slice none 0 0] 33)).setRow w8.heap.size #[.slice Ra8 na8 ca8, .slice Rb8 nb8 cb8] := ⟨_, rfl⟩
  obtain ⟨P8, hP8⟩ : ∃ P, P = w8.heap.size := ⟨_, rfl⟩
  have G8 := hide (show St w x8 B [⟨P8, Ra8, na8, ca8, Rb8, nb8, cb8, c⟩, ⟨P4, Ra4, na4, ca4, Rb4, nb4, cb4, c⟩, ⟨P2, Ra2, na2, ca2, Rb2, nb2, cb2, b⟩, ⟨B, A, n, cap, A2, n2, cap2, a⟩] by rw [hx8, hP8]; exact (unhide H8).new (unhide HI8) ca8 cb8)
  rw [← hx8, ← hP8]
  clear hx8 hP8
  clear u7x0 v7x0 u7x1 v7x1 u7x2 v7x2
  have u8x0 : x8.cell? ⟨P8, 0, none⟩ = some (.slice Ra8 na8 ca8) := (unhide G8).c0 0 rfl
  have v8x0 : x8.cell? ⟨P8, 1, none⟩ = some (.slice Rb8 nb8 cb8) := (unhide G8).c1 0 rfl
  have u8x1 : x8.cell? ⟨P4, 0, none⟩ = some (.slice Ra4 na4 ca4) := (unhide G8).c0 1 rfl
  have v8x1 : x8.cell? ⟨P4, 1, none⟩ = some (.slice Rb4 nb4 cb4) := (unhide G8).c1 1 rfl
  have u8x2 : x8.cell? ⟨P2, 0, none⟩ = some (.slice Ra2 na2 ca2) := (unhide G8).c0 2 rfl
  have v8x2 : x8.cell? ⟨P2, 1, none⟩ = some (.slice Rb2 nb2 cb2) := (unhide G8).c1 2 rfl
  have u8x3 : x8.cell? ⟨B, 0, none⟩ = some (.slice A n cap) := (unhide G8).c0 3 rfl
  have v8x3 : x8.cell? ⟨B, 1, none⟩ = some (.slice A2 n2 cap2) := (unhide G8).c1 3 rfl
  go_wp2_with fail
  refine (sameArc _ _ _ _ _ _ _ _ _ _ _ _ _ _ ((unhide G8).at_ 1 rfl).i ((unhide G8).at_ 0 rfl).i hnd hnf).mono ?_
  rintro e w9 ⟨rfl, hb9⟩
  have H9 := hide ((unhide G8).below hb9)
  clear hb9
  clear u8x0 v8x0 u8x1 v8x1 u8x2 v8x2 u8x3 v8x3
  have u9x0 : w9.cell? ⟨P8, 0, none⟩ = some (.slice Ra8 na8 ca8) := (unhide H9).c0 0 rfl
  have v9x0 : w9.cell? ⟨P8, 1, none⟩ = some (.slice Rb8 nb8 cb8) := (unhide H9).c1 0 rfl
  have u9x1 : w9.cell? ⟨P4, 0, none⟩ = some (.slice Ra4 na4 ca4) := (unhide H9).c0 1 rfl
  have v9x1 : w9.cell? ⟨P4, 1, none⟩ = some (.slice Rb4 nb4 cb4) := (unhide H9).c1 1 rfl
  have u9x2 : w9.cell? ⟨P2, 0, none⟩ = some (.slice Ra2 na2 ca2) := (unhide H9).c0 2 rfl
  have v9x2 : w9.cell? ⟨P2, 1, none⟩ = some (.slice Rb2 nb2 cb2) := (unhide H9).c1 2 rfl
  have u9x3 : w9.cell? ⟨B, 0, none⟩ = some (.slice A n cap) := (unhide H9).c0 3 rfl
  have v9x3 : w9.cell? ⟨B, 1, none⟩ = some (.slice A2 n2 cap2) := (unhide H9).c1 3 rfl
  go_wp2_with fail
  have hlc : c.ds.length = na4 := (unhide HI4).s.1
  have hfc : c.fs.length = nb4 := (unhide HI4).f.1
  have HIN := hide ((unhide H9).at_ 1 rfl).i
  go_loop [23, 24, 25] (fun xv _ _ => ∃ x : Nat, x ≤ na4 ∧ xv = .int .i64 ((x : Int) + 1)) (fun xv _ _ => na4 + 1 - (intOf xv).toNat)
  case atStart => exact ⟨0, Nat.zero_le _, rfl⟩
  case round =>
    obtain ⟨x, hx, rfl⟩ := hrel
    by_cases hxn : x < na4
    · have z1 : (x : Int) + 1 ≤ (na4 : Int) := by omega
      have hu := unhide HUS (x + 1) (by omega) (by omega)
      have e1 : IntKind.i64.wrap ((x : Int) + 1 + 1) = ((x + 1 : Nat) : Int) + 1 := by rw [show (x : Int) + 1 + 1 = ((x + 1 : Nat) : Int) + 1 from by omega]; exact IntWalk.i64_in _ ⟨by omega, by omega⟩
      have HU := hide hu
      clear hu
      go_wp2_with fail
      go_loop [24, 25] (fun uv iv => ∃ i : Nat, i ≤ nb4 ∧ iv = .int .i64 i ∧ uv = .bool (usedB (c.fs.take i) (x + 1))) (fun _ iv => nb4 - (intOf iv).toNat)
      case atStart => exact ⟨0, Nat.zero_le _, rfl, rfl⟩
      case round =>
        obtain ⟨i, hi, rfl, rfl⟩ := hrel
        by_cases hin2 : i < nb4
        · obtain ⟨b9, off9, f, hB9, hb9, hf, x0, x1, x2, x3, x4⟩ := (unhide HIN).f.at_ (k := i) hin2
          change Rb4 = _ at hB9
          subst hB9
          have hut := usedB_take hf (x + 1)
          have z2 : (i : Int) < (nb4 : Int) := by omega
          cases hu : usedB (c.fs.take i) (x + 1) with
          | true =>
            rw [hu, Bool.true_or] at hut
            have HUT := hide hut
            clear hut hu hf
            go_wp2_with fail
            go_round
            case rel => exact ⟨i + 1, by omega, by go_num, by rw [unhide HUT]⟩
            case measure => simp [intOf]; omega
          | false =>
            rw [hu, Bool.false_or] at hut
            by_cases hd : f.dict = ((x + 1 : Nat) : Int)
            · rw [decide_eq_true hd] at hut
              have HUT := hide hut
              have d5 : (f.dict == (x : Int) + 1) = true := by rw [beq_iff_eq]; omega
              have d6 : f.dict = (x : Int) + 1 := by omega
              clear hut hu hf hd
              go_wp2_with fail
              go_round
              case rel => exact ⟨i + 1, by omega, by go_num, by rw [unhide HUT]⟩
              case measure => simp [intOf]; omega
            · rw [decide_eq_false hd] at hut
              have HUT := hide hut
              have d5 : (f.dict == (x : Int) + 1) = false := by rw [beq_eq_false_iff_ne]; omega
              clear hut hu hf hd
              go_wp2_with fail
              go_round
              case rel => exact ⟨i + 1, by omega, by go_num, by rw [unhide HUT]⟩
              case measure => simp [intOf]; omega
        · have z2 : ¬ (i : Int) < (nb4 : Int) := by omega
          have hall : c.fs.take i = c.fs := List.take_of_length_le (by omega)
          rw [hall, unhide HU]
          clear hall
          go_wp2_with fail
          go_round
          case rel => exact ⟨x + 1, by omega, by go_num⟩
          case measure => simp [intOf]; omega
    · have z1 : ¬ (x : Int) + 1 ≤ (na4 : Int) := by omega
      go_wp2_with fail
      refine (archBegun_any _ ((unhide HM).up (by have := (unhide H9).bel; rw [unhide HB] at this; exact this))).mono ?_
      rintro e w10 ⟨rfl, hb10⟩
      have H10 := hide ((unhide H9).below hb10)
      go_wp2_with fail
      go_ret
      exact ⟨rfl, (unhide H10).bel⟩
set_option maxHeartbeats 8000000 in
set_option maxRecDepth 100000 in
theorem archStays_10 (A : Option Addr) (n cap : Nat) (A2 : Option Addr) (n2 cap2 : Nat) (a : Arc) (size : Int) (file : Bytes) (w : World) (h : ArcIn w A n A2 n2 a) (hz : ArcSz a) (_hcap : n ≤ cap) (hm : MaxLenIs w)
    (hrt : (retrain a size).2 = 0) (hck : (compact a).2 ≠ 0) :
    Calls Tryz.prog 10 #[arcV A n cap A2 n2 cap2, I size, S file] w fun e w' => e = .returned (.bool true) ∧ Below w.heap.size w w' := by
  have CG := fun (W : World) (hi : ArcIn W A n A2 n2 a) => get_any A n cap A2 n2 cap2 a file W hi hz
  have CR := fun (W : World) (hi : ArcIn W A n A2 n2 a) (hM : MaxLenIs W) => retrain_any A n cap A2 n2 cap2 a size W hi hz hM
  have CC := fun (W : World) (hi : ArcIn W A n A2 n2 a) => compact_any A n cap A2 n2 cap2 a W hi hz
  have hra1 := retrain_ra a size
  have hra2 := compact_ra a
  obtain ⟨b, hb⟩ : ∃ b, b = (retrain a size).1 := ⟨_, rfl⟩
  obtain ⟨c, hc⟩ : ∃ c, c = (compact a).1 := ⟨_, rfl⟩
  obtain ⟨t0, ht0⟩ : ∃ t, t = (Pl.get a file).1 := ⟨_, rfl⟩
  obtain ⟨f0, hf0⟩ : ∃ t, t = (Pl.get a file).2 := ⟨_, rfl⟩
  rw [← ht0, ← hf0] at CG
  rw [← hb] at hra1
  rw [← hc] at hra2
  have CGb := fun (W : World) (A : Option Addr) (n cap : Nat) (A2 : Option Addr) (n2 cap2 : Nat) (hi : ArcIn W A n A2 n2 b) => get_any A n cap A2 n2 cap2 b file W hi (right_sz hra1)
  rw [show Pl.get b file = (t0, f0) from by rw [hb, retrain_get hrt, ht0, hf0]] at CGb
  rw [show retrain a size = (b, 0) from Prod.ext hb.symm hrt] at CR
  obtain ⟨ec, hec⟩ : ∃ t, t = (compact a).2 := ⟨_, rfl⟩
  rw [show compact a = (c, ec) from Prod.ext hc.symm hec.symm] at CC
  rw [← hec] at hck
  have o1 : ((ec : Int) != 0) = true := by rw [bne_iff_ne]; omega
  have o2 : ((ec : Int) == 0) = false := by rw [beq_eq_false_iff_ne]; omega
  have o3 : ¬ (ec : Int) = 0 := by omega
  clear hec
  have CG := hide CG
  have CR := hide CR
  have CC := hide CC
  have CGb := hide CGb
  clear hz _hcap hb hc ht0 hf0 hra1 hra2 hrt hck
  obtain ⟨B, hB⟩ : ∃ B, B = w.heap.size := ⟨_, rfl⟩
  obtain ⟨w0, hw0⟩ : ∃ w0, w0 = w.alloc (.cells #[.slice A n cap, .slice A2 n2 cap2] 33) := ⟨_, rfl⟩
  have H0 := hide (show St w w0 B [⟨B, A, n, cap, A2, n2, cap2, a⟩] by rw [hw0, hB]; exact St.box h cap cap2)
  have HB := hide hB
  have HW0 := hide hw0
  have HM := hide hm
  rw [← hB]
  clear hB hw0 hm
  go_enter Tryz.func10, Tryz.ntmps10
  go_upto_region 1 with fail
  rw [← unhide HW0, ← unhide HB]
  have u0x0 : w0.cell? ⟨B, 0, none⟩ = some (.slice A n cap) := (unhide H0).c0 0 rfl
  have v0x0 : w0.cell? ⟨B, 1, none⟩ = some (.slice A2 n2 cap2) := (unhide H0).c1 0 rfl
  go_wp2_with fail
  refine (unhide CG _ ((unhide H0).at_ 0 rfl).i).mono ?_
  rintro e w1 ⟨rfl, hb1⟩
  have H1 := hide ((unhide H0).below hb1)
  clear hb1
  clear u0x0 v0x0
  have u1x0 : w1.cell? ⟨B, 0, none⟩ = some (.slice A n cap) := (unhide H1).c0 0 rfl
  have v1x0 : w1.cell? ⟨B, 1, none⟩ = some (.slice A2 n2 cap2) := (unhide H1).c1 0 rfl
  go_wp2_with fail
  refine (unhide CR _ ((unhide H1).at_ 0 rfl).i ((unhide HM).up (by have := (unhide H1).bel; rw [unhide HB] at this; exact this))).mono ?_
  rintro e w2 ⟨hr2, hb2⟩
  obtain ⟨Ra2, na2, ca2, Rb2, nb2, cb2, rfl, hi2, hc2, ho2⟩ := hr2.open
  have H2 := hide ((unhide H1).below hb2)
  have HI2 := hide hi2
  have HC2 := hide hc2
  have HO2 := hide ho2
  clear hb2 hi2 hc2 hr2 ho2
  go_upto_region 3 with (refine wpList_store_row rfl 33 (.tmp 9) (.tmp 36) rfl w2.heap.size #[.slice Ra2 na2 ca2, .slice Rb2 nb2 cb2] rfl rfl 33 _ (heap_alloc_new _ _) sizeArc rfl (one_two _ _ _ _ _ _) ?_)
  obtain ⟨x2, hx2⟩ : ∃ x, x = (w2.alloc (.cells #[.slice none 0 0, .slice none 0 0] 33)).setRow w2.heap.size #[.slice Ra2 na2 ca2, .slice Rb2 nb2 cb2] := ⟨_, rfl⟩
  obtain ⟨P2, hP2⟩ : ∃ P, P = w2.heap.size := ⟨_, rfl⟩
  have G2 := hide (show St w x2 B [⟨P2, Ra2, na2, ca2, Rb2, nb2, cb2, b⟩, ⟨B, A, n, cap, A2, n2, cap2, a⟩] by rw [hx2, hP2]; exact (unhide H2).new (unhide HI2) ca2 cb2)
  rw [← hx2, ← hP2]
  clear hx2 hP2
  clear u1x0 v1x0
  have u2x0 : x2.cell? ⟨P2, 0, none⟩ = some (.slice Ra2 na2 ca2) := (unhide G2).c0 0 rfl
  have v2x0 : x2.cell? ⟨P2, 1, none⟩ = some (.slice Rb2 nb2 cb2) := (unhide G2).c1 0 rfl
  have u2x1 : x2.cell? ⟨B, 0, none⟩ = some (.slice A n cap) := (unhide G2).c0 1 rfl
  have v2x1 : x2.cell? ⟨B, 1, none⟩ = some (.slice A2 n2 cap2) := (unhide G2).c1 1 rfl
  go_wp2_with fail
  refine (unhide CGb _ _ _ _ _ _ _ ((unhide G2).at_ 0 rfl).i).mono ?_
  rintro e w3 ⟨rfl, hb3⟩
  have H3 := hide ((unhide G2).below hb3)
  clear hb3
  clear u2x0 v2x0 u2x1 v2x1
  have u3x0 : w3.cell? ⟨P2, 0, none⟩ = some (.slice Ra2 na2 ca2) := (unhide H3).c0 0 rfl
  have v3x0 : w3.cell? ⟨P2, 1, none⟩ = some (.slice Rb2 nb2 cb2) := (unhide H3).c1 0 rfl
  have u3x1 : w3.cell? ⟨B, 0, none⟩ = some (.slice A n cap) := (unhide H3).c0 1 rfl
  have v3x1 : w3.cell? ⟨B, 1, none⟩ = some (.slice A2 n2 cap2) := (unhide H3).c1 1 rfl
  go_wp2_with fail
  refine (unhide CC _ ((unhide H3).at_ 1 rfl).i).mono ?_
  rintro e w4 ⟨hr4, hb4⟩
  obtain ⟨Ra4, na4, ca4, Rb4, nb4, cb4, rfl, hi4, hc4, ho4⟩ := hr4.open
  have H4 := hide ((unhide H3).below hb4)
  have HI4 := hide hi4
  have HC4 := hide hc4
  have HO4 := hide ho4
  clear hb4 hi4 hc4 hr4 ho4
  go_upto_region 8 with (refine wpList_store_row rfl 33 (.tmp 13) (.tmp 57) rfl w4.heap.size #[.slice Ra4 na4 ca4, .slice Rb4 nb4 cb4] rfl rfl 33 _ (heap_alloc_new _ _) sizeArc rfl (one_two _ _ _ _ _ _) ?_)
  obtain ⟨x4, hx4⟩ : ∃ x, x = (w4.alloc (.cells #[.slice none 0 0, .slice none 0 0] 33)).setRow w4.heap.size #[.slice Ra4 na4 ca4, .slice Rb4 nb4 cb4] := ⟨_, rfl⟩
  obtain ⟨P4, hP4⟩ : ∃ P, P = w4.heap.size := ⟨_, rfl⟩
  have G4 := hide (show St w x4 B [⟨P4, Ra4, na4, ca4, Rb4, nb4, cb4, c⟩, ⟨P2, Ra2, na2, ca2, Rb2, nb2, cb2, b⟩, ⟨B, A, n, cap, A2, n2, cap2, a⟩] by rw [hx4, hP4]; exact (unhide H4).new (unhide HI4) ca4 cb4)
  rw [← hx4, ← hP4]
  clear hx4 hP4
  clear u3x0 v3x0 u3x1 v3x1
  have u4x0 : x4.cell? ⟨P4, 0, none⟩ = some (.slice Ra4 na4 ca4) := (unhide G4).c0 0 rfl
  have v4x0 : x4.cell? ⟨P4, 1, none⟩ = some (.slice Rb4 nb4 cb4) := (unhide G4).c1 0 rfl
  have u4x1 : x4.cell? ⟨P2, 0, none⟩ = some (.slice Ra2 na2 ca2) := (unhide G4).c0 1 rfl
  have v4x1 : x4.cell? ⟨P2, 1, none⟩ = some (.slice Rb2 nb2 cb2) := (unhide G4).c1 1 rfl
  have u4x2 : x4.cell? ⟨B, 0, none⟩ = some (.slice A n cap) := (unhide G4).c0 2 rfl
  have v4x2 : x4.cell? ⟨B, 1, none⟩ = some (.slice A2 n2 cap2) := (unhide G4).c1 2 rfl
  go_wp2_with fail
  refine (archBegun_any _ ((unhide HM).up (by have := (unhide G4).bel; rw [unhide HB] at this; exact this))).mono ?_
  rintro e w5 ⟨rfl, hb5⟩
  have H5 := hide ((unhide G4).below hb5)
  clear hb5
  clear u4x0 v4x0 u4x1 v4x1 u4x2 v4x2
  have u5x0 : w5.cell? ⟨P4, 0, none⟩ = some (.slice Ra4 na4 ca4) := (unhide H5).c0 0 rfl
  have v5x0 : w5.cell? ⟨P4, 1, none⟩ = some (.slice Rb4 nb4 cb4) := (unhide H5).c1 0 rfl
  have u5x1 : w5.cell? ⟨P2, 0, none⟩ = some (.slice Ra2 na2 ca2) := (unhide H5).c0 1 rfl
  have v5x1 : w5.cell? ⟨P2, 1, none⟩ = some (.slice Rb2 nb2 cb2) := (unhide H5).c1 1 rfl
  have u5x2 : w5.cell? ⟨B, 0, none⟩ = some (.slice A n cap) := (unhide H5).c0 2 rfl
  have v5x2 : w5.cell? ⟨B, 1, none⟩ = some (.slice A2 n2 cap2) := (unhide H5).c1 2 rfl
  go_wp2_with fail
  go_ret
  exact ⟨rfl, (unhide H5).bel⟩
set_option maxHeartbeats 8000000 in
set_option maxRecDepth 100000 in
theorem archStays_01 (A : Option Addr) (n cap : Nat) (A2 : Option Addr) (n2 cap2 : Nat) (a : Arc) (size : Int) (file : Bytes) (w : World) (h : ArcIn w A n A2 n2 a) (hz : ArcSz a) (hcap : n ≤ cap) (hm : MaxLenIs w)
    (hrt : (retrain a size).2 ≠ 0) (hck : (compact a).2 = 0) :
    Calls Tryz.prog 10 #[arcV A n cap A2 n2 cap2, I size, S file] w fun e w' => e = .returned (.bool true) ∧ Below w.heap.size w w' := by
  have CG := fun (W : World) (hi : ArcIn W A n A2 n2 a) => get_any A n cap A2 n2 cap2 a file W hi hz
  have CR := fun (W : World) (hi : ArcIn W A n A2 n2 a) (hM : MaxLenIs W) => retrain_any A n cap A2 n2 cap2 a size W hi hz hM
  have CC := fun (W : World) (hi : ArcIn W A n A2 n2 a) => compact_any A n cap A2 n2 cap2 a W hi hz
  have hra1 := retrain_ra a size
  have hra2 := compact_ra a
  obtain ⟨b, hb⟩ : ∃ b, b = (retrain a size).1 := ⟨_, rfl⟩
  obtain ⟨c, hc⟩ : ∃ c, c = (compact a).1 := ⟨_, rfl⟩
  obtain ⟨t0, ht0⟩ : ∃ t, t = (Pl.get a file).1 := ⟨_, rfl⟩
  obtain ⟨f0, hf0⟩ : ∃ t, t = (Pl.get a file).2 := ⟨_, rfl⟩
  rw [← ht0, ← hf0] at CG
  rw [← hb] at hra1
  rw [← hc] at hra2
  obtain ⟨er, her⟩ : ∃ t, t = (retrain a size).2 := ⟨_, rfl⟩
  rw [show retrain a size = (b, er) from Prod.ext hb.symm her.symm] at CR
  rw [← her] at hrt
  have d1 : ((er : Int) != 0) = true := by rw [bne_iff_ne]; omega
  have d2 : ((er : Int) == 0) = false := by rw [beq_eq_false_iff_ne]; omega
  have d3 : ¬ (er : Int) = 0 := by omega
  clear her
  have CGc := fun (W : World) (A : Option Addr) (n cap : Nat) (A2 : Option Addr) (n2 cap2 : Nat) (hi : ArcIn W A n A2 n2 c) => get_any A n cap A2 n2 cap2 c file W hi (right_sz hra2)
  rw [show Pl.get c file = (t0, f0) from by rw [hc, compact_get hck, ht0, hf0]] at CGc
  have hra := (compact_right hck).1
  have CZ := fun (W : World) (hi : ArcIn W A n A2 n2 a) => arcSize_any A n cap A2 n2 cap2 a W hi hz hcap
  rw [(check_iff a).2 hra, if_pos rfl] at CZ
  have CZc := fun (W : World) (A : Option Addr) (n cap : Nat) (A2 : Option Addr) (n2 cap2 : Nat) (hi : ArcIn W A n A2 n2 c) (hn : n ≤ cap) => arcSize_any A n cap A2 n2 cap2 c W hi (right_sz hra2) hn
  rw [(check_iff c).2 hra2, if_pos rfl] at CZc
  have hle : ¬ ((sizeA a : Nat) : Int) < ((sizeA c : Nat) : Int) := by have := compact_size hck; rw [← hc] at this; omega
  obtain ⟨z1, hz1⟩ : ∃ z, z = sizeA a := ⟨_, rfl⟩
  obtain ⟨z2, hz2⟩ : ∃ z, z = sizeA c := ⟨_, rfl⟩
  rw [← hz1] at CZ hle
  rw [← hz2] at CZc hle
  have CCc := fun (W : World) (A : Option Addr) (n cap : Nat) (A2 : Option Addr) (n2 cap2 : Nat) (hi : ArcIn W A n A2 n2 c) => compact_any A n cap A2 n2 cap2 c W hi (right_sz hra2)
  rw [show compact c = (c, 0) from by rw [hc]; exact compact_again hck] at CCc
  have hus : ∀ x : Nat, 1 ≤ x → x ≤ c.ds.length → usedB c.fs x = true := fun x h1 h2 => by
    have h3 := (compact_right hck).2.2
    rw [← hc] at h3
    rw [h3] at h2 ⊢
    exact compact_used h1 h2
  have hnd := hra2.nd
  have hnf := hra2.nf
  rw [show compact a = (c, 0) from Prod.ext hc.symm hck] at CC
  have HUS := hide hus
  clear hus hz1 hz2 hra
  have CG := hide CG
  have CR := hide CR
  have CC := hide CC
  have CGc := hide CGc
  have CZ := hide CZ
  have CZc := hide CZc
  have CCc := hide CCc
  clear hz hcap hb hc ht0 hf0 hra1 hra2 hrt hck
  obtain ⟨B, hB⟩ : ∃ B, B = w.heap.size := ⟨_, rfl⟩
  obtain ⟨w0, hw0⟩ : ∃ w0, w0 = w.alloc (.cells #[.slice A n cap, .slice A2 n2 cap2] 33) := ⟨_, rfl⟩
  have H0 := hide (show St w w0 B [⟨B, A, n, cap, A2, n2, cap2, a⟩] by rw [hw0, hB]; exact St.box h cap cap2)
  have HB := hide hB
  have HW0 := hide hw0
  have HM := hide hm
  rw [← hB]
  clear hB hw0 hm
  go_enter Tryz.func10, Tryz.ntmps10
  go_upto_region 1 with fail
  rw [← unhide HW0, ← unhide HB]
  have u0x0 : w0.cell? ⟨B, 0, none⟩ = some (.slice A n cap) := (unhide H0).c0 0 rfl
  have v0x0 : w0.cell? ⟨B, 1, none⟩ = some (.slice A2 n2 cap2) := (unhide H0).c1 0 rfl
  go_wp2_with fail
  refine (unhide CG _ ((unhide H0).at_ 0 rfl).i).mono ?_
  rintro e w1 ⟨rfl, hb1⟩
  have H1 := hide ((unhide H0).below hb1)
  clear hb1
  clear u0x0 v0x0
  have u1x0 : w1.cell? ⟨B, 0, none⟩ = some (.slice A n cap) := (unhide H1).c0 0 rfl
  have v1x0 : w1.cell? ⟨B, 1, none⟩ = some (.slice A2 n2 cap2) := (unhide H1).c1 0 rfl
  go_wp2_with fail
  refine (unhide CR _ ((unhide H1).at_ 0 rfl).i ((unhide HM).up (by have := (unhide H1).bel; rw [unhide HB] at this; exact this))).mono ?_
  rintro e w2 ⟨hr2, hb2⟩
  obtain ⟨Ra2, na2, ca2, Rb2, nb2, cb2, rfl, hi2, hc2, ho2⟩ := hr2.open
  have H2 := hide ((unhide H1).below hb2)
  have HI2 := hide hi2
  have HC2 := hide hc2
  have HO2 := hide ho2
  clear hb2 hi2 hc2 hr2 ho2
  go_upto_region 3 with (refine wpList_store_row rfl 33 (.tmp 9) (.tmp 36) rfl w2.heap.size #[.slice Ra2 na2 ca2, .slice Rb2 nb2 cb2] rfl rfl 33 _ (heap_alloc_new _ _) sizeArc rfl (one_two _ _ _ _ _ _) ?_)
  obtain ⟨x2, hx2⟩ : ∃ x, x = (w2.alloc (.cells #[.slice none 0 0, .slice none 0 0] 33)).setRow w2.heap.size #[.slice Ra2 na2 ca2, .slice Rb2 nb2 cb2] := ⟨_, rfl⟩
  obtain ⟨P2, hP2⟩ : ∃ P, P = w2.heap.size := ⟨_, rfl⟩
  have G2 := hide (show St w x2 B [⟨P2, Ra2, na2, ca2, Rb2, nb2, cb2, b⟩, ⟨B, A, n, cap, A2, n2, cap2, a⟩] by rw [hx2, hP2]; exact (unhide H2).new (unhide HI2) ca2 cb2)
  rw [← hx2, ← hP2]
  clear hx2 hP2
  clear u1x0 v1x0
  have u2x0 : x2.cell? ⟨P2, 0, none⟩ = some (.slice Ra2 na2 ca2) := (unhide G2).c0 0 rfl
  have v2x0 : x2.cell? ⟨P2, 1, none⟩ = some (.slice Rb2 nb2 cb2) := (unhide G2).c1 0 rfl
  have u2x1 : x2.cell? ⟨B, 0, none⟩ = some (.slice A n cap) := (unhide G2).c0 1 rfl
  have v2x1 : x2.cell? ⟨B, 1, none⟩ = some (.slice A2 n2 cap2) := (unhide G2).c1 1 rfl
  go_wp2_with fail
  refine (unhide CC _ ((unhide G2).at_ 1 rfl).i).mono ?_
  rintro e w3 ⟨hr3, hb3⟩
  obtain ⟨Ra3, na3, ca3, Rb3, nb3, cb3, rfl, hi3, hc3, ho3⟩ := hr3.open
  have H3 := hide ((unhide G2).below hb3)
  have HI3 := hide hi3
  have HC3 := hide hc3
  have HO3 := hide ho3
  clear hb3 hi3 hc3 hr3 ho3
  go_upto_region 8 with (refine wpList_store_row rfl 33 (.tmp 13) (.tmp 57) rfl w3.heap.size #[.slice Ra3 na3 ca3, .slice Rb3 nb3 cb3] rfl rfl 33 _ (heap_alloc_new _ _) sizeArc rfl (one_two _ _ _ _ _ _) ?_)
  obtain ⟨x3, hx3⟩ : ∃ x, x = (w3.alloc (.cells #[.slice none 0 0, .slice none 0 0] 33)).setRow w3.heap.size #[.slice Ra3 na3 ca3, .slice Rb3 nb3 cb3] := ⟨_, rfl⟩
  obtain ⟨P3, hP3⟩ : ∃ P, P = w3.heap.size := ⟨_, rfl⟩
  have G3 := hide (show St w x3 B [⟨P3, Ra3, na3, ca3, Rb3, nb3, cb3, c⟩, ⟨P2, Ra2, na2, ca2, Rb2, nb2, cb2, b⟩, ⟨B, A, n, cap, A2, n2, cap2, a⟩] by rw [hx3, hP3]; exact (unhide H3).new (unhide HI3) ca3 cb3)
  rw [← hx3, ← hP3]
  clear hx3 hP3
  clear u2x0 v2x0 u2x1 v2x1
  have u3x0 : x3.cell? ⟨P3, 0, none⟩ = some (.slice Ra3 na3 ca3) := (unhide G3).c0 0 rfl
  have v3x0 : x3.cell? ⟨P3, 1, none⟩ = some (.slice Rb3 nb3 cb3) := (unhide G3).c1 0 rfl
  have u3x1 : x3.cell? ⟨P2, 0, none⟩ = some (.slice Ra2 na2 ca2) := (unhide G3).c0 1 rfl
  have v3x1 : x3.cell? ⟨P2, 1, none⟩ = some (.slice Rb2 nb2 cb2) := (unhide G3).c1 1 rfl
  have u3x2 : x3.cell? ⟨B, 0, none⟩ = some (.slice A n cap) := (unhide G3).c0 2 rfl
  have v3x2 : x3.cell? ⟨B, 1, none⟩ = some (.slice A2 n2 cap2) := (unhide G3).c1 2 rfl
  go_wp2_with fail
  refine (unhide CGc _ _ _ _ _ _ _ ((unhide G3).at_ 0 rfl).i).mono ?_
  rintro e w4 ⟨rfl, hb4⟩
  have H4 := hide ((unhide G3).below hb4)
  clear hb4
  clear u3x0 v3x0 u3x1 v3x1 u3x2 v3x2
  have u4x0 : w4.cell? ⟨P3, 0, none⟩ = some (.slice Ra3 na3 ca3) := (unhide H4).c0 0 rfl
  have v4x0 : w4.cell? ⟨P3, 1, none⟩ = some (.slice Rb3 nb3 cb3) := (unhide H4).c1 0 rfl
  have u4x1 : w4.cell? ⟨P2, 0, none⟩ = some (.slice Ra2 na2 ca2) := (unhide H4).c0 1 rfl
  have v4x1 : w4.cell? ⟨P2, 1, none⟩ = some (.slice Rb2 nb2 cb2) := (unhide H4).c1 1 rfl
  have u4x2 : w4.cell? ⟨B, 0, none⟩ = some (.slice A n cap) := (unhide H4).c0 2 rfl
  have v4x2 : w4.cell? ⟨B, 1, none⟩ = some (.slice A2 n2 cap2) := (unhide H4).c1 2 rfl
  go_wp2_with fail
  refine (unhide CZ _ ((unhide H4).at_ 2 rfl).i).mono ?_
  rintro e w5 ⟨rfl, hb5⟩
  have H5 := hide ((unhide H4).below hb5)
  clear hb5
  clear u4x0 v4x0 u4x1 v4x1 u4x2 v4x2
  have u5x0 : w5.cell? ⟨P3, 0, none⟩ = some (.slice Ra3 na3 ca3) := (unhide H5).c0 0 rfl
  have v5x0 : w5.cell? ⟨P3, 1, none⟩ = some (.slice Rb3 nb3 cb3) := (unhide H5).c1 0 rfl
  have u5x1 : w5.cell? ⟨P2, 0, none⟩ = some (.slice Ra2 na2 ca2) := (unhide H5).c0 1 rfl
  have v5x1 : w5.cell? ⟨P2, 1, none⟩ = some (.slice Rb2 nb2 cb2) := (unhide H5).c1 1 rfl
  have u5x2 : w5.cell? ⟨B, 0, none⟩ = some (.slice A n cap) := (unhide H5).c0 2 rfl
  have v5x2 : w5.cell? ⟨B, 1, none⟩ = some (.slice A2 n2 cap2) := (unhide H5).c1 2 rfl
  go_wp2_with fail
  refine (unhide CZc _ _ _ _ _ _ _ ((unhide H5).at_ 0 rfl).i (unhide HC3)).mono ?_
  rintro e w6 ⟨rfl, hb6⟩
  have H6 := hide ((unhide H5).below hb6)
  clear hb6
  clear u5x0 v5x0 u5x1 v5x1 u5x2 v5x2
  have u6x0 : w6.cell? ⟨P3, 0, none⟩ = some (.slice Ra3 na3 ca3) := (unhide H6).c0 0 rfl
  have v6x0 : w6.cell? ⟨P3, 1, none⟩ = some (.slice Rb3 nb3 cb3) := (unhide H6).c1 0 rfl
  have u6x1 : w6.cell? ⟨P2, 0, none⟩ = some (.slice Ra2 na2 ca2) := (unhide H6).c0 1 rfl
  have v6x1 : w6.cell? ⟨P2, 1, none⟩ = some (.slice Rb2 nb2 cb2) := (unhide H6).c1 1 rfl
  have u6x2 : w6.cell? ⟨B, 0, none⟩ = some (.slice A n cap) := (unhide H6).c0 2 rfl
  have v6x2 : w6.cell? ⟨B, 1, none⟩ = some (.slice A2 n2 cap2) := (unhide H6).c1 2 rfl
  go_wp2_with fail
  refine (unhide CCc _ _ _ _ _ _ _ ((unhide H6).at_ 0 rfl).i).mono ?_
  rintro e w7 ⟨hr7, hb7⟩
  obtain ⟨Ra7, na7, ca7, Rb7, nb7, cb7, rfl, hi7, hc7, ho7⟩ := hr7.open
  have H7 := hide ((unhide H6).below hb7)
  have HI7 := hide hi7
  have HC7 := hide hc7
  have HO7 := hide ho7
  clear hb7 hi7 hc7 hr7 ho7
  go_upto_region 14 with (refine wpList_store_row rfl 33 (.tmp 21) (.tmp 81) rfl w7.heap.size #[.slice Ra7 na7 ca7, .slice Rb7 nb7 cb7] rfl rfl 33 _ (heap_alloc_new _ _) sizeArc rfl (one_two _ _ _ _ _ _) ?_)
  obtain ⟨x7, hx7⟩ : ∃ x, x = (w7.alloc (.cells #[.slice none 0 0, .slice none 0 0] 33)).setRow w7.heap.size #[.slice Ra7 na7 ca7, .slice Rb7 nb7 cb7] := ⟨_, rfl⟩
  obtain ⟨P7, hP7⟩ : ∃ P, P = w7.heap.size := ⟨_, rfl⟩
  have G7 := hide (show St w x7 B [⟨P7, Ra7, na7, ca7, Rb7, nb7, cb7, c⟩, ⟨P3, Ra3, na3, ca3, Rb3, nb3, cb3, c⟩, ⟨P2, Ra2, na2, ca2, Rb2, nb2, cb2, b⟩, ⟨B, A, n, cap, A2, n2, cap2, a⟩] by rw [hx7, hP7]; exact (unhide H7).new (unhide HI7) ca7 cb7)
  rw [← hx7, ← hP7]
  clear hx7 hP7
  clear u6x0 v6x0 u6x1 v6x1 u6x2 v6x2
  have u7x0 : x7.cell? ⟨P7, 0, none⟩ = some (.slice Ra7 na7 ca7) := (unhide G7).c0 0 rfl
  have v7x0 : x7.cell? ⟨P7, 1, none⟩ = some (.slice Rb7 nb7 cb7) := (unhide G7).c1 0 rfl
  have u7x1 : x7.cell? ⟨P3, 0, none⟩ = some (.slice Ra3 na3 ca3) := (unhide G7).c0 1 rfl
  have v7x1 : x7.cell? ⟨P3, 1, none⟩ = some (.slice Rb3 nb3 cb3) := (unhide G7).c1 1 rfl
  have u7x2 : x7.cell? ⟨P2, 0, none⟩ = some (.slice Ra2 na2 ca2) := (unhide G7).c0 2 rfl
  have v7x2 : x7.cell? ⟨P2, 1, none⟩ = some (.slice Rb2 nb2 cb2) := (unhide G7).c1 2 rfl
  have u7x3 : x7.cell? ⟨B, 0, none⟩ = some (.slice A n cap) := (unhide G7).c0 3 rfl
  have v7x3 : x7.cell? ⟨B, 1, none⟩ = some (.slice A2 n2 cap2) := (unhide G7).c1 3 rfl
  go_wp2_with fail
  refine (sameArc _ _ _ _ _ _ _ _ _ _ _ _ _ _ ((unhide G7).at_ 1 rfl).i ((unhide G7).at_ 0 rfl).i hnd hnf).mono ?_
  rintro e w8 ⟨rfl, hb8⟩
  have H8 := hide ((unhide G7).below hb8)
  clear hb8
  clear u7x0 v7x0 u7x1 v7x1 u7x2 v7x2 u7x3 v7x3
  have u8x0 : w8.cell? ⟨P7, 0, none⟩ = some (.slice Ra7 na7 ca7) := (unhide H8).c0 0 rfl
  have v8x0 : w8.cell? ⟨P7, 1, none⟩ = some (.slice Rb7 nb7 cb7) := (unhide H8).c1 0 rfl
  have u8x1 : w8.cell? ⟨P3, 0, none⟩ = some (.slice Ra3 na3 ca3) := (unhide H8).c0 1 rfl
  have v8x1 : w8.cell? ⟨P3, 1, none⟩ = some (.slice Rb3 nb3 cb3) := (unhide H8).c1 1 rfl
  have u8x2 : w8.cell? ⟨P2, 0, none⟩ = some (.slice Ra2 na2 ca2) := (unhide H8).c0 2 rfl
  have v8x2 : w8.cell? ⟨P2, 1, none⟩ = some (.slice Rb2 nb2 cb2) := (unhide H8).c1 2 rfl
  have u8x3 : w8.cell? ⟨B, 0, none⟩ = some (.slice A n cap) := (unhide H8).c0 3 rfl
  have v8x3 : w8.cell? ⟨B, 1, none⟩ = some (.slice A2 n2 cap2) := (unhide H8).c1 3 rfl
  go_wp2_with fail
  have hlc : c.ds.length = na3 := (unhide HI3).s.1
  have hfc : c.fs.length = nb3 := (unhide HI3).f.1
  have HIN := hide ((unhide H8).at_ 1 rfl).i
  go_loop [23, 24, 25] (fun xv _ _ => ∃ x : Nat, x ≤ na3 ∧ xv = .int .i64 ((x : Int) + 1)) (fun xv _ _ => na3 + 1 - (intOf xv).toNat)
  case atStart => exact ⟨0, Nat.zero_le _, rfl⟩
  case round =>
    obtain ⟨x, hx, rfl⟩ := hrel
    by_cases hxn : x < na3
    · have z1 : (x : Int) + 1 ≤ (na3 : Int) := by omega
      have hu := unhide HUS (x + 1) (by omega) (by omega)
      have e1 : IntKind.i64.wrap ((x : Int) + 1 + 1) = ((x + 1 : Nat) : Int) + 1 := by rw [show (x : Int) + 1 + 1 = ((x + 1 : Nat) : Int) + 1 from by omega]; exact IntWalk.i64_in _ ⟨by omega, by omega⟩
      have HU := hide hu
      clear hu
      go_wp2_with fail
      go_loop [24, 25] (fun uv iv => ∃ i : Nat, i ≤ nb3 ∧ iv = .int .i64 i ∧ uv = .bool (usedB (c.fs.take i) (x + 1))) (fun _ iv => nb3 - (intOf iv).toNat)
      case atStart => exact ⟨0, Nat.zero_le _, rfl, rfl⟩
      case round =>
        obtain ⟨i, hi, rfl, rfl⟩ := hrel
        by_cases hin2 : i < nb3
        · obtain ⟨b9, off9, f, hB9, hb9, hf, x0, x1, x2, x3, x4⟩ := (unhide HIN).f.at_ (k := i) hin2
          change Rb3 = _ at hB9
          subst hB9
          have hut := usedB_take hf (x + 1)
          have z2 : (i : Int) < (nb3 : Int) := by omega
          cases hu : usedB (c.fs.take i) (x + 1) with
          | true =>
            rw [hu, Bool.true_or] at hut
            have HUT := hide hut
            clear hut hu hf
            go_wp2_with fail
            go_round
            case rel => exact ⟨i + 1, by omega, by go_num, by rw [unhide HUT]⟩
            case measure => simp [intOf]; omega
          | false =>
            rw [hu, Bool.false_or] at hut
            by_cases hd : f.dict = ((x + 1 : Nat) : Int)
            · rw [decide_eq_true hd] at hut
              have HUT := hide hut
              have d5 : (f.dict == (x : Int) + 1) = true := by rw [beq_iff_eq]; omega
              have d6 : f.dict = (x : Int) + 1 := by omega
              clear hut hu hf hd
              go_wp2_with fail
              go_round
              case rel => exact ⟨i + 1, by omega, by go_num, by rw [unhide HUT]⟩
              case measure => simp [intOf]; omega
            · rw [decide_eq_false hd] at hut
              have HUT := hide hut
              have d5 : (f.dict == (x : Int) + 1) = false := by rw [beq_eq_false_iff_ne]; omega
              clear hut hu hf hd
              go_wp2_with fail
              go_round
              case rel => exact ⟨i + 1, by omega, by go_num, by rw [unhide HUT]⟩
              case measure => simp [intOf]; omega
        · have z2 : ¬ (i : Int) < (nb3 : Int) := by omega
          have hall : c.fs.take i = c.fs := List.take_of_length_le (by omega)
          rw [hall, unhide HU]
          clear hall
          go_wp2_with fail
          go_round
          case rel => exact ⟨x + 1, by omega, by go_num⟩
          case measure => simp [intOf]; omega
    · have z1 : ¬ (x : Int) + 1 ≤ (na3 : Int) := by omega
      go_wp2_with fail
      refine (archBegun_any _ ((unhide HM).up (by have := (unhide H8).bel; rw [unhide HB] at this; exact this))).mono ?_
      rintro e w9 ⟨rfl, hb9⟩
      have H9 := hide ((unhide H8).below hb9)
      go_wp2_with fail
      go_ret
      exact ⟨rfl, (unhide H9).bel⟩
set_option maxHeartbeats 8000000 in
set_option maxRecDepth 100000 in
theorem archStays_00 (A : Option Addr) (n cap : Nat) (A2 : Option Addr) (n2 cap2 : Nat) (a : Arc) (size : Int) (file : Bytes) (w : World) (h : ArcIn w A n A2 n2 a) (hz : ArcSz a) (_hcap : n ≤ cap) (hm : MaxLenIs w)
    (hrt : (retrain a size).2 ≠ 0) (hck : (compact a).2 ≠ 0) :
    Calls Tryz.prog 10 #[arcV A n cap A2 n2 cap2, I size, S file] w fun e w' => e = .returned (.bool true) ∧ Below w.heap.size w w' := by
  have CG := fun (W : World) (hi : ArcIn W A n A2 n2 a) => get_any A n cap A2 n2 cap2 a file W hi hz
  have CR := fun (W : World) (hi : ArcIn W A n A2 n2 a) (hM : MaxLenIs W) => retrain_any A n cap A2 n2 cap2 a size W hi hz hM
  have CC := fun (W : World) (hi : ArcIn W A n A2 n2 a) => compact_any A n cap A2 n2 cap2 a W hi hz
  have hra1 := retrain_ra a size
  have hra2 := compact_ra a
  obtain ⟨b, hb⟩ : ∃ b, b = (retrain a size).1 := ⟨_, rfl⟩
  obtain ⟨c, hc⟩ : ∃ c, c = (compact a).1 := ⟨_, rfl⟩
  obtain ⟨t0, ht0⟩ : ∃ t, t = (Pl.get a file).1 := ⟨_, rfl⟩
  obtain ⟨f0, hf0⟩ : ∃ t, t = (Pl.get a file).2 := ⟨_, rfl⟩
  rw [← ht0, ← hf0] at CG
  rw [← hb] at hra1
  rw [← hc] at hra2
  obtain ⟨er, her⟩ : ∃ t, t = (retrain a size).2 := ⟨_, rfl⟩
  rw [show retrain a size = (b, er) from Prod.ext hb.symm her.symm] at CR
  rw [← her] at hrt
  have d1 : ((er : Int) != 0) = true := by rw [bne_iff_ne]; omega
  have d2 : ((er : Int) == 0) = false := by rw [beq_eq_false_iff_ne]; omega
  have d3 : ¬ (er : Int) = 0 := by omega
  clear her
  obtain ⟨ec, hec⟩ : ∃ t, t = (compact a).2 := ⟨_, rfl⟩
  rw [show compact a = (c, ec) from Prod.ext hc.symm hec.symm] at CC
  rw [← hec] at hck
  have o1 : ((ec : Int) != 0) = true := by rw [bne_iff_ne]; omega
  have o2 : ((ec : Int) == 0) = false := by rw [beq_eq_false_iff_ne]; omega
  have o3 : ¬ (ec : Int) = 0 := by omega
  clear hec
  have CG := hide CG
  have CR := hide CR
  have CC := hide CC
  clear hz _hcap hb hc ht0 hf0 hra1 hra2 hrt hck
  obtain ⟨B, hB⟩ : ∃ B, B = w.heap.size := ⟨_, rfl⟩
  obtain ⟨w0, hw0⟩ : ∃ w0, w0 = w.alloc (.cells #[.slice A n cap, .slice A2 n2 cap2] 33) := ⟨_, rfl⟩
  have H0 := hide (show St w w0 B [⟨B, A, n, cap, A2, n2, cap2, a⟩] by rw [hw0, hB]; exact St.box h cap cap2)
  have HB := hide hB
  have HW0 := hide hw0
  have HM := hide hm
  rw [← hB]
  clear hB hw0 hm
  go_enter Tryz.func10, Tryz.ntmps10
  go_upto_region 1 with fail
  rw [← unhide HW0, ← unhide HB]
  have u0x0 : w0.cell? ⟨B, 0, none⟩ = some (.slice A n cap) := (unhide H0).c0 0 rfl
  have v0x0 : w0.cell? ⟨B, 1, none⟩ = some (.slice A2 n2 cap2) := (unhide H0).c1 0 rfl
  go_wp2_with fail
  refine (unhide CG _ ((unhide H0).at_ 0 rfl).i).mono ?_
  rintro e w1 ⟨rfl, hb1⟩
  have H1 := hide ((unhide H0).below hb1)
  clear hb1
  clear u0x0 v0x0
  have u1x0 : w1.cell? ⟨B, 0, none⟩ = some (.slice A n cap) := (unhide H1).c0 0 rfl
  have v1x0 : w1.cell? ⟨B, 1, none⟩ = some (.slice A2 n2 cap2) := (unhide H1).c1 0 rfl
  go_wp2_with fail
  refine (unhide CR _ ((unhide H1).at_ 0 rfl).i ((unhide HM).up (by have := (unhide H1).bel; rw [unhide HB] at this; exact this))).mono ?_
  rintro e w2 ⟨hr2, hb2⟩
  obtain ⟨Ra2, na2, ca2, Rb2, nb2, cb2, rfl, hi2, hc2, ho2⟩ := hr2.open
  have H2 := hide ((unhide H1).below hb2)
  have HI2 := hide hi2
  have HC2 := hide hc2
  have HO2 := hide ho2
  clear hb2 hi2 hc2 hr2 ho2
  go_upto_region 3 with (refine wpList_store_row rfl 33 (.tmp 9) (.tmp 36) rfl w2.heap.size #[.slice Ra2 na2 ca2, .slice Rb2 nb2 cb2] rfl rfl 33 _ (heap_alloc_new _ _) sizeArc rfl (one_two _ _ _ _ _ _) ?_)
  obtain ⟨x2, hx2⟩ : ∃ x, x = (w2.alloc (.cells #[.slice none 0 0, .slice none 0 0] 33)).setRow w2.heap.size #[.slice Ra2 na2 ca2, .slice Rb2 nb2 cb2] := ⟨_, rfl⟩
  obtain ⟨P2, hP2⟩ : ∃ P, P = w2.heap.size := ⟨_, rfl⟩
  have G2 := hide (show St w x2 B [⟨P2, Ra2, na2, ca2, Rb2, nb2, cb2, b⟩, ⟨B, A, n, cap, A2, n2, cap2, a⟩] by rw [hx2, hP2]; exact (unhide H2).new (unhide HI2) ca2 cb2)
  rw [← hx2, ← hP2]
  clear hx2 hP2
  clear u1x0 v1x0
  have u2x0 : x2.cell? ⟨P2, 0, none⟩ = some (.slice Ra2 na2 ca2) := (unhide G2).c0 0 rfl
  have v2x0 : x2.cell? ⟨P2, 1, none⟩ = some (.slice Rb2 nb2 cb2) := (unhide G2).c1 0 rfl
  have u2x1 : x2.cell? ⟨B, 0, none⟩ = some (.slice A n cap) := (unhide G2).c0 1 rfl
  have v2x1 : x2.cell? ⟨B, 1, none⟩ = some (.slice A2 n2 cap2) := (unhide G2).c1 1 rfl
  go_wp2_with fail
  refine (unhide CC _ ((unhide G2).at_ 1 rfl).i).mono ?_
  rintro e w3 ⟨hr3, hb3⟩
  obtain ⟨Ra3, na3, ca3, Rb3, nb3, cb3, rfl, hi3, hc3, ho3⟩ := hr3.open
  have H3 := hide ((unhide G2).below hb3)
  have HI3 := hide hi3
  have HC3 := hide hc3
  have HO3 := hide ho3
  clear hb3 hi3 hc3 hr3 ho3
  go_upto_region 8 with (refine wpList_store_row rfl 33 (.tmp 13) (.tmp 57) rfl w3.heap.size #[.slice Ra3 na3 ca3, .slice Rb3 nb3 cb3] rfl rfl 33 _ (heap_alloc_new _ _) sizeArc rfl (one_two _ _ _ _ _ _) ?_)
  obtain ⟨x3, hx3⟩ : ∃ x, x = (w3.alloc (.cells #[.slice none 0 0, .slice none 0 0] 33)).setRow w3.heap.size #[.slice Ra3 na3 ca3, .slice Rb3 nb3 cb3] := ⟨_, rfl⟩
  obtain ⟨P3, hP3⟩ : ∃ P, P = w3.heap.size := ⟨_, rfl⟩
  have G3 := hide (show St w x3 B [⟨P3, Ra3, na3, ca3, Rb3, nb3, cb3, c⟩, ⟨P2, Ra2, na2, ca2, Rb2, nb2, cb2, b⟩, ⟨B, A, n, cap, A2, n2, cap2, a⟩] by rw [hx3, hP3]; exact (unhide H3).new (unhide HI3) ca3 cb3)
  rw [← hx3, ← hP3]
  clear hx3 hP3
  clear u2x0 v2x0 u2x1 v2x1
  have u3x0 : x3.cell? ⟨P3, 0, none⟩ = some (.slice Ra3 na3 ca3) := (unhide G3).c0 0 rfl
  have v3x0 : x3.cell? ⟨P3, 1, none⟩ = some (.slice Rb3 nb3 cb3) := (unhide G3).c1 0 rfl
  have u3x1 : x3.cell? ⟨P2, 0, none⟩ = some (.slice Ra2 na2 ca2) := (unhide G3).c0 1 rfl
  have v3x1 : x3.cell? ⟨P2, 1, none⟩ = some (.slice Rb2 nb2 cb2) := (unhide G3).c1 1 rfl
  have u3x2 : x3.cell? ⟨B, 0, none⟩ = some (.slice A n cap) := (unhide G3).c0 2 rfl
  have v3x2 : x3.cell? ⟨B, 1, none⟩ = some (.slice A2 n2 cap2) := (unhide G3).c1 2 rfl
  go_wp2_with fail
  refine (archBegun_any _ ((unhide HM).up (by have := (unhide G3).bel; rw [unhide HB] at this; exact this))).mono ?_
  rintro e w4 ⟨rfl, hb4⟩
  have H4 := hide ((unhide G3).below hb4)
  clear hb4
  clear u3x0 v3x0 u3x1 v3x1 u3x2 v3x2
  have u4x0 : w4.cell? ⟨P3, 0, none⟩ = some (.slice Ra3 na3 ca3) := (unhide H4).c0 0 rfl
  have v4x0 : w4.cell? ⟨P3, 1, none⟩ = some (.slice Rb3 nb3 cb3) := (unhide H4).c1 0 rfl
  have u4x1 : w4.cell? ⟨P2, 0, none⟩ = some (.slice Ra2 na2 ca2) := (unhide H4).c0 1 rfl
  have v4x1 : w4.cell? ⟨P2, 1, none⟩ = some (.slice Rb2 nb2 cb2) := (unhide H4).c1 1 rfl
  have u4x2 : w4.cell? ⟨B, 0, none⟩ = some (.slice A n cap) := (unhide H4).c0 2 rfl
  have v4x2 : w4.cell? ⟨B, 1, none⟩ = some (.slice A2 n2 cap2) := (unhide H4).c1 2 rfl
  go_wp2_with fail
  go_ret
  exact ⟨rfl, (unhide H4).bel⟩
theorem archStays_any (A : Option Addr) (n cap : Nat) (A2 : Option Addr) (n2 cap2 : Nat) (a : Arc) (size : Int) (file : Bytes) (w : World) (h : ArcIn w A n A2 n2 a) (hz : ArcSz a) (hcap : n ≤ cap) (hm : MaxLenIs w) :
    Calls Tryz.prog 10 #[arcV A n cap A2 n2 cap2, I size, S file] w fun e w' => e = .returned (.bool true) ∧ Below w.heap.size w w' := by
  by_cases hrt : (retrain a size).2 = 0
  · by_cases hck : (compact a).2 = 0
    · exact archStays_11 A n cap A2 n2 cap2 a size file w h hz hcap hm hrt hck
    · exact archStays_10 A n cap A2 n2 cap2 a size file w h hz hcap hm hrt hck
  · by_cases hck : (compact a).2 = 0
    · exact archStays_01 A n cap A2 n2 cap2 a size file w h hz hcap hm hrt hck
    · exact archStays_00 A n cap A2 n2 cap2 a size file w h hz hcap hm hrt hck
end Go.Proofs.YtjpgoeimclipjaaGreat
