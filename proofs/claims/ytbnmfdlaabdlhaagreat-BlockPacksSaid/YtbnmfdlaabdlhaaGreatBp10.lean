/- BlockPacks: for every input the law returns true, and the input reads as it did. No condition. -/
import Derived.Test.YtbnmfdlaabdlhaaGreatBp9
import Derived.Deep.RegionHeld3

/- The walk of the reference's third. -/
namespace Go.Proofs.YtbnmfdlaabdlhaaGreat
open Go.RowKit Go.Lib Pl
attribute [local go_sem] ext_list app_list

theorem hdB_next2 {l : List Int} {j : Nat} (h : j < 8) : (hdB l).take (j + 1) = (hdB l).take j ++ [UInt8.ofNat (16 * ln l (2 * j) + ln l (2 * j + 1))] := by
  rw [List.take_add_one]
  unfold hdB
  rw [List.getElem?_map, List.getElem?_range h]
  rfl
theorem writeS_any (L : List Int) (s : Bytes) : (writeS L s).length ≤ 30 * s.length + 7 := by
  by_cases h : writeE L s = 0
  · unfold writeS
    rw [if_pos h, packB_len]
    have hc := (checkE_zero (writeE_parts h).1).1
    have h1 : ∀ ks : List Nat, (encK L ks).length ≤ 15 * ks.length := by
      intro ks
      induction ks with
      | nil => simp [encK]
      | cons k ks ih =>
        rw [encK_cons, List.length_append, wordB_len, List.length_cons]
        have : ln L k ≤ 15 := by
          unfold ln
          rw [List.getD_eq_getElem?_getD]
          cases hk : L[k]? with
          | none => simp
          | some x => have := hc x (List.mem_of_getElem? hk); simp; omega
        omega
    have := h1 (nibs s)
    rw [nibs_len] at this
    omega
  · unfold writeS; rw [if_neg h]; simp

attribute [local go_sem ↓] concat_list in
set_option maxHeartbeats 2000000 in
set_option maxRecDepth 100000 in
theorem third_any (s : Bytes) (w : World) (hs : s.length ≤ 1024) (hne : s ≠ []) :
    Calls Tryz.prog 14 #[S s] w fun e w' => e = .returned (S (third s)) ∧ Below w.heap.size w w' := by
  have hz := zero16v
  have kb := fun (W : World) (x : UInt8) => True.intro
  have c1 := hide (fun (W : World) => halves_any s W (by omega))
  have hb0 : buildE (cntN (nibs s)) = 0 := lensS_build hne hs
  have c2 := fun (W : World) => buildOf_any (cntN (nibs s)) W (cntN_len _)
  obtain ⟨L, hL⟩ : ∃ L, L = lensS s := ⟨_, rfl⟩
  rw [hb0, show lensOf (cntN (nibs s)) = L from hL.symm] at c2
  obtain ⟨C, hC⟩ : ∃ C, C = cntN (nibs s) := ⟨_, rfl⟩
  rw [← hC] at c1 c2
  have c2 := hide c2
  have hl16 : L.length = 16 := by rw [hL]; exact lensOf_len _
  have hr : checkE L = 0 := by rw [hL]; exact lens_right hb0
  have HR := hide (right_of hl16 hr)
  have HL16 := hide hl16
  obtain ⟨T, hT⟩ : ∃ T, T = writeS L s := ⟨_, rfl⟩
  obtain ⟨te, hte⟩ : ∃ te, te = writeE L s := ⟨_, rfl⟩
  have hTl : T.length ≤ 40000 := by rw [hT]; have := writeS_any L s; omega
  have c3 := fun (W : World) => writeCode_any L s W hl16 (by omega)
  rw [← hT, ← hte] at c3
  have c3 := hide c3
  have hnl := nb_len 4 s.length (by omega)
  have c4 := fun (W : World) => numBytes_any s.length W (by omega)
  obtain ⟨N, hN⟩ : ∃ N, N = nb s.length := ⟨_, rfl⟩
  rw [← hN] at c4 hnl
  have c4 := hide c4
  obtain ⟨H, hH⟩ : ∃ H, H = 2 :: hdB L := ⟨_, rfl⟩
  have hHl : H.length = 9 := by rw [hH, List.length_cons, hdB_len]
  have hth : third s = H ++ (N ++ T) := by
    unfold third
    rw [← hL, hH, hN, hT, List.cons_append, List.append_assoc]
  have HTH := hide hth
  have HH := hide hH
  have k1 : H.length + N.length ≤ 9223372036854775807 := by omega
  have k2 : H.length + N.length + T.length ≤ 9223372036854775807 := by omega
  have k3 : H.length + (N.length + T.length) ≤ 9223372036854775807 := by omega
  clear hb0 hL hC hl16 hr hT hte hTl hnl hN hH hHl hth hne
  obtain ⟨B, hB⟩ : ∃ B, B = w.heap.size := ⟨_, rfl⟩
  have HB := hide hB
  go_enter Tryz.func14, Tryz.ntmps14
  go_wp2_with fail
  refine (unhide c1 _).mono ?_
  rintro e w1 ⟨rfl, hb1⟩
  have H1 := hide hb1
  clear hb1
  go_wp2_with fail
  refine (unhide c2 _).mono ?_
  rintro e w2 ⟨rfl, hb2⟩
  have H2 := hide ((unhide H1).trans (hb2.mono (unhide H1).size))
  clear hb2
  go_upto_region 2 with (first
    | (refine wpList_store_row rfl 38 (.tmp 3) (.tmp 13) rfl w2.heap.size (cells16 L) rfl rfl 38 _ (heap_alloc_new _ _) (by rw [sizeI, cells16_size (unhide HL16)]) (by rw [cells16_size (unhide HL16), cells16_size (Lf_len _)]) (cells16_one _) ?_))
  obtain ⟨w3, hw3⟩ : ∃ w3, w3 = (w2.alloc (.cells (cells16 (Lf fun _ => 0)) 38)).setRow w2.heap.size (cells16 L) := ⟨_, rfl⟩
  obtain ⟨E, hE⟩ : ∃ E, E = w2.heap.size := ⟨_, rfl⟩
  have H3 := hide (show BoxL L w w3 B E by rw [hw3, hE, hB]; exact BoxL.laid L (unhide H2) (unhide H2).size)
  rw [← hw3, ← hE]
  clear hw3 hE
  go_wp2_with fail
  go_loopw [5, 6] (fun bv iv wr => ∃ j : Nat, j ≤ 8 ∧ iv = .int .i64 (j : Int) ∧ bv = S (2 :: (hdB L).take j) ∧ BoxL L w wr B E) (fun _ iv _ => 8 - (intOf iv).toNat)
  case atStart => exact ⟨0, by omega, rfl, rfl, unhide H3⟩
  case round =>
    obtain ⟨j, hj, rfl, rfl, hbx⟩ := hrel
    have HBX := hide hbx
    have hE3 := hbx.lt
    clear hbx
    by_cases hj8 : j < 8
    · obtain ⟨x, hx⟩ : ∃ x, x = ln L (2 * j) := ⟨_, rfl⟩
      obtain ⟨y, hy⟩ : ∃ y, y = ln L (2 * j + 1) := ⟨_, rfl⟩
      have hx15 : x ≤ 15 := by rw [hx]; exact (unhide HR).one _
      have hy15 : y ≤ 15 := by rw [hy]; exact (unhide HR).one _
      obtain ⟨i, hi⟩ : ∃ i, i = 2 * j := ⟨_, rfl⟩
      have c1 : wr.cell? ⟨E, i, none⟩ = some (.int .i64 (x : Int)) := by rw [hi, hx]; exact (unhide HBX).get (ln_get (unhide HR) (by omega))
      have c2 : wr.cell? ⟨E, i + 1, none⟩ = some (.int .i64 (y : Int)) := by rw [hi, hy]; exact (unhide HBX).get (ln_get (unhide HR) (by omega))
      obtain ⟨b, hb⟩ : ∃ b, b = UInt8.ofNat (16 * x + y) := ⟨_, rfl⟩
      have hbn : b.toNat = 16 * x + y := by rw [hb, UInt8.toNat_ofNat']; omega
      have hnx : (2 :: (hdB L).take j) ++ [b] = 2 :: (hdB L).take (j + 1) := by rw [hdB_next2 hj8, hb, hx, hy]; rfl
      have HNX := hide hnx
      have v1 : wrap64 (2 * (j : Int)) = (i : Int) := by rw [hi]; exact (IntWalk.wrap64_in _ ⟨by omega, by omega⟩).trans (by omega)
      have v1b : IntKind.i64.wrap (2 * (j : Int)) = (i : Int) := by rw [hi]; exact (IntWalk.i64_in _ ⟨by omega, by omega⟩).trans (by omega)
      have v2 : IntKind.i64.wrap ((i : Int) + 1) = (i : Int) + 1 := IntWalk.i64_in _ ⟨by omega, by omega⟩
      have v3 : (0 : Int) ≤ (i : Int) + 1 := by omega
      have v4 : (i : Int) + 1 < 16 := by omega
      have v5 : ((i : Int) + 1).toNat = i + 1 := by omega
      have v6 : (i : Int) < 16 := by omega
      have v7 : wrap64 (16 * (x : Int)) = 16 * (x : Int) := IntWalk.wrap64_in _ ⟨by omega, by omega⟩
      have v7b : IntKind.i64.wrap (16 * (x : Int)) = 16 * (x : Int) := IntWalk.i64_in _ ⟨by omega, by omega⟩
      have v8 : IntKind.i64.wrap (16 * (x : Int) + (y : Int)) = 16 * (x : Int) + (y : Int) := IntWalk.i64_in _ ⟨by omega, by omega⟩
      have v9 : IntKind.u8.wrap (16 * (x : Int) + (y : Int)) = (b.toNat : Int) := by rw [hbn, IntKind.wrap_u8]; omega
      have hpre : (2 :: (hdB L).take j).length ≤ 10 := by rw [List.length_cons, List.length_take]; omega
      obtain ⟨P, hP⟩ : ∃ P, P = 2 :: (hdB L).take j := ⟨_, rfl⟩
      rw [← hP] at hpre HNX ⊢
      clear hx hy hb hnx hi hbn hP
      have p1 : P.length + 1 ≤ 9223372036854775807 := by omega
      have q1 := run_conv1_drew (P := Tryz.prog) wr b rfl 5 55 9 5 Tryz.underlying55 Tryz.underlying5 Tryz.underlying9
      have q2 := run_conv1_new (P := Tryz.prog) wr b rfl 5 55 9 5 Tryz.underlying55 Tryz.underlying5 Tryz.underlying9
      go_wp2_with fail
      go_region_law (fail)
      all_goals
        go_wp2_with fail
        go_roundw
        case rel => exact ⟨j + 1, by omega, by go_num, by rw [unhide HNX], by first | exact (unhide HBX).alloc _ | exact ((unhide HBX).alloc _).drew | exact (unhide HBX).drew.alloc _⟩
        case measure => simp [intOf]; omega
    · have hj' : j = 8 := by omega
      subst hj'
      rw [List.take_of_length_le (by rw [hdB_len]; exact Nat.le_refl _), ← unhide HH]
      go_wp2_with (first
        | (refine wpList_load16 rfl (.tmp 3) rfl E rfl L (unhide HL16) (unhide HBX).o ?_))
      refine (unhide c3 _).mono ?_
      rintro e w6 ⟨rfl, hb6⟩
      have H6 := hide ((unhide HBX).below hb6)
      clear hb6
      go_wp2_with fail
      refine (unhide c4 _).mono ?_
      rintro e w7 ⟨rfl, hb7⟩
      have H7 := hide ((unhide H6).below hb7)
      clear hb7
      go_wp2_with fail
      go_ret
      rw [unhide HTH, ← unhide HB]
      exact ⟨rfl, (unhide H7).bel⟩

end Go.Proofs.YtbnmfdlaabdlhaaGreat

/- The walk of the reference's PackOf. -/
namespace Go.Proofs.YtbnmfdlaabdlhaaGreat
open Go.RowKit Go.Lib Pl
attribute [local go_sem] ext_list app_list

attribute [local go_sem ↓] concat_list in
set_option maxHeartbeats 4000000 in
set_option maxRecDepth 100000 in
theorem packOf_any (dict text : Bytes) (w : World) (hd : dict.length ≤ 256) (ht : text.length ≤ 512) :
    Calls Tryz.prog 5 #[S dict, S text] w fun e w' => e = .returned (S (pack dict text)) ∧ Below w.heap.size w w' := by
  have c1 := hide (parseOf_walk dict text w hd ht)
  have hpl := play_parse hd ht
  have hsm : ∀ t ∈ parse dict text, Small t := play_each (by rw [hpl])
  have hln : (parse dict text).length ≤ 512 := play_room (by rw [hpl])
  have c2 := fun (W : World) (A : Option Addr) (n cap : Nat) (h : ToksAt W W.heap.size A n (parse dict text)) => tokBytes_any A n cap _ W h (by have := h.1; omega) hsm
  have hs := parse_small hd ht
  have hpk : pack dict text = pack2 text (toksB (parse dict text)) := rfl
  rw [hpk]
  obtain ⟨s, hse⟩ : ∃ s, s = toksB (parse dict text) := ⟨_, rfl⟩
  rw [← hse] at c2 hs ⊢
  have c2 := hide c2
  have c3 := fun (W : World) (h : s ≠ []) => third_any s W hs h
  have hwh := which text s
  obtain ⟨T, hT⟩ : ∃ T, T = third s := ⟨_, rfl⟩
  have k1 : [(0 : UInt8)].length + text.length ≤ 9223372036854775807 := by simp; omega
  have k2 : [(1 : UInt8)].length + s.length ≤ 9223372036854775807 := by simp; omega
  have k3 : 1 + text.length ≤ 9223372036854775807 := by omega
  have k4 : 1 + s.length ≤ 9223372036854775807 := by omega
  have k5 : text.length + 1 ≤ 9223372036854775807 := by omega
  have k6 : s.length + 1 ≤ 9223372036854775807 := by omega
  obtain ⟨X, hX⟩ : ∃ X, X = pack2 text s := ⟨_, rfl⟩
  rw [← hX] at hwh ⊢
  clear hpl hsm hln hpk hse hX
  cases hwh with
  | a0 hne hlt he hX =>
    subst hne
    subst hX
    clear he c3 hT
    have i3 : text.length = 0 := by have : ([] : Bytes).length = 0 := rfl; omega
    clear hlt
    go_enter Tryz.func5, Tryz.ntmps5
    go_wp2_with fail
    refine (unhide c1).mono ?_
    rintro e w1 ⟨⟨v, rfl, A, n, cap, rfl, hat⟩, hb1⟩
    have HAT := hide hat
    have H1 := hide hb1
    clear hat hb1
    go_wp2_with fail
    refine (unhide c2 _ _ _ _ (unhide HAT)).mono ?_
    rintro e w2 ⟨rfl, hb2⟩
    have H2 := hide ((unhide H1).trans (hb2.mono (unhide H1).size))
    clear hb2
    go_wp2_with fail
    go_ret
    exact ⟨rfl, unhide H2⟩
  | a1 hne hlt he hX =>
    subst hne
    subst hX
    clear he c3 hT
    have i3 : 0 < text.length := hlt
    have i2 : (0 : Int) < (text.length : Int) := by omega
    clear hlt
    go_enter Tryz.func5, Tryz.ntmps5
    go_wp2_with fail
    refine (unhide c1).mono ?_
    rintro e w1 ⟨⟨v, rfl, A, n, cap, rfl, hat⟩, hb1⟩
    have HAT := hide hat
    have H1 := hide hb1
    clear hat hb1
    go_wp2_with fail
    refine (unhide c2 _ _ _ _ (unhide HAT)).mono ?_
    rintro e w2 ⟨rfl, hb2⟩
    have H2 := hide ((unhide H1).trans (hb2.mono (unhide H1).size))
    clear hb2
    go_wp2_with fail
    go_ret
    exact ⟨rfl, unhide H2⟩
  | b0 hne hlt hcmp he hX =>
    have c3 := fun (W : World) => c3 W hne
    rw [← hT] at c3 hcmp hX
    have c3 := hide c3
    have i1 : ¬ (s.length : Int) + 1 < (text.length : Int) + 1 := by omega
    have i2 : ¬ (s.length : Int) < (text.length : Int) := by omega
    have i3 : text.length ≤ s.length := by omega
    have j1 : (T.length : Int) < (text.length : Int) + 1 := by omega
    have j2 : T.length < text.length + 1 := by omega
    have m1 : (s == []) = false := by rw [beq_eq_false_iff_ne]; exact hne
    have m2 : (s != []) = true := by rw [bne_iff_ne]; exact hne
    rw [hX]
    clear hX he hne hcmp hlt hT
    go_enter Tryz.func5, Tryz.ntmps5
    go_wp2_with fail
    refine (unhide c1).mono ?_
    rintro e w1 ⟨⟨v, rfl, A, n, cap, rfl, hat⟩, hb1⟩
    have HAT := hide hat
    have H1 := hide hb1
    clear hat hb1
    go_wp2_with fail
    refine (unhide c2 _ _ _ _ (unhide HAT)).mono ?_
    rintro e w2 ⟨rfl, hb2⟩
    have H2 := hide ((unhide H1).trans (hb2.mono (unhide H1).size))
    clear hb2
    go_wp2_with fail
    refine (unhide c3 _).mono ?_
    rintro e w3 ⟨rfl, hb3⟩
    have H3 := hide ((unhide H2).trans (hb3.mono (unhide H2).size))
    clear hb3
    go_wp2_with fail
    go_ret
    exact ⟨rfl, unhide H3⟩
  | b1 hne hlt hcmp he hX =>
    have c3 := fun (W : World) => c3 W hne
    rw [← hT] at c3 hcmp hX
    have c3 := hide c3
    have i1 : (s.length : Int) + 1 < (text.length : Int) + 1 := by omega
    have i2 : (s.length : Int) < (text.length : Int) := by omega
    have j1 : (T.length : Int) < (s.length : Int) + 1 := by omega
    have j2 : T.length < s.length + 1 := by omega
    have m1 : (s == []) = false := by rw [beq_eq_false_iff_ne]; exact hne
    have m2 : (s != []) = true := by rw [bne_iff_ne]; exact hne
    rw [hX]
    clear hX he hne hcmp hlt hT
    go_enter Tryz.func5, Tryz.ntmps5
    go_wp2_with fail
    refine (unhide c1).mono ?_
    rintro e w1 ⟨⟨v, rfl, A, n, cap, rfl, hat⟩, hb1⟩
    have HAT := hide hat
    have H1 := hide hb1
    clear hat hb1
    go_wp2_with fail
    refine (unhide c2 _ _ _ _ (unhide HAT)).mono ?_
    rintro e w2 ⟨rfl, hb2⟩
    have H2 := hide ((unhide H1).trans (hb2.mono (unhide H1).size))
    clear hb2
    go_wp2_with fail
    refine (unhide c3 _).mono ?_
    rintro e w3 ⟨rfl, hb3⟩
    have H3 := hide ((unhide H2).trans (hb3.mono (unhide H2).size))
    clear hb3
    go_wp2_with fail
    go_ret
    exact ⟨rfl, unhide H3⟩
  | c0 hne hlt hcmp he hX =>
    have c3 := fun (W : World) => c3 W hne
    rw [← hT] at c3 hcmp
    have c3 := hide c3
    have i1 : ¬ (s.length : Int) + 1 < (text.length : Int) + 1 := by omega
    have i2 : ¬ (s.length : Int) < (text.length : Int) := by omega
    have i3 : text.length ≤ s.length := by omega
    have j1 : ¬ (T.length : Int) < (text.length : Int) + 1 := by omega
    have j2 : ¬ T.length < text.length + 1 := by omega
    have j3 : text.length + 1 ≤ T.length := by omega
    have j4 : (text.length : Int) + 1 ≤ (T.length : Int) := by omega
    have m1 : (s == []) = false := by rw [beq_eq_false_iff_ne]; exact hne
    have m2 : (s != []) = true := by rw [bne_iff_ne]; exact hne
    rw [hX]
    clear hX he hne hcmp hlt hT
    go_enter Tryz.func5, Tryz.ntmps5
    go_wp2_with fail
    refine (unhide c1).mono ?_
    rintro e w1 ⟨⟨v, rfl, A, n, cap, rfl, hat⟩, hb1⟩
    have HAT := hide hat
    have H1 := hide hb1
    clear hat hb1
    go_wp2_with fail
    refine (unhide c2 _ _ _ _ (unhide HAT)).mono ?_
    rintro e w2 ⟨rfl, hb2⟩
    have H2 := hide ((unhide H1).trans (hb2.mono (unhide H1).size))
    clear hb2
    go_wp2_with fail
    refine (unhide c3 _).mono ?_
    rintro e w3 ⟨rfl, hb3⟩
    have H3 := hide ((unhide H2).trans (hb3.mono (unhide H2).size))
    clear hb3
    go_wp2_with fail
    go_ret
    exact ⟨rfl, unhide H3⟩
  | c1 hne hlt hcmp he hX =>
    have c3 := fun (W : World) => c3 W hne
    rw [← hT] at c3 hcmp
    have c3 := hide c3
    have i1 : (s.length : Int) + 1 < (text.length : Int) + 1 := by omega
    have i2 : (s.length : Int) < (text.length : Int) := by omega
    have j1 : ¬ (T.length : Int) < (s.length : Int) + 1 := by omega
    have j2 : ¬ T.length < s.length + 1 := by omega
    have j3 : s.length + 1 ≤ T.length := by omega
    have j4 : (s.length : Int) + 1 ≤ (T.length : Int) := by omega
    have m1 : (s == []) = false := by rw [beq_eq_false_iff_ne]; exact hne
    have m2 : (s != []) = true := by rw [bne_iff_ne]; exact hne
    rw [hX]
    clear hX he hne hcmp hlt hT
    go_enter Tryz.func5, Tryz.ntmps5
    go_wp2_with fail
    refine (unhide c1).mono ?_
    rintro e w1 ⟨⟨v, rfl, A, n, cap, rfl, hat⟩, hb1⟩
    have HAT := hide hat
    have H1 := hide hb1
    clear hat hb1
    go_wp2_with fail
    refine (unhide c2 _ _ _ _ (unhide HAT)).mono ?_
    rintro e w2 ⟨rfl, hb2⟩
    have H2 := hide ((unhide H1).trans (hb2.mono (unhide H1).size))
    clear hb2
    go_wp2_with fail
    refine (unhide c3 _).mono ?_
    rintro e w3 ⟨rfl, hb3⟩
    have H3 := hide ((unhide H2).trans (hb3.mono (unhide H2).size))
    clear hb3
    go_wp2_with fail
    go_ret
    exact ⟨rfl, unhide H3⟩

end Go.Proofs.YtbnmfdlaabdlhaaGreat

/- The walks of the reference's played and UnpackOf. -/
namespace Go.Proofs.YtbnmfdlaabdlhaaGreat
open Go.RowKit Go.Lib Pl
attribute [local go_sem] ext_list app_list

set_option maxHeartbeats 1000000 in
set_option maxRecDepth 100000 in
theorem played_any (dict : Bytes) (A : Option Addr) (n cap : Nat) (l : List Tok) (w : World) (hl : ToksAt w w.heap.size A n l) (hd : dict.length ≤ 9223372036854775807) (hn : n ≤ 4611686018427387904) :
    Calls Tryz.prog 19 #[S dict, .slice A n cap] w fun e w' => e = .returned (S (play dict l).1) ∧ Below w.heap.size w w' := by
  have c1 := hide (checkToks_any dict A n cap l w hl hd hn)
  go_enter Tryz.func19, Tryz.ntmps19
  go_wp2_with fail
  refine (unhide c1).mono ?_
  rintro e w1 ⟨rfl, hb⟩
  go_wp2_with fail
  go_ret
  exact ⟨rfl, hb⟩

theorem two_put {L : List Int} {w W : World} {B D j : Nat} {x y : Int} (h : BoxL (firstL L (2 * j)) w W B D) (hx : L[2 * j]? = some x) (hy : L[2 * j + 1]? = some y) {i : Nat} (hi : i = 2 * j) :
    BoxL (firstL L (2 * (j + 1))) w ((W.setCell ⟨D, i, none⟩ (.int .i64 x)).setCell ⟨D, i + 1, none⟩ (.int .i64 y)) B D := by
  subst hi
  have h1 := h.put (2 * j) x
  rw [firstL_next hx] at h1
  have h2 := h1.put (2 * j + 1) y
  rw [firstL_next hy] at h2
  exact h2
/-- what UnpackOf tells -/
def UpRes (b : Bytes) (o : Option Bytes) (e : Ending) : Prop := (∃ t, o = some t ∧ e = .returned (.tuple #[S t, .bool true])) ∨ (∃ t : Bytes, o = none ∧ t.length ≤ b.length ∧ e = .returned (.tuple #[S t, .bool false]))

set_option maxHeartbeats 4000000 in
set_option maxRecDepth 100000 in
theorem unpackOf_any (dict b : Bytes) (w : World) (hd : dict.length ≤ 256) (hb : b.length ≤ 140737488355328) :
    Calls Tryz.prog 8 #[S dict, S b] w fun e w' => UpRes b (unpackO dict b) e ∧ Below w.heap.size w w' := by
  cases b with
  | nil =>
    go_enter Tryz.func8, Tryz.ntmps8
    go_wp2_with fail
    go_ret2
    exact ⟨.inr ⟨[], rfl, Nat.le_refl _, rfl⟩, Below.refl _ _⟩
  | cons k s =>
    have hsl : s.length ≤ 4611686018427387904 := by rw [List.length_cons] at hb; omega
    have hsl2 : s.length ≤ 140737488355328 := by rw [List.length_cons] at hb; omega
    have hcons : (k :: s).length = s.length + 1 := rfl
    have n1 : ((k :: s) == []) = false := rfl
    have n2 : slice (k :: s) 1 (k :: s).length = s := by rw [slice_end]; rfl
    have n2b : slice (k :: s) 1 (s.length + 1) = s := n2
    have n3 : (0 : Nat) < (k :: s).length := by simp
    have n4 : (⟨(k :: s).toArray⟩ : ByteArray)[0]'n3 = k := rfl
    have n5 : (1 : Nat) ≤ (k :: s).length := by simp
    have hk256 := k.toNat_lt
    have e0 : k = 0 ↔ k.toNat = 0 := ⟨fun e => by rw [e]; rfl, fun e => UInt8.toNat_inj.1 e⟩
    have e1 : k = 1 ↔ k.toNat = 1 := ⟨fun e => by rw [e]; rfl, fun e => UInt8.toNat_inj.1 e⟩
    have e2 : k = 2 ↔ k.toNat = 2 := ⟨fun e => by rw [e]; rfl, fun e => UInt8.toNat_inj.1 e⟩
    have HB0 := hide (Below.refl w.heap.size w)
    by_cases h0 : k = 0
    · subst h0
      by_cases h512 : s.length ≤ 512
      · have HO := hide (show unpackO dict (0 :: s) = some s by rw [unpackO, if_pos rfl, if_pos h512])
        have h512i : (s.length : Int) ≤ 512 := by omega
        have h512d : decide ((s.length : Int) ≤ 512) = true := decide_eq_true h512i
        clear e0 e1 e2
        go_enter Tryz.func8, Tryz.ntmps8
        go_wp2_with fail
        go_quiet (fail)
        go_wp2_with fail
        go_ret2
        rw [unhide HO]
        exact ⟨.inl ⟨s, rfl, rfl⟩, _root_.Go.below_drewN (Below.refl _ _) _⟩
      · have HO := hide (show unpackO dict (0 :: s) = none by rw [unpackO, if_pos rfl, if_neg h512])
        have h512i : ¬ (s.length : Int) ≤ 512 := by omega
        have h512d : decide ((s.length : Int) ≤ 512) = false := decide_eq_false h512i
        clear e0 e1 e2
        go_enter Tryz.func8, Tryz.ntmps8
        go_wp2_with fail
        go_quiet (fail)
        go_wp2_with fail
        go_ret2
        rw [unhide HO]
        exact ⟨.inr ⟨s, rfl, by simp, rfl⟩, _root_.Go.below_drewN (Below.refl _ _) _⟩
    · have f0 : ((k.toNat : Int) == 0) = false := by rw [beq_eq_false_iff_ne]; intro e; exact h0 (e0.2 (by omega))
      by_cases h1 : k = 1
      · have z1 : k.toNat = 1 := e1.1 h1
        have f2 : ((k.toNat : Int) == 2) = false := by rw [beq_eq_false_iff_ne]; omega
        have f3 : ¬ (2 : Int) < (k.toNat : Int) := by omega
        have hun : unpackO dict (k :: s) = playO dict s := by rw [unpackO, if_neg h0, if_pos h1]
        clear e0 e1 e2 h0 h1
        go_enter Tryz.func8, Tryz.ntmps8
        go_wp2_with fail
        go_quiet (fail)
        have H1 := hide (_root_.Go.below_drewN (Below.refl w.heap.size w) nq)
        cases hrd : read dict s with
        | none =>
          have c2 := fun (W : World) => toksFrom_any dict s W hd hsl
          rw [hrd] at c2
          have c2 := hide c2
          have HO := hide (show unpackO dict (k :: s) = none by rw [hun]; unfold playO; rw [hrd]; rfl)
          clear hrd hun
          go_wp2_with fail
          refine (unhide c2 _).mono ?_
          rintro e w2 ⟨hv, hb2⟩
          have H2 := hide ((unhide H1).trans (hb2.mono (unhide H1).size))
          clear hb2
          obtain ⟨v, is, rfl, hv⟩ := hv
          rcases hv with ⟨rfl, rfl, _⟩ | ⟨_, l, hl, _⟩
          · go_wp2_with fail
            go_ret2
            rw [unhide HO]
            exact ⟨.inr ⟨[], rfl, by simp, rfl⟩, unhide H2⟩
          · cases hl
        | some l =>
          have c2 := fun (W : World) => toksFrom_any dict s W hd hsl
          rw [hrd] at c2
          have c2 := hide c2
          have hpl : (play dict l).2 = 0 := by
            have hw := write_read hd hrd
            by_cases e : (play dict l).2 = 0
            · exact e
            · unfold write at hw
              rw [if_pos e] at hw
              exact absurd (Prod.ext_iff.1 hw).2 e
          have hln := play_room hpl
          have c3 := fun (W : World) (A : Option Addr) (n cap : Nat) (h : ToksAt W W.heap.size A n l) => played_any dict A n cap l W h (by omega) (by have := h.1; omega)
          obtain ⟨t, ht⟩ : ∃ t, t = (play dict l).1 := ⟨_, rfl⟩
          rw [← ht] at c3
          have c3 := hide c3
          have HO := hide (show unpackO dict (k :: s) = some t by rw [hun]; unfold playO; rw [hrd, ht]; rfl)
          clear hrd hpl hln ht hun
          go_wp2_with fail
          refine (unhide c2 _).mono ?_
          rintro e w2 ⟨hv, hb2⟩
          have H2 := hide ((unhide H1).trans (hb2.mono (unhide H1).size))
          clear hb2
          obtain ⟨v, is, rfl, hv⟩ := hv
          rcases hv with ⟨_, _, hl⟩ | ⟨rfl, l', hl, A, n, cap, rfl, hat⟩
          · cases hl
          · cases hl
            have HAT := hide hat
            clear hat
            go_wp2_with fail
            refine (unhide c3 _ _ _ _ (unhide HAT)).mono ?_
            rintro e w3 ⟨rfl, hb3⟩
            have H3 := hide ((unhide H2).trans (hb3.mono (unhide H2).size))
            clear hb3
            go_wp2_with fail
            go_ret2
            rw [unhide HO]
            exact ⟨.inl ⟨t, rfl, rfl⟩, unhide H3⟩
      · have f1 : ((k.toNat : Int) == 1) = false := by rw [beq_eq_false_iff_ne]; intro e; exact h1 (e1.2 (by omega))
        by_cases h2 : k = 2
        · subst h2
          by_cases h8 : s.length < 8
          · have HO := hide (show unpackO dict (2 :: s) = none by rw [unpackO, if_neg h0, if_neg h1, if_pos rfl]; unfold decoded; rw [if_pos h8]; rfl)
            have h8i : (s.length : Int) < 8 := by omega
            clear e0 e1 e2 h0 h1 f0 f1
            go_enter Tryz.func8, Tryz.ntmps8
            go_wp2_with fail
            go_quiet (fail)
            go_wp2_with fail
            go_ret2
            rw [unhide HO]
            exact ⟨.inr ⟨[], rfl, by simp, rfl⟩, _root_.Go.below_drewN (Below.refl _ _) _⟩
          · have hz := zero16v
            have hun : unpackO dict (2 :: s) = (decoded s).bind (playO dict) := by rw [unpackO, if_neg h0, if_neg h1, if_pos rfl]
            have h8n : 8 ≤ s.length := by omega
            have h8i : ¬ (s.length : Int) < 8 := by omega
            obtain ⟨L, hL⟩ : ∃ L, L = unHd s := ⟨_, rfl⟩
            have hl16 : L.length = 16 := by rw [hL]; exact unHd_len (by omega)
            obtain ⟨X, hX⟩ : ∃ X, X = slice s 8 s.length := ⟨_, rfl⟩
            have hX2 : X = s.drop 8 := by rw [hX, slice_end]
            have hXl : X.length ≤ s.length := by rw [hX2, List.length_drop]; omega
            have hdec : decoded s = decodeO L X := by unfold decoded; rw [if_neg h8, hX2, hL]
            have HL := hide hL
            have HL16 := hide hl16
            have HX := hide hX
            have HDEC := hide hdec
            have HUN := hide hun
            clear e0 e1 e2 h0 h1 f0 f1 hX2 hL hl16 hdec h8 hun n3 n4 n5 hX
            go_enter Tryz.func8, Tryz.ntmps8
            go_wp2_with fail
            go_quiet (fail)
            obtain ⟨w1, hw1⟩ : ∃ w1, w1 = w.drewN nq := ⟨_, rfl⟩
            have H1 := hide (show Below w.heap.size w w1 by rw [hw1]; exact _root_.Go.below_drewN (Below.refl w.heap.size w) nq)
            rw [← hw1]
            clear hw1
            go_wp2_with fail
            obtain ⟨D, hD⟩ : ∃ D, D = w1.heap.size := ⟨_, rfl⟩
            obtain ⟨w2, hw2⟩ : ∃ w2, w2 = w1.alloc (.cells (cells16 (Lf fun _ => 0)) 38) := ⟨_, rfl⟩
            have H2 := hide (show BoxL (Lf fun _ => 0) w w2 w.heap.size D from ⟨by rw [hw2, hD]; exact heap_alloc_new _ _, by rw [hD]; exact (unhide H1).size, by rw [hw2]; exact (unhide H1).alloc (unhide H1).size _⟩)
            rw [← hw2, ← hD]
            clear hw2 hD
            go_loopw [9] (fun iv wr => ∃ j : Nat, j ≤ 8 ∧ iv = .int .i64 j ∧ BoxL (firstL L (2 * j)) w wr w.heap.size D) (fun iv _ => 8 - (intOf iv).toNat)
            case atStart => exact ⟨0, by omega, rfl, by rw [Nat.mul_zero, firstL_zero]; exact unhide H2⟩
            case round =>
              obtain ⟨j, hj, rfl, hat⟩ := hrel
              have HAT := hide hat
              clear hat
              by_cases hj8 : j < 8
              · have hq : j < s.length := by omega
                obtain ⟨c, hcc⟩ : ∃ c, (⟨s.toArray⟩ : ByteArray)[j]'hq = c := ⟨_, rfl⟩
                have hsc : s[j]? = some c := by rw [List.getElem?_eq_getElem hq]; exact congrArg some hcc
                obtain ⟨m1, m2⟩ := unHd_get (b := s) (q := j) hj8 hsc
                rw [← unhide HL] at m1 m2
                obtain ⟨h, hh⟩ : ∃ h, h = c.toNat / 16 := ⟨_, rfl⟩
                obtain ⟨m, hm⟩ : ∃ m, m = c.toNat % 16 := ⟨_, rfl⟩
                rw [← hh] at m1
                rw [← hm] at m2
                have hc256 := c.toNat_lt
                have a1 : (c.toNat : Int).tdiv 16 = (h : Int) := by rw [Int.tdiv_eq_ediv_of_nonneg (by omega)]; omega
                have a2 : (c.toNat : Int).tmod 16 = (m : Int) := by rw [Int.tmod_eq_emod_of_nonneg (by omega)]; omega
                have a3 : IntKind.u8.wrap ((c.toNat : Int) / 16) = (h : Int) := by
                  have e : (c.toNat : Int) / 16 = (h : Int) := by omega
                  rw [e, IntKind.wrap_u8]; omega
                have hh16 : h < 16 := by omega
                have hm16 : m < 16 := by omega
                obtain ⟨i, hi⟩ : ∃ i, i = 2 * j := ⟨_, rfl⟩
                have hst1 := (unhide HAT).put (2 * j) (h : Int)
                rw [firstL_next m1] at hst1
                have hst2 := hst1.put (2 * j + 1) (m : Int)
                rw [firstL_next m2] at hst2
                rw [← hi] at hst1 hst2
                have g1 := (unhide HAT).free i
                have g2 := (unhide HAT).free (i + 1)
                obtain ⟨y1, hy1⟩ : ∃ y, (firstL L (2 * j))[i]? = some y := ⟨_, List.getElem?_eq_getElem (by rw [firstL_len]; omega)⟩
                obtain ⟨y2, hy2⟩ : ∃ y, (firstL L (2 * j))[i + 1]? = some y := ⟨_, List.getElem?_eq_getElem (by rw [firstL_len]; omega)⟩
                have c1 := (unhide HAT).get hy1
                have c2 := (unhide HAT).get hy2
                obtain ⟨y3, hy3⟩ : ∃ y, (firstL L (i + 1))[i + 1]? = some y := ⟨_, List.getElem?_eq_getElem (by rw [firstL_len]; omega)⟩
                have c3 := hst1.get hy3
                have v1 : wrap64 (2 * (j : Int)) = (i : Int) := by rw [hi]; exact (IntWalk.wrap64_in _ ⟨by omega, by omega⟩).trans (by omega)
                have v1b : IntKind.i64.wrap (2 * (j : Int)) = (i : Int) := by rw [hi]; exact (IntWalk.i64_in _ ⟨by omega, by omega⟩).trans (by omega)
                have v2 : IntKind.i64.wrap ((i : Int) + 1) = (i : Int) + 1 := IntWalk.i64_in _ ⟨by omega, by omega⟩
                have v3 : (0 : Int) ≤ (i : Int) + 1 := by omega
                have v4 : (i : Int) + 1 < 16 := by omega
                have v5 : ((i : Int) + 1).toNat = i + 1 := by omega
                have v6 : (i : Int) < 16 := by omega
                have M1 := hide m1
                have M2 := hide m2
                have HI := hide hi
                clear hsc m1 m2 hh hm hi hst1 hst2 hy1 hy2 hy3
                go_wp2_with fail
                go_region_law (fail)
                all_goals
                  go_wp2_with fail
                  go_roundw
                  case rel =>
                    first
                      | exact ⟨j + 1, by omega, by go_num, two_put (unhide HAT) (unhide M1) (unhide M2) (unhide HI)⟩
                      | exact ⟨j + 1, by omega, by go_num, two_put (unhide HAT).drew (unhide M1) (unhide M2) (unhide HI)⟩
                      | ((repeat apply Exists.intro); exact ⟨⟨j + 1, by omega, by go_num, two_put (unhide HAT).drew (unhide M1) (unhide M2) (unhide HI)⟩, rfl⟩)
                      | ((repeat apply Exists.intro); exact ⟨⟨j + 1, by omega, by go_num, two_put (unhide HAT) (unhide M1) (unhide M2) (unhide HI)⟩, rfl⟩)
                  case measure => simp [intOf]; omega
              · have hj' : j = 8 := by omega
                subst hj'
                rw [show 2 * 8 = 16 from rfl, firstL_all (unhide HL16)] at HAT
                cases ht : take X with
                | none =>
                  have HO := hide (show unpackO dict (2 :: s) = none by rw [unhide HUN, unhide HDEC, decodeO_none ht]; rfl)
                  have c1 := hide (fun W => numFrom_no ht W (by omega))
                  have c2 := fun (W : World) => readCode_any L [] 0 W (unhide HL16) (by simp) (by omega) (by omega)
                  obtain ⟨T, hT⟩ : ∃ T, T = readS L [] 0 := ⟨_, rfl⟩
                  obtain ⟨te, hte⟩ : ∃ te, te = readE L [] 0 := ⟨_, rfl⟩
                  rw [← hT, ← hte] at c2
                  have c2 := hide c2
                  have HXX := unhide HX
                  clear ht hT hte
                  go_wp2_with fail
                  rw [← HXX]
                  refine (unhide c1 _).mono ?_
                  rintro e w3 ⟨rfl, hb3⟩
                  have H3 := hide ((unhide HAT).below hb3)
                  clear hb3
                  go_wp2_with (first
                    | (refine wpList_load16 rfl (.tmp 8) rfl D rfl L (unhide HL16) (unhide H3).o ?_))
                  refine (unhide c2 _).mono ?_
                  rintro e w4 ⟨rfl, hb4⟩
                  have H4 := hide ((unhide H3).below hb4)
                  clear hb4
                  go_wp2_with fail
                  go_ret2
                  rw [unhide HO]
                  exact ⟨.inr ⟨[], rfl, by simp, rfl⟩, (unhide H4).bel⟩
                | some p =>
                  obtain ⟨n, r⟩ := p
                  obtain ⟨e1, e2⟩ := take_some ht
                  have hrl : r.length ≤ X.length := by rw [e1, List.length_append]; omega
                  have hn : n ≤ 2147483647 := e2
                  have hd1 := decodeO_some (L := L) ht
                  have c1 := hide (fun W => numFrom_ok ht W (by omega))
                  have c2 := fun (W : World) => readCode_any L r (n : Int) W (unhide HL16) (by omega) (by omega) (by omega)
                  obtain ⟨x, hT⟩ : ∃ T, T = readS L r (n : Int) := ⟨_, rfl⟩
                  obtain ⟨te, hte⟩ : ∃ te, te = readE L r (n : Int) := ⟨_, rfl⟩
                  rw [← hT, ← hte] at c2 hd1
                  have HTE := hide hte
                  have HT := hide hT
                  have c2 := hide c2
                  have HXX := unhide HX
                  by_cases h0 : te = 0
                  · have hxl : x.length ≤ 4611686018427387904 := by
                      rw [hT]
                      rw [hte] at h0
                      have := (writeE_parts (code_write_read h0).1).2.1
                      omega
                    rw [if_pos h0] at hd1
                    have hdx : decoded s = some x := (unhide HDEC).trans hd1
                    have HDX := hide hdx
                    subst h0
                    clear ht hT hte e1 e2 hd1 hdx
                    go_wp2_with fail
                    rw [← HXX]
                    refine (unhide c1 _).mono ?_
                    rintro e w3 ⟨rfl, hb3⟩
                    have H3 := hide ((unhide HAT).below hb3)
                    clear hb3
                    go_wp2_with (first
                      | (refine wpList_load16 rfl (.tmp 8) rfl D rfl L (unhide HL16) (unhide H3).o ?_))
                    refine (unhide c2 _).mono ?_
                    rintro e w4 ⟨rfl, hb4⟩
                    have H4 := hide ((unhide H3).below hb4).bel
                    clear hb4
                    cases hrd : read dict x with
                    | none =>
                      have c2 := fun (W : World) => toksFrom_any dict x W hd hxl
                      rw [hrd] at c2
                      have c2 := hide c2
                      have HO := hide (show unpackO dict (2 :: s) = none by rw [unhide HUN, unhide HDX]; simp only [Option.bind_some]; unfold playO; rw [hrd]; rfl)
                      clear hrd
                      go_wp2_with fail
                      refine (unhide c2 _).mono ?_
                      rintro e w2 ⟨hv, hb2⟩
                      have H2 := hide ((unhide H4).trans (hb2.mono (unhide H4).size))
                      clear hb2
                      obtain ⟨v, is, rfl, hv⟩ := hv
                      rcases hv with ⟨rfl, rfl, _⟩ | ⟨_, l, hl, _⟩
                      · go_wp2_with fail
                        go_ret2
                        rw [unhide HO]
                        exact ⟨.inr ⟨[], rfl, by simp, rfl⟩, unhide H2⟩
                      · cases hl
                    | some l =>
                      have c2 := fun (W : World) => toksFrom_any dict x W hd hxl
                      rw [hrd] at c2
                      have c2 := hide c2
                      have hpl : (play dict l).2 = 0 := by
                        have hw := write_read hd hrd
                        by_cases e : (play dict l).2 = 0
                        · exact e
                        · unfold write at hw
                          rw [if_pos e] at hw
                          exact absurd (Prod.ext_iff.1 hw).2 e
                      have hln := play_room hpl
                      have c3 := fun (W : World) (A : Option Addr) (n cap : Nat) (h : ToksAt W W.heap.size A n l) => played_any dict A n cap l W h (by omega) (by have := h.1; omega)
                      obtain ⟨t, ht⟩ : ∃ t, t = (play dict l).1 := ⟨_, rfl⟩
                      rw [← ht] at c3
                      have c3 := hide c3
                      have HO := hide (show unpackO dict (2 :: s) = some t by rw [unhide HUN, unhide HDX]; simp only [Option.bind_some]; unfold playO; rw [hrd, ht]; rfl)
                      clear hrd hpl hln ht
                      go_wp2_with fail
                      refine (unhide c2 _).mono ?_
                      rintro e w2 ⟨hv, hb2⟩
                      have H2 := hide ((unhide H4).trans (hb2.mono (unhide H4).size))
                      clear hb2
                      obtain ⟨v, is, rfl, hv⟩ := hv
                      rcases hv with ⟨_, _, hl⟩ | ⟨rfl, l', hl, A, n, cap, rfl, hat⟩
                      · cases hl
                      · cases hl
                        have HAT := hide hat
                        clear hat
                        go_wp2_with fail
                        refine (unhide c3 _ _ _ _ (unhide HAT)).mono ?_
                        rintro e w3 ⟨rfl, hb3⟩
                        have H3 := hide ((unhide H2).trans (hb3.mono (unhide H2).size))
                        clear hb3
                        go_wp2_with fail
                        go_ret2
                        rw [unhide HO]
                        exact ⟨.inl ⟨t, rfl, rfl⟩, unhide H3⟩
                  · have HO := hide (show unpackO dict (2 :: s) = none by rw [unhide HUN, unhide HDEC, hd1, if_neg h0]; rfl)
                    have d1 : ((te : Int) != 0) = true := by rw [bne_iff_ne]; omega
                    have d2 : ((te : Int) == 0) = false := by rw [beq_eq_false_iff_ne]; omega
                    clear ht hT hte e1 e2 hd1 h0
                    go_wp2_with fail
                    rw [← HXX]
                    refine (unhide c1 _).mono ?_
                    rintro e w3 ⟨rfl, hb3⟩
                    have H3 := hide ((unhide HAT).below hb3)
                    clear hb3
                    go_wp2_with (first
                      | (refine wpList_load16 rfl (.tmp 8) rfl D rfl L (unhide HL16) (unhide H3).o ?_))
                    refine (unhide c2 _).mono ?_
                    rintro e w4 ⟨rfl, hb4⟩
                    have H4 := hide ((unhide H3).below hb4)
                    clear hb4
                    go_wp2_with fail
                    go_ret2
                    rw [unhide HO]
                    exact ⟨.inr ⟨[], rfl, by simp, rfl⟩, (unhide H4).bel⟩
        · have f2 : ((k.toNat : Int) == 2) = false := by rw [beq_eq_false_iff_ne]; intro e; exact h2 (e2.2 (by omega))
          have f3 : (2 : Int) < (k.toNat : Int) := by
            have a0 : k.toNat ≠ 0 := fun e => h0 (e0.2 e)
            have a1 : k.toNat ≠ 1 := fun e => h1 (e1.2 e)
            have a2 : k.toNat ≠ 2 := fun e => h2 (e2.2 e)
            omega
          have HO := hide (show unpackO dict (k :: s) = none by rw [unpackO, if_neg h0, if_neg h1, if_neg h2])
          clear e0 e1 e2 h0 h1 h2
          go_enter Tryz.func8, Tryz.ntmps8
          go_wp2_with fail
          go_quiet (fail)
          go_wp2_with fail
          go_ret2
          rw [unhide HO]
          exact ⟨.inr ⟨[], rfl, by simp, rfl⟩, _root_.Go.below_drewN (Below.refl _ _) _⟩

end Go.Proofs.YtbnmfdlaabdlhaaGreat

/- The law BlockPacks: true for every input. -/
namespace Go.Proofs.YtbnmfdlaabdlhaaGreat
open Go.RowKit Go.Lib Pl
attribute [local go_sem] ext_list app_list

set_option maxHeartbeats 4000000 in
set_option maxRecDepth 100000 in
theorem blockPacks_any (dict text b : Bytes) (w : World) (hd2 : dict.length ≤ 9223372036854775807) (ht2 : text.length ≤ 9223372036854775807) (hb2 : b.length ≤ 140737488355328) :
    Calls Tryz.prog 3 #[S dict, S text, S b] w fun e w' => e = .returned (.bool true) ∧ Below w.heap.size w w' := by
  have c1 := fun (W : World) => blockPack_any dict text W
  have c2 := fun (W : World) => blockUnpack_any dict b W hd2 hb2
  have c5 := hide (fun (W : World) => blockBegun_any W)
  by_cases hd : 256 < dict.length
  · have e1 : packE dict text = 2 := if_pos (Or.inl hd)
    have e2 : packT dict text = [] := if_pos (Or.inl hd)
    have e3 : unpackE dict b = 2 := if_pos hd
    have e4 : unpackT dict b = [] := if_pos hd
    rw [e1, e2] at c1
    rw [e3, e4] at c2
    have c1 := hide c1
    have c2 := hide c2
    have d1 : (256 : Int) < (dict.length : Int) := by omega
    have d2 : ¬ (dict.length : Int) ≤ 256 := by omega
    clear e1 e2 e3 e4
    go_enter Tryz.func3, Tryz.ntmps3
    go_wp2_with fail
    refine (unhide c1 _).mono ?_
    rintro e w1 ⟨rfl, hb1⟩
    have H1 := hide hb1
    clear hb1
    go_wp2_with fail
    refine (unhide c2 _).mono ?_
    rintro e w2 ⟨rfl, hb2⟩
    have H2 := hide ((unhide H1).trans (hb2.mono (unhide H1).size))
    clear hb2
    go_wp2_with fail
    refine (unhide c5 _).mono ?_
    rintro e w3 ⟨rfl, hb3⟩
    have H3 := hide ((unhide H2).trans (hb3.mono (unhide H2).size))
    clear hb3
    go_wp2_with fail
    go_ret
    exact ⟨rfl, unhide H3⟩
  · have hd' : dict.length ≤ 256 := by omega
    have d1 : (dict.length : Int) ≤ 256 := by omega
    have d2 : ¬ (256 : Int) < (dict.length : Int) := by omega
    have c4 := hide (fun (W : World) => unpackOf_any dict b W hd' hb2)
    have hue : unpackE dict b = if (unpackO dict b).isSome = true then 0 else 1 := if_neg hd
    have hut : unpackT dict b = (unpackO dict b).getD [] := if_neg hd
    obtain ⟨o, ho⟩ : ∃ o, o = unpackO dict b := ⟨_, rfl⟩
    rw [← ho] at c4 hue hut
    rw [hue, hut] at c2
    have hcase : (512 < text.length ∧ packE dict text = 2 ∧ packT dict text = []) ∨ (text.length ≤ 512 ∧ packE dict text = 0 ∧ packT dict text = pack dict text) := by
      by_cases ht : 512 < text.length
      · exact .inl ⟨ht, if_pos (Or.inr ht), if_pos (Or.inr ht)⟩
      · exact .inr ⟨by omega, if_neg (by omega), if_neg (by omega)⟩
    rcases hcase with ⟨ht, e1, e2⟩ | ⟨ht, e1, e2⟩
    · rw [e1, e2] at c1
      have c1 := hide c1
      have d3 : (512 : Int) < (text.length : Int) := by omega
      have d4 : ¬ (text.length : Int) ≤ 512 := by omega
      clear e1 e2 hue hut ho
      cases o with
      | none =>
        have c2 := hide c2
        go_enter Tryz.func3, Tryz.ntmps3
        go_wp2_with fail
        refine (unhide c1 _).mono ?_
        rintro e w1 ⟨rfl, hb1⟩
        have H1 := hide hb1
        clear hb1
        go_wp2_with fail
        refine (unhide c2 _).mono ?_
        rintro e w2 ⟨rfl, hb2⟩
        have H2 := hide ((unhide H1).trans (hb2.mono (unhide H1).size))
        clear hb2
        go_wp2_with fail
        refine (unhide c4 _).mono ?_
        rintro e w3 ⟨hr, hb3⟩
        have H3 := hide ((unhide H2).trans (hb3.mono (unhide H2).size))
        clear hb3
        rcases hr with ⟨t, ht, _⟩ | ⟨t, _, _, rfl⟩
        · cases ht
        go_wp2_with fail
        refine (unhide c5 _).mono ?_
        rintro e w4 ⟨rfl, hb4⟩
        have H4 := hide ((unhide H3).trans (hb4.mono (unhide H3).size))
        clear hb4
        go_wp2_with fail
        go_ret
        exact ⟨rfl, unhide H4⟩
      | some x =>
        have c2 := hide c2
        go_enter Tryz.func3, Tryz.ntmps3
        go_wp2_with fail
        refine (unhide c1 _).mono ?_
        rintro e w1 ⟨rfl, hb1⟩
        have H1 := hide hb1
        clear hb1
        go_wp2_with fail
        refine (unhide c2 _).mono ?_
        rintro e w2 ⟨rfl, hb2⟩
        have H2 := hide ((unhide H1).trans (hb2.mono (unhide H1).size))
        clear hb2
        go_wp2_with fail
        refine (unhide c4 _).mono ?_
        rintro e w3 ⟨hr, hb3⟩
        have H3 := hide ((unhide H2).trans (hb3.mono (unhide H2).size))
        clear hb3
        rcases hr with ⟨t, ht, rfl⟩ | ⟨t, ht, _, _⟩
        rotate_left
        · cases ht
        cases ht
        go_wp2_with fail
        refine (unhide c5 _).mono ?_
        rintro e w4 ⟨rfl, hb4⟩
        have H4 := hide ((unhide H3).trans (hb4.mono (unhide H3).size))
        clear hb4
        go_wp2_with fail
        go_ret
        exact ⟨rfl, unhide H4⟩
    · rw [e1, e2] at c1
      have c6 := fun (W : World) => packOf_any dict text W hd' ht
      obtain ⟨p, hp⟩ : ∃ p, p = pack dict text := ⟨_, rfl⟩
      rw [← hp] at c1 c6
      have c1 := hide c1
      have c6 := hide c6
      have d3 : (text.length : Int) ≤ 512 := by omega
      have d4 : ¬ (512 : Int) < (text.length : Int) := by omega
      clear e1 e2 hue hut ho hp
      cases o with
      | none =>
        have c2 := hide c2
        go_enter Tryz.func3, Tryz.ntmps3
        go_wp2_with fail
        refine (unhide c1 _).mono ?_
        rintro e w1 ⟨rfl, hb1⟩
        have H1 := hide hb1
        clear hb1
        go_wp2_with fail
        refine (unhide c6 _).mono ?_
        rintro e w1b ⟨rfl, hb1⟩
        have H1b := hide ((unhide H1).trans (hb1.mono (unhide H1).size))
        clear hb1
        go_wp2_with fail
        refine (unhide c2 _).mono ?_
        rintro e w2 ⟨rfl, hb2⟩
        have H2 := hide ((unhide H1b).trans (hb2.mono (unhide H1b).size))
        clear hb2
        go_wp2_with fail
        refine (unhide c4 _).mono ?_
        rintro e w3 ⟨hr, hb3⟩
        have H3 := hide ((unhide H2).trans (hb3.mono (unhide H2).size))
        clear hb3
        rcases hr with ⟨t, ht, _⟩ | ⟨t, _, _, rfl⟩
        · cases ht
        go_wp2_with fail
        refine (unhide c5 _).mono ?_
        rintro e w4 ⟨rfl, hb4⟩
        have H4 := hide ((unhide H3).trans (hb4.mono (unhide H3).size))
        clear hb4
        go_wp2_with fail
        go_ret
        exact ⟨rfl, unhide H4⟩
      | some x =>
        have c2 := hide c2
        go_enter Tryz.func3, Tryz.ntmps3
        go_wp2_with fail
        refine (unhide c1 _).mono ?_
        rintro e w1 ⟨rfl, hb1⟩
        have H1 := hide hb1
        clear hb1
        go_wp2_with fail
        refine (unhide c6 _).mono ?_
        rintro e w1b ⟨rfl, hb1⟩
        have H1b := hide ((unhide H1).trans (hb1.mono (unhide H1).size))
        clear hb1
        go_wp2_with fail
        refine (unhide c2 _).mono ?_
        rintro e w2 ⟨rfl, hb2⟩
        have H2 := hide ((unhide H1b).trans (hb2.mono (unhide H1b).size))
        clear hb2
        go_wp2_with fail
        refine (unhide c4 _).mono ?_
        rintro e w3 ⟨hr, hb3⟩
        have H3 := hide ((unhide H2).trans (hb3.mono (unhide H2).size))
        clear hb3
        rcases hr with ⟨t, ht, rfl⟩ | ⟨t, ht, _, _⟩
        rotate_left
        · cases ht
        cases ht
        go_wp2_with fail
        refine (unhide c5 _).mono ?_
        rintro e w4 ⟨rfl, hb4⟩
        have H4 := hide ((unhide H3).trans (hb4.mono (unhide H3).size))
        clear hb4
        go_wp2_with fail
        go_ret
        exact ⟨rfl, unhide H4⟩

end Go.Proofs.YtbnmfdlaabdlhaaGreat

namespace Go.Proofs.YtbnmfdlaabdlhaaGreat.blockPacks
open Go.ChangeShapes Go.WideShapes Go.ChangeAt Go.RowKit
open Go.ChangeMaps (open_string shut_string)

set_option maxRecDepth 100000 in
theorem lifted (os : Os) (started : os.Started) (H : Type) (enc : TypeId × Value → H) :
    ReturnsInHanded {} Tryz.checked os 3 .any (Rows.blockPacksSpec.pre6 enc Tryz.prog Tryz.f3 Rows.blockPacksRow.domain false) (Rows.blockPacksSpec.post enc Tryz.prog Tryz.f3 false true false false) := by
  refine returnsInHanded_of_change_sized (C := Tryz.checked) Tryz.own started (by kernel_rfl) Tryz.func3
    (ChangeSpec.witness6 (enc := enc) (C := Tryz.checked) false ⟨#[], #[.string ByteArray.empty, .string ByteArray.empty, .string ByteArray.empty], []⟩ 8 (by kernel_rfl) (by kernel_rfl) (by kernel_rfl) (by kernel_rfl)) ?_
  intro W base args ds gs before hval0 hW _hcnd hsz0 _
  have hval : ∀ (j : Nat) t v, Tryz.f3.params[j]? = some t → args[j]? = some v → Value.okWide Tryz.prog W .any base t v := hval0
  have hsz : (DataW.weightsEach Tryz.prog (Tryz.f3.params.toList ++ Rows.blockPacksSpec.plain.varTypes Tryz.prog) (ds ++ gs)).all (· ≤ reachBytes) = true := hsz0
  have hW' := hW
  obtain ⟨p, q, hA0, hV, rfl, _hfz, _hnd⟩ := hW
  have hA : DataW.TrodAll enc Tryz.prog W 0 (fun _ => true) true Tryz.f3.params.toList args.toList ds p := hA0
  rw [Tryz.params3] at hA hval hsz
  obtain ⟨v0, vs0, d0, ds0, p0, q0, hargs, rfl, rfl, h0, r0⟩ := trodAll_cons hA
  obtain ⟨v1, vs1, d1, ds1, p1, q1, rfl, rfl, rfl, h1, r1⟩ := trodAll_cons r0
  obtain ⟨v2, vs2, d2, ds2, p2, q2, rfl, rfl, rfl, h2, r2⟩ := trodAll_cons r1
  obtain ⟨rfl, rfl, rfl⟩ := trodAll_nil r2
  obtain rfl : args = #[v0, v1, v2] := by cases args; simp_all
  obtain ⟨rfl, rfl⟩ := trodVars_none hV
  obtain ⟨a0, rfl, rfl, rfl, w0⟩ := open_string Tryz.underlying9 (hval 0 9 v0 rfl rfl) h0
  have l0 := sized_string hsz (j := 0) (t := 9) rfl rfl
  obtain ⟨a1, rfl, rfl, rfl, w1⟩ := open_string Tryz.underlying9 (hval 1 9 v1 rfl rfl) h1
  have l1 := sized_string hsz (j := 1) (t := 9) rfl rfl
  obtain ⟨a2, rfl, rfl, rfl, w2⟩ := open_string Tryz.underlying9 (hval 2 9 v2 rfl rfl) h2
  have l2 := sized_string hsz (j := 2) (t := 9) rfl rfl
  clear hA0 hval0 hsz0 hsz
  simp only [List.append_nil] at hW'
  have z0 : a0.data.toList.length ≤ 140737488351232 := l0
  have z1 : a1.data.toList.length ≤ 140737488351232 := l1
  have z2 : a2.data.toList.length ≤ 140737488351232 := l2
  refine (blockPacks_any a0.data.toList a1.data.toList a2.data.toList W (Nat.le_trans z0 (by decide)) (Nat.le_trans z1 (by decide)) (Nat.le_trans z2 (by decide))).mono fun e W' ⟨he, hg⟩ => ?_
  subst he
  exact ⟨_, rfl, post_of_below (pa := []) (pv := []) hW' (fun _ _ _ => (trodAll_cons_mk (shut_bool Tryz.underlying4 _) trodAll_mk0)) (fun sp hsp => (trodAll_cons_mk (shut_string Tryz.underlying9 w0) (trodAll_cons_mk (shut_string Tryz.underlying9 w1) (trodAll_cons_mk (shut_string Tryz.underlying9 w2) trodAll_mk0)))) (fun _ _ => rfl) rfl
    hg (ok_one (by kernel_rfl) rfl (okWide_bool_mk Tryz.underlying4 _))⟩

theorem proved : Rows.BlockPacksSaid :=
  OpenClaim.holds_of_wide 3 Tryz.f3 rfl rfl rfl rfl rfl rfl rfl ⟨rfl, rfl, rfl, rfl, rfl⟩ rfl rfl rfl rfl rfl (by kernel_rfl) Tryz.func3 (by kernel_rfl)
    (of_decide_eq_true (by kernel_rfl)) (by unfold Func.isWrapper; first | (rw [if_pos (by decide +kernel)]; kernel_rfl) | (rw [if_neg (by decide +kernel)]; exact ⟨rfl, rfl⟩))
    (fun os started H enc _ => lifted os started H enc)
end Go.Proofs.YtbnmfdlaabdlhaaGreat.blockPacks
