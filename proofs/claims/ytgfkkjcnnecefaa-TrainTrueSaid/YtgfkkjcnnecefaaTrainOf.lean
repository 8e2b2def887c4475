/- The walk of the reference's TrainOf. -/
import Derived.Test.YtgfkkjcnnecefaaTrain
namespace Go.Proofs.Ytgfkkjcnnecefaa
open Go.RowKit Go.Lib Pl
attribute [local go_sem] ext_list app_list

theorem bestStep_yes {l : List Bytes} {dict p : Bytes} {b : Bytes × Nat} (h : (b.2 < cnt l p) ∨ (cnt l p = b.2 ∧ 1 < cnt l p ∧ lessB p b.1 = true)) (he : stands p dict = false) : bestStep l dict b p = (p, cnt l p) := if_pos ⟨h, he⟩
theorem bestStep_no {l : List Bytes} {dict p : Bytes} {b : Bytes × Nat} (h : ¬ (((b.2 < cnt l p) ∨ (cnt l p = b.2 ∧ 1 < cnt l p ∧ lessB p b.1 = true)) ∧ stands p dict = false)) : bestStep l dict b p = b := if_neg h
theorem allPieces_take {l : List Bytes} {k : Nat} {t : Bytes} (h : l[k]? = some t) : allPieces (l.take (k + 1)) = allPieces (l.take k) ++ piecesOf t := by
  unfold allPieces
  rw [List.take_add_one, h, List.flatMap_append]
  simp
theorem take_next_piece {t : Bytes} {q : Nat} (h : q < t.length - 3) : (piecesOf t).take (q + 1) = (piecesOf t).take q ++ [piece t q] := by
  rw [List.take_add_one, piecesOf_get h]; rfl
/-- the best so far: its sizes -/
def Sized (b : Bytes × Nat) : Prop := b.1.length ≤ 4 ∧ b.2 ≤ 12
theorem sized_step {l : List Bytes} {dict p : Bytes} {b : Bytes × Nat} (h12 : l.length ≤ 12) (h : Sized b) (hp : p.length = 4) : Sized (bestStep l dict b p) := by
  unfold bestStep
  split
  · have := cnt_le l p
    exact ⟨by simp [hp], by simp only; omega⟩
  · exact h

def strLn : Value → Nat
  | .string b => b.data.toList.length
  | _ => 0

set_option maxHeartbeats 8000000 in
set_option maxRecDepth 100000 in
theorem trainOf_any (A : Option Addr) (n cap : Nat) (l : List Bytes) (size : Nat) (w : World) (hl : StrsAt w w.heap.size A n l) (hb : manyB l = false) (hsz : size ≤ 256) :
    Calls Try.prog 39 #[.slice A n cap, I size] w fun e w' => e = .returned (S (trainOf l size)) ∧ Below w.heap.size w w' := by
  obtain ⟨h12, hs⟩ := manyB_no hb
  have hn12 : n ≤ 12 := by have := hl.1; omega
  have HS := hide hs
  have H12 := hide h12
  clear hs hb h12
  have hmm : ∀ (w : World), (Instr.makeMap 104 none).run Try.prog w = .ok (.map (some w.heap.size)) (w.alloc (.map #[] 0)) := fun _ => rfl
  go_enter Try.func39, Try.ntmps39
  go_wp2_with fail
  obtain ⟨B, hB⟩ : ∃ B, B = w.heap.size := ⟨_, rfl⟩
  have M1 : NatMap (w.alloc (.map #[] 0)) B 0 fun _ => 0 := by rw [hB]; exact NatMap.made w
  rw [← hB]
  have HB := hide hB
  clear hB
  go_loopw [6] (fun i wr => ∃ (k m1 : Nat), k ≤ n ∧ i = .int .i64 k ∧ m1 ≤ k * 512 ∧ NatMap wr B m1 (cntP (l.take k)) ∧ Below B w wr) (fun i _ => n - (intOf i).toNat)
  case atStart =>
    refine ⟨0, 0, Nat.zero_le _, rfl, by omega, M1, ?_⟩
    rw [unhide HB]; exact (Below.refl _ _).alloc (Nat.le_refl _) _
  case round =>
    obtain ⟨k, m1, hk, rfl, h1, hM1, hbel⟩ := hrel
    have HM1 := hide hM1
    have hl2 := hl
    rw [← unhide HB] at hl2
    have hl3 := hl2.below hbel
    clear hM1 M1
    by_cases hkn : k < n
    · obtain ⟨b, off, t, rfl, hb, ht, q0⟩ := hl3.at_ hkn
      have ht5 := unhide HS t (List.mem_of_getElem? ht)
      have HT := hide ht
      clear ht
      obtain ⟨r, hr⟩ : ∃ r, r = wr.heap.size := ⟨_, rfl⟩
      have hBr : B < r := by rw [hr]; exact (unhide HM1).lt
      have M2 : NatMap (wr.alloc (.map #[] 0)) r 0 fun _ => 0 := by rw [hr]; exact NatMap.made wr
      have HM2 := hide M2
      have HRR := hide hr
      have q0' : (wr.alloc (.map #[] 0)).cell? ⟨b, off + k, none⟩ = some (S t) := (((Below.refl _ _).alloc (Nat.le_refl _) (.map #[] 0) : Below wr.heap.size wr _).cell (p := ⟨b, off + k, none⟩) (by show b < wr.heap.size; omega)).trans q0
      have HQ0 := hide q0
      clear M2 q0 hr
      go_wp2_with fail
      rw [← unhide HRR]
      go_loopw [8] (fun i wx => ∃ (q m3 m4 : Nat), q ≤ t.length - 3 ∧ i = .int .i64 q ∧ m3 ≤ q ∧ m4 ≤ k * 512 + q ∧ NatMap wx r m3 (fun p => ((piecesOf t).take q).count p) ∧ NatMap wx B m4 (fC l k t q) ∧ Below B w wx) (fun i _ => t.length - 3 - (intOf i).toNat)
      case atStart =>
        refine ⟨0, 0, m1, Nat.zero_le _, rfl, Nat.le_refl _, by omega, unhide HM2, ?_, hbel.alloc (by have := unhide HRR; omega) _⟩
        have e : fC l k t 0 = cntP (l.take k) := by funext p; simp [fC]
        rw [e]; exact (unhide HM1).alloc _
      case round =>
        obtain ⟨q, m3, m4, hq, rfl, h3, h4, hM3, hM4, hbel2⟩ := hrel
        have q0x : wr.cell? ⟨b, off + k, none⟩ = some (S t) := ((hl2.below hbel2).2 (by omega)).elim fun b' ⟨off', e, hb', hc⟩ => by
          injection e with e; injection e with e1 e2 _
          subst e1; subst e2
          exact hc k t (unhide HT)
        have HM3 := hide hM3
        have HM4 := hide hM4
        clear hM3 hM4
        by_cases hqc : q < t.length - 3
        · obtain ⟨p, hp⟩ : ∃ p, p = slice t q (q + 4) := ⟨_, rfl⟩
          have hp4 : p.length = 4 := by rw [hp]; exact piece_len hqc
          have e1 : (q : Int) + 4 ≤ (t.length : Int) := by omega
          have e2 : ((q : Int) + 4).toNat = q + 4 := by omega
          have hsl := hp.symm
          have hmt := mem_take_succ hqc
          have hnx := take_next_piece hqc
          rw [show piece t q = p from hp.symm] at hmt hnx
          have HMT := hide hmt
          have HNX := hide hnx
          have hcl : ((piecesOf t).take q).count p ≤ q := by
            have := List.count_le_length (a := p) (l := (piecesOf t).take q)
            rw [List.length_take] at this; omega
          have hfl : fC l k t q p ≤ 13 := by
            unfold fC
            have := cntP_le (l.take k) p
            rw [List.length_take] at this
            split <;> omega
          have hcnt : (fun p2 => if p2 = p then ((piecesOf t).take q).count p + 1 else ((piecesOf t).take q).count p2) = fun p2 => ((piecesOf t).take (q + 1)).count p2 := by
            funext p2
            rw [hnx, List.count_append]
            by_cases h : p2 = p
            · subst h; simp
            · rw [if_neg h, List.count_singleton, if_neg (by simp; exact fun e => h e.symm)]; rfl
          have HCNT := hide hcnt
          obtain ⟨c, hc⟩ : ∃ c, c = ((piecesOf t).take q).count p := ⟨_, rfl⟩
          have HCC := hide hc
          rw [← hc] at hcl
          clear hp hmt hnx hcnt hc
          by_cases hsee : c = 0
          · have q1 : ((c : Int) == 0) = true := by rw [beq_iff_eq]; omega
            have hin : p ∉ (piecesOf t).take q := List.count_eq_zero.1 (by rw [← unhide HCC]; exact hsee)
            have HIN := hide hin
            clear hsee hin
            go_wp2_with (first
              | (at_lookup; refine wpList_look rfl (.tmp 43) (.tmp 44) rfl r m3 _ rfl (unhide HM3) p rfl (by omega) ?_; rw [← unhide HCC])
              | (at_lookup; refine wpList_look rfl (.tmp 47) (.tmp 48) rfl B m4 (fC l k t q) rfl (unhide HM4) p rfl (by omega) ?_)
              | (at_mapUpdate; refine wpList_put rfl (.tmp 47) (.tmp 48) (.tmp 50) rfl B m4 (fC l k t q) rfl (unhide HM4) p rfl (by omega) (fC l k t q p + 1) _ rfl (by omega) (by omega) (by omega) ?_; intro w5 hM5 hg5; have HM5 := hide hM5; have HM6 := hide ((unhide HM3).kept hg5 (by simp; omega)); clear hM5)
              | (at_lookup; refine wpList_look rfl (.tmp 51) (.tmp 52) rfl r m3 _ rfl (unhide HM6) p rfl (by omega) ?_; rw [← unhide HCC])
              | (at_mapUpdate; refine wpList_put rfl (.tmp 51) (.tmp 52) (.tmp 54) rfl r m3 _ rfl (unhide HM6) p rfl (by omega) (c + 1) _ rfl (by omega) (by omega) (by omega) ?_; intro w7 hM7 hg7; have HM7 := hide hM7; have HM8 := hide ((unhide HM5).kept hg7 (by simp; omega)); clear hM7))
            go_roundw
            case rel =>
              refine ⟨q + 1, m3 + 1, m4 + 1, by omega, by go_num, by omega, by omega, ?_, ?_, (hbel2.grown hg5 (by have := (unhide HM4).lt; omega) (fun j hj => by simp at hj; omega)).grown hg7 (by have := (unhide HM5).lt; omega) (fun j hj => by simp at hj; omega)⟩
              · rw [← unhide HCNT, ← unhide HCC]; exact unhide HM7
              · have e : (fun x => if x = p then fC l k t q p + 1 else fC l k t q x) = fC l k t (q + 1) := by
                  funext p2
                  by_cases h : p2 = p
                  · subst h
                    rw [if_pos rfl]
                    unfold fC
                    rw [if_neg (unhide HIN), if_pos ((unhide HMT _).2 (.inr rfl))]
                  · rw [if_neg h]
                    unfold fC
                    congr 1
                    by_cases h2 : p2 ∈ (piecesOf t).take q
                    · rw [if_pos h2, if_pos ((unhide HMT p2).2 (.inl h2))]
                    · rw [if_neg h2, if_neg]
                      intro h3
                      rcases (unhide HMT p2).1 h3 with h3 | h3
                      · exact h2 h3
                      · exact h h3
                rw [← e]; exact unhide HM8
            case measure => simp [intOf]; omega
          · have q1 : ((c : Int) == 0) = false := by rw [beq_eq_false_iff_ne]; omega
            have hin : p ∈ (piecesOf t).take q := by
              have := unhide HCC
              exact List.count_pos_iff.1 (by omega)
            have HIN := hide hin
            clear hsee hin
            go_wp2_with (first
              | (at_lookup; refine wpList_look rfl (.tmp 43) (.tmp 44) rfl r m3 _ rfl (unhide HM3) p rfl (by omega) ?_; rw [← unhide HCC])
              | (at_lookup; refine wpList_look rfl (.tmp 51) (.tmp 52) rfl r m3 _ rfl (unhide HM3) p rfl (by omega) ?_; rw [← unhide HCC])
              | (at_mapUpdate; refine wpList_put rfl (.tmp 51) (.tmp 52) (.tmp 54) rfl r m3 _ rfl (unhide HM3) p rfl (by omega) (c + 1) _ rfl (by omega) (by omega) (by omega) ?_; intro w7 hM7 hg7; have HM7 := hide hM7; have HM8 := hide ((unhide HM4).kept hg7 (by simp; omega)); clear hM7))
            go_roundw
            case rel =>
              refine ⟨q + 1, m3 + 1, m4, by omega, by go_num, by omega, by omega, ?_, ?_, hbel2.grown hg7 (by have := (unhide HM4).lt; omega) (fun j hj => by simp at hj; omega)⟩
              · rw [← unhide HCNT, ← unhide HCC]; exact unhide HM7
              · have e : fC l k t (q + 1) = fC l k t q := by
                  funext p2
                  unfold fC
                  congr 1
                  by_cases h : p2 ∈ (piecesOf t).take q
                  · rw [if_pos h, if_pos ((unhide HMT p2).2 (.inl h))]
                  · rw [if_neg h, if_neg]
                    intro h2
                    rcases (unhide HMT p2).1 h2 with h2 | rfl
                    · exact h h2
                    · exact h (unhide HIN)
                rw [e]; exact unhide HM8
            case measure => simp [intOf]; omega
        · have e1 : ¬ (q : Int) + 4 ≤ (t.length : Int) := by omega
          go_wp2_with fail
          go_roundw
          case rel =>
            have hall : (piecesOf t).take q = piecesOf t := List.take_of_length_le (by rw [piecesOf_len]; omega)
            refine ⟨k + 1, m4, by omega, by go_num, by omega, ?_, hbel2⟩
            have e : fC l k t q = cntP (l.take (k + 1)) := by
              funext p
              unfold fC
              rw [hall, cntP_take (unhide HT)]
            rw [← e]; exact unhide HM4
          case measure => simp [intOf]; omega
    · have hfin : cntP (l.take k) = cntP l := by rw [List.take_of_length_le (by have := hl.1; omega)]
      have hM := unhide HM1
      rw [hfin] at hM
      have HM := hide hM
      have HL3 := hide hl3
      have hk2 : decide ((k : Int) < (n : Int)) = false := by simp; omega
      obtain ⟨wo, hwo⟩ : ∃ wo : World, wo = wr := ⟨_, rfl⟩
      clear hfin hM HM1 hl2 hwo hl3
      go_wp2_with fail
      go_loop [10] (fun d => ∃ (f : Nat) (dict : Bytes), d = S dict ∧ trainR l size f dict = trainOf l size ∧ dict.length + 4 * f = 256) (fun d => 256 - strLn d)
      case atStart => exact ⟨64, [], rfl, rfl, rfl⟩
      case round =>
        obtain ⟨f, dict, rfl, htr, hdf⟩ := hrel
        have HTR := hide htr
        clear htr
        by_cases hz : dict.length + 4 ≤ size
        · have z1 : (dict.length : Int) + 4 ≤ (size : Int) := by omega
          go_wp2_with fail
          go_loop [11, 12, 13] (fun s c i => ∃ (j : Nat) (b : Bytes × Nat), j ≤ n ∧ i = .int .i64 j ∧ s = S b.1 ∧ c = I b.2 ∧ b = bestOf l dict (allPieces (l.take j)) ∧ Sized b) (fun _ _ i => n - (intOf i).toNat)
          case atStart => exact ⟨0, ([], 1), Nat.zero_le _, rfl, rfl, rfl, rfl, by simp [Sized]⟩
          case round =>
            obtain ⟨j, ⟨b1, b2⟩, hj, rfl, rfl, rfl, hbb, hbs⟩ := hrel
            have HBB := hide hbb
            have HBS := hide hbs
            clear hbb hbs
            by_cases hjn : j < n
            · obtain ⟨bk, off, t, rfl, hbk, ht, q0⟩ := (unhide HL3).at_ hjn
              have ht5 := unhide HS t (List.mem_of_getElem? ht)
              have hal := allPieces_take ht
              have HAL := hide hal
              clear ht hal
              go_wp2_with fail
              go_loop [11, 12, 14, 15, 16] (fun s c i _ _ => ∃ (q : Nat) (b : Bytes × Nat), q ≤ t.length - 3 ∧ i = .int .i64 q ∧ s = S b.1 ∧ c = I b.2 ∧ b = ((piecesOf t).take q).foldl (bestStep l dict) (b1, b2) ∧ Sized b) (fun _ _ i _ _ => t.length - 3 - (intOf i).toNat)
              case atStart => exact ⟨0, (b1, b2), Nat.zero_le _, rfl, rfl, rfl, rfl, unhide HBS⟩
              case round =>
                obtain ⟨q, ⟨d1, d2⟩, hq, rfl, rfl, rfl, hdd, hds⟩ := hrel
                obtain ⟨hd1, hd2⟩ : d1.length ≤ 4 ∧ d2 ≤ 12 := hds
                have HDD := hide hdd
                clear hdd
                by_cases hqc : q < t.length - 3
                · obtain ⟨p, hp⟩ : ∃ p, p = slice t q (q + 4) := ⟨_, rfl⟩
                  have hp4 : p.length = 4 := by rw [hp]; exact piece_len hqc
                  have e1 : (q : Int) + 4 ≤ (t.length : Int) := by omega
                  have e2 : ((q : Int) + 4).toNat = q + 4 := by omega
                  have hsl := hp.symm
                  have hnx := take_next_piece hqc
                  rw [show piece t q = p from hp.symm] at hnx
                  have hst := sized_step (dict := dict) (unhide H12) (b := (d1, d2)) ⟨hd1, hd2⟩ hp4
                  have hrel1 : bestStep l dict (d1, d2) p = ((piecesOf t).take (q + 1)).foldl (bestStep l dict) (b1, b2) := by
                    rw [hnx, List.foldl_append, ← unhide HDD]; rfl
                  obtain ⟨c, hc⟩ : ∃ c, c = cntP l p := ⟨_, rfl⟩
                  have hcc : cnt l p = c := by rw [hc]; exact (cntP_eq hp4).symm
                  have hc12 : c ≤ 12 := by rw [← hcc]; exact Nat.le_trans (cnt_le l p) (unhide H12)
                  have HR1 := hide hrel1
                  have HST := hide hst
                  have HCC := hide hcc
                  have HC := hide hc
                  have CS := fun (W : World) => standsR_any p dict W (by omega) (by omega)
                  clear hp hnx hst hrel1 hcc hc
                  have yes : (d2 < c ∨ (c = d2 ∧ 1 < c ∧ lessB p d1 = true)) → stands p dict = false → (p, c) = ((piecesOf t).take (q + 1)).foldl (bestStep l dict) (b1, b2) ∧ Sized (p, c) := fun h1 h2 => by
                    have h3 := bestStep_yes (l := l) (dict := dict) (p := p) (b := (d1, d2)) (by rw [unhide HCC]; exact h1) h2
                    rw [unhide HCC] at h3
                    exact ⟨by rw [← h3]; exact unhide HR1, by rw [← h3]; exact unhide HST⟩
                  have no : ¬ ((d2 < c ∨ (c = d2 ∧ 1 < c ∧ lessB p d1 = true)) ∧ stands p dict = false) → (d1, d2) = ((piecesOf t).take (q + 1)).foldl (bestStep l dict) (b1, b2) := fun h1 => by
                    have h3 := bestStep_no (l := l) (dict := dict) (p := p) (b := (d1, d2)) (by rw [unhide HCC]; exact h1)
                    rw [← h3]; exact unhide HR1
                  have YES := hide yes
                  have NO := hide no
                  clear yes no
                  by_cases hA : d2 < c ∨ (c = d2 ∧ 1 < c ∧ lessB p d1 = true)
                  · have hfacts : (decide (d2 < c) = true) ∨ (decide (d2 < c) = false ∧ (((c : Int) == (d2 : Int)) = true ∧ (c == d2) = true ∧ decide (c = d2) = true) ∧ decide (1 < c) = true ∧ Op.bytesLess p d1 = true) := by
                      rcases hA with hA | ⟨h1, h2, h3⟩
                      · exact .inl (by simpa using hA)
                      · exact .inr ⟨by simp; omega, ⟨by rw [beq_iff_eq]; omega, by rw [beq_iff_eq]; exact h1, by simpa using h1⟩, by simpa using h2, by rw [less_model]; exact h3⟩
                    have HA := hide hA
                    clear hA
                    cases hst : stands p dict with
                    | true =>
                      rw [hst] at CS
                      have CS := hide CS
                      have HST2 := hide hst
                      clear hst
                      rcases hfacts with f1 | ⟨f1, ⟨f2, f2', f2''⟩, f3, f4⟩
                      all_goals
                        first | (have f6 : (1 : Int) < (c : Int) := by have := of_decide_eq_true f3; omega) | skip
                        first | (have f7 : decide ((1 : Int) < (c : Int)) = true := by have := of_decide_eq_true f3; simp; omega) | skip
                        go_wp2_with (first
                          | (at_lookup; refine wpList_look rfl (.tmp 84) (.tmp 85) rfl B m1 (cntP l) rfl (unhide HM) p rfl (by omega) ?_; rw [← unhide HC])
                          | (go_at_call 64; refine (unhide CS _).mono ?_; rintro e w1 ⟨rfl, rfl⟩))
                        go_round
                        case rel => exact ⟨q + 1, (d1, d2), by omega, by go_num, rfl, rfl, unhide NO (by rw [unhide HST2]; simp), hd1, hd2⟩
                        case measure => simp [intOf]; omega
                    | false =>
                      rw [hst] at CS
                      have CS := hide CS
                      have HST2 := hide hst
                      clear hst
                      rcases hfacts with f1 | ⟨f1, ⟨f2, f2', f2''⟩, f3, f4⟩
                      all_goals
                        first | (have f6 : (1 : Int) < (c : Int) := by have := of_decide_eq_true f3; omega) | skip
                        first | (have f7 : decide ((1 : Int) < (c : Int)) = true := by have := of_decide_eq_true f3; simp; omega) | skip
                        go_wp2_with (first
                          | (at_lookup; refine wpList_look rfl (.tmp 84) (.tmp 85) rfl B m1 (cntP l) rfl (unhide HM) p rfl (by omega) ?_; rw [← unhide HC])
                          | (go_at_call 64; refine (unhide CS _).mono ?_; rintro e w1 ⟨rfl, rfl⟩))
                        go_round
                        case rel =>
                          obtain ⟨y1, y2⟩ := unhide YES (unhide HA) (unhide HST2)
                          exact ⟨q + 1, (p, c), by omega, by go_num, rfl, rfl, y1, y2⟩
                        case measure => simp [intOf]; omega
                  · have g1 : decide (d2 < c) = false := by simp; omega
                    have hfacts : (((c : Int) == (d2 : Int)) = false ∧ (c == d2) = false ∧ decide (c = d2) = false) ∨ ((((c : Int) == (d2 : Int)) = true ∧ (c == d2) = true ∧ decide (c = d2) = true) ∧ decide (1 < c) = false) ∨ ((((c : Int) == (d2 : Int)) = true ∧ (c == d2) = true ∧ decide (c = d2) = true) ∧ decide (1 < c) = true ∧ Op.bytesLess p d1 = false) := by
                      by_cases h1 : c = d2
                      · right
                        have h1' : ((c : Int) == (d2 : Int)) = true ∧ (c == d2) = true ∧ decide (c = d2) = true := ⟨by rw [beq_iff_eq]; omega, by rw [beq_iff_eq]; exact h1, by simpa using h1⟩
                        by_cases h2 : 1 < c
                        · right
                          refine ⟨h1', by simpa using h2, ?_⟩
                          rw [less_model, Bool.eq_false_iff]
                          exact fun h3 => hA (.inr ⟨h1, h2, h3⟩)
                        · exact .inl ⟨h1', by simpa using h2⟩
                      · left; exact ⟨by rw [beq_eq_false_iff_ne]; omega, by rw [beq_eq_false_iff_ne]; exact h1, by simpa using h1⟩
                    have HA := hide hA
                    clear hA CS
                    rcases hfacts with ⟨f1, f1', f1''⟩ | ⟨⟨f1, f1', f1''⟩, f2⟩ | ⟨⟨f1, f1', f1''⟩, f2, f3⟩
                    all_goals
                      first | (have f6 : decide ((1 : Int) < (c : Int)) = true := by have := of_decide_eq_true f2; simp; omega) | (have f6 : decide ((1 : Int) < (c : Int)) = false := by have := of_decide_eq_false f2; simp; omega) | skip
                      go_wp2_with (at_lookup; refine wpList_look rfl (.tmp 84) (.tmp 85) rfl B m1 (cntP l) rfl (unhide HM) p rfl (by omega) ?_; rw [← unhide HC])
                      go_round
                      case rel => exact ⟨q + 1, (d1, d2), by omega, by go_num, rfl, rfl, unhide NO (fun h => unhide HA h.1), hd1, hd2⟩
                      case measure => simp [intOf]; omega
                · have e1 : ¬ (q : Int) + 4 ≤ (t.length : Int) := by omega
                  go_wp2_with fail
                  go_round
                  case rel =>
                    have hall : (piecesOf t).take q = piecesOf t := List.take_of_length_le (by rw [piecesOf_len]; omega)
                    refine ⟨j + 1, (d1, d2), by omega, by go_num, rfl, rfl, ?_, hd1, hd2⟩
                    rw [unhide HDD, hall, unhide HBB, unhide HAL]
                    unfold bestOf
                    rw [List.foldl_append]
                  case measure => simp [intOf]; omega
            · have hfin : allPieces (l.take j) = allPieces l := by rw [List.take_of_length_le (by have := hl.1; omega)]
              have hk3 : decide ((j : Int) < (n : Int)) = false := by simp; omega
              have hbb := unhide HBB
              rw [hfin] at hbb
              obtain ⟨g, rfl⟩ : ∃ g, f = g + 1 := ⟨f - 1, by omega⟩
              have htr := unhide HTR
              rw [trainR, if_pos hz, ← hbb] at htr
              obtain ⟨hb1, hb2⟩ : b1.length ≤ 4 ∧ b2 ≤ 12 := unhide HBS
              by_cases hbe : b1 = []
              · rw [if_pos hbe] at htr
                subst hbe
                have HT2 := hide htr
                clear hfin hbb htr
                go_wp2_with fail
                go_ret
                exact ⟨by rw [← unhide HT2]; rfl, by rw [← unhide HB]; exact hbel⟩
              · rw [if_neg hbe] at htr
                have f1 : b1.isEmpty = false := by simpa using hbe
                have f2 : (b1 == []) = false := by simpa using hbe
                have HT2 := hide htr
                have hb4 : b1.length = 4 := by
                  have hbi := bestOf_is l dict (allPieces l) (fun p hp e => by have := allPieces_len hp; rw [e] at this; simp at this)
                  rw [← hbb] at hbi
                  rcases hbi with ⟨h1, _⟩ | ⟨h1, _⟩
                  · injection h1 with h1 _; exact absurd h1 hbe
                  · exact allPieces_len h1
                have HB4 := hide hb4
                clear hfin hbb htr hbe hb4
                go_wp2_with fail
                go_round
                case rel => exact ⟨g, b1 ++ dict, rfl, unhide HT2, by have := unhide HB4; rw [List.length_append]; omega⟩
                case measure => have := unhide HB4; simp [strLn]; omega
        · have z1 : ¬ (dict.length : Int) + 4 ≤ (size : Int) := by omega
          have hres : trainOf l size = dict := by
            rw [← unhide HTR]
            cases f with
            | zero => rfl
            | succ f => rw [trainR, if_neg hz]
          have HRES := hide hres
          clear hres
          go_wp2_with fail
          go_ret
          exact ⟨by rw [unhide HRES]; rfl, by rw [← unhide HB]; exact hbel⟩

end Go.Proofs.Ytgfkkjcnnecefaa
