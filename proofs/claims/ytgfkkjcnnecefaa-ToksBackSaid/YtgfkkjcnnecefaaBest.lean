/- The walk of (*finder).best. -/
import Derived.Test.YtgfkkjcnnecefaaPureBest
import Derived.Test.YtgfkkjcnnecefaaNote
namespace Go.Proofs.Ytgfkkjcnnecefaa
open Go.RowKit Go.Lib Pl
attribute [local go_sem] ext_list app_list

theorem places_prefix (s : Bytes) (kb : Bytes) (x : Nat) : ∀ d, ∃ r, places s (x + d) kb = places s x kb ++ r
  | 0 => ⟨[], by simp⟩
  | d + 1 => by
    obtain ⟨r, hr⟩ := places_prefix s kb x d
    rw [← Nat.add_assoc, places_succ, hr]
    exact ⟨_, List.append_assoc _ _ _⟩
theorem places_get {s : Bytes} {kb : Bytes} {x y p : Nat} (hx : x ≤ p) (h : places s x kb = places s y kb ++ [(y : Int)]) : (places s p kb)[(places s y kb).length]? = some (y : Int) := by
  obtain ⟨r, hr⟩ := places_prefix s kb x (p - x)
  rw [show x + (p - x) = p from by omega] at hr
  rw [hr, h, List.append_assoc, List.getElem?_append_right (Nat.le_refl _), Nat.sub_self]
  rfl
theorem get_lt {α : Type} {l : List α} {i : Nat} {a : α} (h : l[i]? = some a) : i < l.length := (List.getElem?_eq_some_iff.1 h).1
theorem len_snoc {α : Type} (l : List α) (a : α) : (((l ++ [a]).length : Nat) : Int) - 1 = (l.length : Int) := by simp

set_option maxHeartbeats 4000000 in
set_option maxRecDepth 100000 in
theorem best_any (s : Bytes) (base F b m p : Nat) (w : World) (hF : Fd w base F b m s) (hbs : base ≤ w.heap.size) (_hFb : F < base) (hmp : m ≤ p) (hp : p ≤ s.length) (hs : s.length ≤ 768) :
    Calls Try.prog 56 #[.pointer (some ⟨F, 0, none⟩), I p] w fun e w' => e = .returned (.tuple #[I (best s p).1, I (best s p).2]) ∧ ∃ m', m ≤ m' ∧ m' ≤ p ∧ Fd w' base F b m' s ∧ FdFrame base F b w w' := by
  have cN := hide (note_any s base F b m p w hF hbs hmp hp hs)
  go_enter Try.func56, Try.ntmps56
  go_wp2_with fail
  refine (unhide cN).mono ?_
  rintro e w1 ⟨rfl, q, hmq, hqp, hq, hFd, hfr⟩
  have hFd' := hFd
  obtain ⟨hblk, hwhr⟩ := hFd
  have hFlt : F < w1.heap.size := (Array.getElem?_eq_some_iff.1 hblk).1
  have c0 : w1.cell? ⟨F, 0, none⟩ = some (S s) := by rw [cell_of_row w1 F 0 _ _ _ hblk]; rfl
  have c1 : w1.cell? ⟨F, 1, none⟩ = some (.map (some b)) := by rw [cell_of_row w1 F 1 _ _ _ hblk]; rfl
  by_cases h3 : s.length < p + 3
  · have hbest := best_short hp h3
    have HB := hide hbest
    have h3i : (s.length : Int) < (p : Int) + 3 := by omega
    clear hbest
    go_wp2_with fail
    go_ret2
    rw [unhide HB]
    exact ⟨rfl, q, hmq, hqp, hFd', hfr⟩
  · have hqp2 : q = p := by omega
    have h3b : p + 3 ≤ s.length := by omega
    have h3i : (p : Int) + 3 ≤ (s.length : Int) := by omega
    have n1 : (0 : Int) ≤ (p : Int) := by omega
    have n2 : (0 : Int) ≤ (p : Int) + 3 := by omega
    have n3 : ((p : Int) + 3).toNat = p + 3 := by omega
    have n4 : (p : Int) ≤ (p : Int) + 3 := by omega
    have hw3 : IntKind.i64.wrap ((p : Int) + 3) = (p : Int) + 3 := IntWalk.i64_in _ ⟨by omega, by omega⟩
    have hsl := slice_len s p (p + 3)
    obtain ⟨v, hv, hoi, hbb, _⟩ := hwhr.at_ (by omega) (slice s p (p + 3)) (by omega)
    rw [hqp2] at hoi
    have hpl := places_len s p (slice s p (p + 3))
    obtain ⟨A, cap, hvs⟩ : ∃ A cap, v = .slice A (places s p (slice s p (p + 3))).length cap := by
      rcases hoi.1.2 with ⟨rfl, h0⟩ | ⟨g, cap, cur, rfl, _⟩
      · exact ⟨none, 0, by rw [h0]⟩
      · exact ⟨_, _, rfl⟩
    subst hvs
    have hl0 := fun (k : Nat) => hv (w1.drewN k) rfl
    have HV := hide hv
    have HO := hide hoi
    have HFD := hide hFd'
    have HQ := hide hqp2
    obtain ⟨P, hP⟩ : ∃ P, P = places s p (slice s p (p + 3)) := ⟨_, rfl⟩
    rw [← hP] at hl0 hpl
    clear hv hoi hsl hwhr hFd' hqp2 hblk hq
    go_wp2_with fail
    go_quiet (fail)
    go_wp2_with fail
    clear hl0 c1
    have hPi : (0 : Int) ≤ (P.length : Int) := by omega
    have hPj : IntKind.i64.wrap ((P.length : Int) - 1) = (P.length : Int) - 1 := IntWalk.i64_in _ ⟨by omega, by omega⟩
    have HP := hide hP
    clear hP
    go_wp2_with fail
    go_loopw [7, 8, 9] (fun fv sv i wr => ∃ x : Nat, x ≤ p ∧ i = .int .i64 (((places s x (slice s p (p + 3))).length : Int) - 1) ∧ fv = .int .i64 (bestP s p x).1 ∧ sv = .int .i64 (bestP s p x).2 ∧ Below w1.heap.size w1 wr)
      (fun _ _ i _ => (intOf i + 1).toNat)
    case atStart =>
      refine ⟨p, Nat.le_refl _, by rw [← unhide HP]; rw [IntWalk.wrap64_in _ ⟨by omega, by omega⟩], by rw [bestP_top]; rfl, by rw [bestP_top]; rfl, below_drewN (Below.refl _ _) _⟩
    case round =>
      obtain ⟨x, hx, hi, hf7, hs8, hbel⟩ := hrel
      have c0' : wr.cell? ⟨F, 0, none⟩ = some (S s) := (hbel.cell (p := ⟨F, 0, none⟩) hFlt).trans c0
      rcases places_last h3b x hx with ⟨he, hb⟩ | ⟨y, hyx, hy3, hpe, hb⟩
      · rw [he] at hi
        subst hi
        rw [hb] at hf7 hs8
        subst hf7 hs8
        clear he hb
        go_wp2_with fail
        go_ret2
        refine ⟨rfl, p, by omega, Nat.le_refl _, ?_, ?_⟩
        · have h5 := unhide HFD
          have h6 := hfr.size
          rw [unhide HQ] at h5
          exact ⟨(hbel.block F hFlt).trans h5.1, h5.2.keep (hbel.block b (by omega)) (fun g cs _ hg => (hbel.block g (Array.getElem?_eq_some_iff.1 hg).1).trans hg)⟩
        · exact hfr.trans (FdFrame.of_below hbel)
      · have hget := places_get hx hpe
        rw [hpe, len_snoc] at hi
        obtain ⟨L, hL⟩ : ∃ L, L = (places s y (slice s p (p + 3))).length := ⟨_, rfl⟩
        have hLy : L ≤ y := by rw [hL]; exact places_len _ _ _
        rw [← hL] at hi hget
        rw [← unhide HP] at hget
        have hLP := get_lt hget
        subst hi
        obtain ⟨⟨bf, bs⟩, hbp⟩ : ∃ q : Nat × Nat, q = bestP s p x := ⟨_, rfl⟩
        rw [← hbp] at hf7 hs8
        subst hf7 hs8
        have hO := unhide HO
        rw [← unhide HP] at hO
        obtain ⟨g, hg⟩ : ∃ g, A = some ⟨g, 0, none⟩ := by
          rcases hO.1.2 with ⟨h5, _⟩ | ⟨g, _, _, h5, _⟩
          · injection h5 with h6 h7 _; omega
          · injection h5 with h6; exact ⟨g, h6⟩
        subst hg
        have hgl := (OwnM.of hO.1).lt g rfl
        have hcL := (OwnM.of hO.1).cells (g := g) rfl L (I y) (by rw [List.getElem?_map, hget]; rfl)
        rw [show (⟨g, 0, none⟩ : Addr).add L = ⟨g, L, none⟩ from by simp [Addr.add]; exact Eq.symm] at hcL
        obtain ⟨hcq, hc3⟩ := come3 (s := s) (p := p) (y := y) (by omega) h3b
        have hcome := hcq hy3
        have hge := hc3.1 hy3
        have hle := (come_le s p (p - y) hp)
        obtain ⟨c, hc⟩ : ∃ c, c = come s p (p - y) := ⟨_, rfl⟩
        have hhit := bestP_hit (s := s) (p := p) (y := y) (by omega) hge
        rw [← hb, ← hbp] at hhit
        rw [← hc] at hhit hge hle
        have HH := hide hhit
        have HC := hide hc
        have HCM := hide hcome
        have HB := hide hb
        have HBP := hide hbp
        have HPE := hide hpe
        have HLL := hide hL
        have q1 : decide ((L : Int) ≥ 0) = true := by simp
        have q2 : (0 : Int) ≤ (L : Int) := by omega
        have q4 : L < (places s p (slice s p (p + 3))).length := by rw [← unhide HP]; exact hLP
        have q3 : (L : Int) < ((places s p (slice s p (p + 3))).length : Int) := by omega
        clear hhit hc hcome hb hbp hpe hL hO hget hy3 hc3 hcq c0'
        go_wp2_with fail
        go_loopw [10] (fun i wn => ∃ n : Nat, 3 ≤ n ∧ n ≤ 64 ∧ i = .int .i64 n ∧ come s p (p - y) = comeF s p (p - y) (64 - n) n ∧ Below w1.heap.size w1 wn) (fun i _ => 64 - (intOf i).toNat)
        case atStart => exact ⟨3, by omega, by omega, rfl, unhide HCM, hbel⟩
        case round =>
          obtain ⟨n, hn3, hn64, rfl, hcn, hbeln⟩ := hrel
          have c0n : wr.cell? ⟨F, 0, none⟩ = some (S s) := (hbeln.cell (p := ⟨F, 0, none⟩) hFlt).trans c0
          have cLn : wr.cell? ⟨g, L, none⟩ = some (I y) := (hbeln.cell (p := ⟨g, L, none⟩) hgl.2).trans hcL
          clear c0 hcL
          have r2 : IntKind.i64.wrap ((p : Int) - (y : Int)) = (p : Int) - (y : Int) := IntWalk.i64_in _ ⟨by omega, by omega⟩
          by_cases hn : n < 64
          · have d1 : decide ((n : Int) < 64) = true := by simp; omega
            have hpk : IntKind.i64.wrap ((p : Int) + (n : Int)) = (p : Int) + (n : Int) := IntWalk.i64_in _ ⟨by omega, by omega⟩
            have hyk : IntKind.i64.wrap ((y : Int) + (n : Int)) = (y : Int) + (n : Int) := IntWalk.i64_in _ ⟨by omega, by omega⟩
            by_cases hpn : p + n < s.length
            · have d2 : decide ((p : Int) + (n : Int) < (s.length : Int)) = true := by simp; omega
              have hyl : y + n < s.length := by omega
              have e1 : (0 : Int) ≤ (p : Int) + (n : Int) := by omega
              have e2 : ((p : Int) + (n : Int)).toNat = p + n := by omega
              have e3 : (p : Int) + (n : Int) < (s.length : Int) := by omega
              have f1 : (0 : Int) ≤ (y : Int) + (n : Int) := by omega
              have f2 : ((y : Int) + (n : Int)).toNat = y + n := by omega
              have f3 : (y : Int) + (n : Int) < (s.length : Int) := by omega
              obtain ⟨a, ha⟩ : ∃ a, (⟨s.toArray⟩ : ByteArray)[y + n]'hyl = a := ⟨_, rfl⟩
              obtain ⟨b', hb'⟩ : ∃ b', (⟨s.toArray⟩ : ByteArray)[p + n]'hpn = b' := ⟨_, rfl⟩
              have hga : s.getD (p + n) 0 = b' := by rw [List.getD_eq_getElem?_getD, List.getElem?_eq_getElem hpn]; exact hb'
              have hgb : s.getD (p + n - (p - y)) 0 = a := by rw [show p + n - (p - y) = y + n from by omega, List.getD_eq_getElem?_getD, List.getElem?_eq_getElem hyl]; exact ha
              have h64 : 64 - n = (63 - n) + 1 := by omega
              rw [h64, comeF, hga, hgb] at hcn
              have HCN := hide hcn
              clear hcn hga hgb h64
              by_cases hab : a = b'
              · subst hab
                have g1 : ((a.toNat : Int) == (a.toNat : Int)) = true := by simp
                go_wp2_with fail
                go_quiet (fail)
                go_wp2_with fail
                go_roundw
                case rel =>
                  refine ⟨n + 1, by omega, by omega, by go_num, ?_, below_drewN hbeln _⟩
                  rw [unhide HCN, if_pos ⟨hpn, by first | trivial | rfl⟩, show 64 - (n + 1) = 63 - n from by omega]
                case measure => simp [intOf]; omega
              · have g1 : ((a.toNat : Int) == (b'.toNat : Int)) = false := by
                  rw [beq_eq_false_iff_ne]; intro h
                  exact hab (UInt8.toNat_inj.1 (by omega))
                have hfin : c = n := by rw [unhide HC, unhide HCN, if_neg (fun h => hab h.2.symm)]
                subst hfin
                clear hab
                go_wp2_with fail
                go_quiet (fail)
                go_wp2_with fail
                all_goals
                  have hh := unhide HH
                  have hbe : Below w1.heap.size w1 (wr.drewN nq) := below_drewN hbeln _
                  refine ⟨⟨y, by omega, by rw [unhide HLL], ?_, ?_, by first | exact hbe | exact below_drewN hbe _⟩, by simp [intOf] <;> omega⟩
                  all_goals first
                    | (rw [if_neg (by omega)] at hh; rw [hh])
                    | (rw [if_pos (by omega)] at hh; rw [hh]; first | done | rfl | (apply congrArg <;> omega) | (rw [r2]; apply congrArg <;> omega))
            · have d2 : decide ((p : Int) + (n : Int) < (s.length : Int)) = false := by simp; omega
              have hfin : c = n := by rw [unhide HC, hcn, show 64 - n = (63 - n) + 1 from by omega, comeF, if_neg (fun h => hpn h.1)]
              subst hfin
              clear hcn
              go_wp2_with fail
              go_quiet (fail)
              go_wp2_with fail
              all_goals
                have hh := unhide HH
                have hbe : Below w1.heap.size w1 (wr.drewN nq) := below_drewN hbeln _
                refine ⟨⟨y, by omega, by rw [unhide HLL], ?_, ?_, by first | exact hbe | exact below_drewN hbe _⟩, by simp [intOf] <;> omega⟩
                all_goals first
                  | (rw [if_neg (by omega)] at hh; rw [hh])
                  | (rw [if_pos (by omega)] at hh; rw [hh]; first | done | rfl | (apply congrArg <;> omega) | (rw [r2]; apply congrArg <;> omega))
          · have d1 : decide ((n : Int) < 64) = false := by simp; omega
            have hfin : c = n := by rw [unhide HC, hcn, show 64 - n = 0 from by omega, comeF]
            subst hfin
            clear hcn
            go_wp2_with fail
            go_quiet (fail)
            go_wp2_with fail
            all_goals
              have hh := unhide HH
              have hbe : Below w1.heap.size w1 (wr.drewN nq) := below_drewN hbeln _
              refine ⟨⟨y, by omega, by rw [unhide HLL], ?_, ?_, by first | exact hbe | exact below_drewN hbe _⟩, by simp [intOf] <;> omega⟩
              all_goals first
                | (rw [if_neg (by omega)] at hh; rw [hh])
                | (rw [if_pos (by omega)] at hh; rw [hh]; first | done | rfl | (apply congrArg <;> omega) | (rw [r2]; apply congrArg <;> omega))

end Go.Proofs.Ytgfkkjcnnecefaa
