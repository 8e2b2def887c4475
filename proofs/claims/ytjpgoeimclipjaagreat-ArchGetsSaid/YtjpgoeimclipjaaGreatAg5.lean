/- Parts of a proof. -/
import Derived.Test.YtjpgoeimclipjaaGreatAg4
import Derived.Test.YtjpgoeimclipjaaGreatShelf
import Derived.Deep.QuietTactic
import Derived.BigQuiet
import Derived.Maps.OwnOps
import Derived.Maps.Views
import Derived.Maps.RangeWalk
import Derived.Shelf.SlSortCmp.WholeK
import Derived.Test.YtjpgoeimclipjaaGreatShelfB
import Derived.Deep.RegionHeld3
import Derived.Shelf.SlSortCmp.NoneTotal
namespace Go.Proofs.YtjpgoeimclipjaaGreat
open Go.RowKit Go.Lib Pl
attribute [local go_sem] ext_list app_list
theorem within_any (a b c : Int) (w : World) : Calls Tryz.prog 78 #[I a, I b, I c] w fun e w' => e = .returned (.bool (decide (b ≤ a ∧ a ≤ c))) ∧ w = w' := by
  by_cases h1 : b ≤ a
  · by_cases h2 : a ≤ c
    · rw [decide_eq_true ⟨h1, h2⟩]
      go_enter Tryz.func78, Tryz.ntmps78
      go_wp2
      go_ret
      exact ⟨rfl, rfl⟩
    · rw [decide_eq_false (by omega)]
      go_enter Tryz.func78, Tryz.ntmps78
      go_wp2
      go_ret
      exact ⟨rfl, rfl⟩
  · rw [decide_eq_false (by omega)]
    go_enter Tryz.func78, Tryz.ntmps78
    go_wp2
    go_ret
    exact ⟨rfl, rfl⟩
theorem within_yes (a b c : Int) (w : World) (h : b ≤ a ∧ a ≤ c) : Calls Tryz.prog 78 #[I a, I b, I c] w fun e w' => e = .returned (.bool true) ∧ w = w' :=
  (within_any a b c w).mono fun _ _ ⟨he, hw⟩ => ⟨by rw [he, decide_eq_true h], hw⟩
theorem within_no (a b c : Int) (w : World) (h : ¬ (b ≤ a ∧ a ≤ c)) : Calls Tryz.prog 78 #[I a, I b, I c] w fun e w' => e = .returned (.bool false) ∧ w = w' :=
  (within_any a b c w).mono fun _ _ ⟨he, hw⟩ => ⟨by rw [he, decide_eq_false h], hw⟩
theorem slice_one {s : Bytes} {a : Nat} {c : UInt8} (h : s[a]? = some c) : slice s a (a + 1) = [c] := by
  unfold slice
  rw [List.take_add_one, h]
  have : a < s.length := (List.getElem?_eq_some_iff.1 h).1
  rw [List.drop_append_of_le_length (by simp; omega), List.drop_of_length_le (by simp; omega)]
  rfl
/-- the tok before the k-th is as it is -/
def prevLit (l : List Tok) (k : Nat) : Bool := decide (0 < k) && (match l[k - 1]? with | some t => isLit t | none => false)
theorem prevLit_succ {l : List Tok} {k : Nat} {t : Tok} (h : l[k]? = some t) : prevLit l (k + 1) = isLit t := by
  unfold prevLit; simp [h]
set_option maxHeartbeats 4000000 in
set_option maxRecDepth 100000 in
theorem checkToks_walk (dict : Bytes) (A : Option Addr) (n cap : Nat) (l : List Tok) (w : World) (hl : ToksAt w w.heap.size A n l) (hd : dict.length ≤ 256) (hn : n ≤ 4611686018427387904) :
    Calls Tryz.prog 142 #[S dict, .slice A n cap] w fun e w' => e = .returned (.tuple #[S (play dict l).1, I (play dict l).2]) ∧ Below w.heap.size w w' := by
  go_enter Tryz.func142, Tryz.ntmps142
  go_wp2_with fail
  go_loopw [6, 7] (fun sv i wr => ∃ (k : Nat) (s : Bytes), k ≤ n ∧ i = .int .i64 k ∧ sv = S s ∧ dict.length ≤ s.length ∧ s.length ≤ dict.length + 512 ∧
      playF dict.length s (prevLit l k) (l.drop k) = play dict l ∧ Below w.heap.size w wr)
    (fun _ i _ => n - (intOf i).toNat)
  case atStart =>
    refine ⟨0, dict, by omega, rfl, rfl, by omega, by omega, ?_, Below.refl _ _⟩
    unfold play; rw [if_neg (by unfold maxDict; omega)]; rfl
  case round =>
    obtain ⟨k, s, hk, rfl, rfl, hs1, hs2, hpl, hbel⟩ := hrel
    have hd0 : (0 : Int) ≤ (s.length : Int) - (dict.length : Int) := by omega
    have hd1 : (s.length : Int) - (dict.length : Int) ≤ 512 := by omega
    by_cases hkn : k < n
    · obtain ⟨b, off, rfl, hb, hc⟩ := (hl.below hbel).2 (by omega)
      have hkl : k < l.length := by have := hl.1; omega
      have hbw : b < wr.heap.size := Nat.lt_of_lt_of_le hb hbel.size
      obtain ⟨t, ht⟩ : ∃ t, l[k]? = some t := ⟨_, List.getElem?_eq_getElem hkl⟩
      obtain ⟨q0, q1, q2⟩ := hc k t ht
      obtain ⟨tl, tf, tn⟩ := t
      by_cases hlit : tl = []
      · subst hlit
        have HP := hide hpl
        have HT := hide ht
        clear hpl ht hc
        by_cases h1 : 3 ≤ tn ∧ tn ≤ 64
        · obtain ⟨h1, h2⟩ := h1
          by_cases h3 : 1 ≤ tf ∧ tf ≤ (s.length : Int)
          · obtain ⟨h3, h4⟩ := h3
            obtain ⟨f, rfl⟩ := Int.eq_ofNat_of_zero_le (show 0 ≤ tf by omega)
            obtain ⟨m, rfl⟩ := Int.eq_ofNat_of_zero_le (show 0 ≤ tn by omega)
            have hgd : ¬ ((m : Int) < 3 ∨ 64 < (m : Int) ∨ (f : Int) < 1 ∨ (s.length : Int) < (f : Int)) := by omega
            by_cases h5 : 512 < m + (s.length - dict.length)
            · have hE : tokE dict.length s (prevLit l k) ⟨[], f, m⟩ = 2 := by unfold tokE; rw [if_neg (by simp), if_neg hgd, if_pos (by show 512 < (m : Int) + _; omega)]
              have HE := hide hE
              have h6 : 512 - ((s.length : Int) - (dict.length : Int)) < (m : Int) := by omega
              clear hE hgd
              go_wp2_with ((go_at_call 78; first | (refine (within_yes _ _ _ _ ⟨by omega, by omega⟩).mono ?_; rintro e w1 ⟨rfl, rfl⟩) | (refine (within_no _ _ _ _ (by omega)).mono ?_; rintro e w1 ⟨rfl, rfl⟩)))
              go_ret2
              rw [← unhide HP, drop_cons (unhide HT), playF, if_pos (by rw [unhide HE]; omega), unhide HE]
              exact ⟨rfl, hbel.alloc hbel.size _⟩
            · have hE : tokE dict.length s (prevLit l k) ⟨[], f, m⟩ = 0 := by unfold tokE; rw [if_neg (by simp), if_neg hgd, if_neg (by show ¬ 512 < (m : Int) + _; omega)]
              have HE := hide hE
              have h6 : (m : Int) ≤ 512 - ((s.length : Int) - (dict.length : Int)) := by omega
              have h6n : decide (512 - ((s.length : Int) - (dict.length : Int)) < (m : Int)) = false := by simp; omega
              have h4n : decide (s.length < f) = false := by simp; omega
              clear hE hgd
              go_wp2_with ((go_at_call 78; first | (refine (within_yes _ _ _ _ ⟨by omega, by omega⟩).mono ?_; rintro e w1 ⟨rfl, rfl⟩) | (refine (within_no _ _ _ _ (by omega)).mono ?_; rintro e w1 ⟨rfl, rfl⟩)))
              obtain ⟨wo, hwo⟩ : ∃ wo : World, wo = wr := ⟨_, rfl⟩
              go_loop [6, 9] (fun sv i => ∃ j : Nat, j ≤ m ∧ i = .int .i64 j ∧ sv = S (copyB j f s)) (fun _ i => m - (intOf i).toNat)
              case atStart => exact ⟨0, by omega, rfl, rfl⟩
              case round =>
                obtain ⟨j, hj, rfl, rfl⟩ := hrel
                have hcl := copyB_len j f s
                obtain ⟨s', hs'⟩ : ∃ s', s' = copyB j f s := ⟨_, rfl⟩
                rw [← hs'] at hcl
                rw [← hs']
                have HS := hide hs'
                by_cases hjm : j < m
                · obtain ⟨a, ha⟩ : ∃ a : Nat, a = s'.length - f := ⟨_, rfl⟩
                  have ha1 : (s'.length : Int) - (f : Int) = (a : Int) := by omega
                  have ha2 : a < s'.length := by omega
                  obtain ⟨c, hcc⟩ : ∃ c, s'[a]? = some c := ⟨_, List.getElem?_eq_getElem ha2⟩
                  have hso := slice_one hcc
                  have hb3 : s'.length ≤ 832 := by omega
                  have HCC := hide hcc
                  have HA := hide ha
                  clear hcl hs' hcc ha hwo
                  go_wp2_with fail
                  go_round
                  case rel =>
                    refine ⟨j + 1, by omega, by go_num, ?_⟩
                    rw [copyB_snoc, ← unhide HS, ← unhide HA, List.getD_eq_getElem?_getD, unhide HCC]
                    rfl
                  case measure => simp [intOf]; omega
                · have hjm2 : j = m := by omega
                  have HJ := hide hjm2
                  have hb3 : s'.length ≤ dict.length + 512 := by omega
                  have hb4 : dict.length ≤ s'.length := by omega
                  clear hcl hs' hjm2 hwo
                  go_wp2_with fail
                  go_roundw
                  case rel =>
                    refine ⟨k + 1, s', by omega, by go_num, rfl, hb4, hb3, ?_, hbel.alloc hbel.size _⟩
                    have e1 : tokS s ⟨[], f, m⟩ = s' := by rw [unhide HS, unhide HJ]; simp [tokS]
                    rw [← unhide HP, drop_cons (unhide HT), playF, if_neg (by rw [unhide HE]; omega), prevLit_succ (unhide HT), e1]
                  case measure => simp [intOf]; omega
          · have hE : tokE dict.length s (prevLit l k) ⟨[], tf, tn⟩ = 1 := by unfold tokE; rw [if_neg (by simp), if_pos (by show tn < 3 ∨ 64 < tn ∨ tf < 1 ∨ (s.length : Int) < tf; omega)]
            have HE := hide hE
            clear hE
            go_wp2_with ((go_at_call 78; first | (refine (within_yes _ _ _ _ ⟨by omega, by omega⟩).mono ?_; rintro e w1 ⟨rfl, rfl⟩) | (refine (within_no _ _ _ _ (by omega)).mono ?_; rintro e w1 ⟨rfl, rfl⟩)))
            go_ret2
            rw [← unhide HP, drop_cons (unhide HT), playF, if_pos (by rw [unhide HE]; omega), unhide HE]
            exact ⟨rfl, hbel.alloc hbel.size _⟩
        · have hE : tokE dict.length s (prevLit l k) ⟨[], tf, tn⟩ = 1 := by unfold tokE; rw [if_neg (by simp), if_pos (by show tn < 3 ∨ 64 < tn ∨ tf < 1 ∨ (s.length : Int) < tf; omega)]
          have HE := hide hE
          clear hE
          go_wp2_with ((go_at_call 78; first | (refine (within_yes _ _ _ _ ⟨by omega, by omega⟩).mono ?_; rintro e w1 ⟨rfl, rfl⟩) | (refine (within_no _ _ _ _ (by omega)).mono ?_; rintro e w1 ⟨rfl, rfl⟩)))
          go_ret2
          rw [← unhide HP, drop_cons (unhide HT), playF, if_pos (by rw [unhide HE]; omega), unhide HE]
          exact ⟨rfl, hbel.alloc hbel.size _⟩
      · have hl1 : tl.isEmpty = false := by simpa using hlit
        have hl2 : (tl == []) = false := by simpa using hlit
        have HL := hide hlit
        have HP := hide hpl
        have HT := hide ht
        have HCELL := hide hc
        clear hlit hpl ht hc
        by_cases h1 : tf = 0
        · subst h1
          by_cases h2 : tn = 0
          · subst h2
            by_cases hk0 : 0 < k
            · have hk1 : k - 1 < l.length := by omega
              obtain ⟨tp, htp⟩ : ∃ t, l[k - 1]? = some t := ⟨_, List.getElem?_eq_getElem hk1⟩
              obtain ⟨r0, _, _⟩ := (unhide HCELL) (k - 1) tp htp
              obtain ⟨pl, pf, pn⟩ := tp
              have hv : prevLit l k = !pl.isEmpty := by unfold prevLit; rw [htp]; simp [hk0, isLit]
              have hj2 : ((k : Int) - 1).toNat = k - 1 := by omega
              clear htp
              by_cases hpe : pl = []
              · subst hpe
                have HV := hide (show prevLit l k = false by rw [hv]; rfl)
                clear hv
                by_cases h4 : 512 < tl.length + (s.length - dict.length)
                · have hE : tokE dict.length s (prevLit l k) ⟨tl, 0, 0⟩ = 2 := by rw [unhide HV]; simp [tokE, unhide HL, h4]
                  have HE := hide hE
                  have h5 : 512 - ((s.length : Int) - (dict.length : Int)) < (tl.length : Int) := by omega
                  clear hE
                  go_wp2_with fail
                  go_ret2
                  rw [← unhide HP, drop_cons (unhide HT), playF, if_pos (by rw [unhide HE]; omega), unhide HE]
                  exact ⟨rfl, hbel.alloc hbel.size _⟩
                · have hE : tokE dict.length s (prevLit l k) ⟨tl, 0, 0⟩ = 0 := by rw [unhide HV]; simp [tokE, unhide HL]; omega
                  have HE := hide hE
                  have h5 : (tl.length : Int) ≤ 512 - ((s.length : Int) - (dict.length : Int)) := by omega
                  clear hE
                  go_wp2_with fail
                  go_roundw
                  case rel =>
                    refine ⟨k + 1, s ++ tl, by omega, by go_num, rfl, by rw [List.length_append]; omega, by rw [List.length_append]; omega, ?_, hbel.alloc hbel.size _⟩
                    have e1 : tokS s ⟨tl, 0, 0⟩ = s ++ tl := by simp [tokS, unhide HL]
                    rw [← unhide HP, drop_cons (unhide HT), playF, if_neg (by rw [unhide HE]; omega), prevLit_succ (unhide HT), e1]
                  case measure => simp [intOf]; omega
              · have hp1 : pl.isEmpty = false := by simpa using hpe
                have hp2 : (pl == []) = false := by simpa using hpe
                have hE : tokE dict.length s (prevLit l k) ⟨tl, 0, 0⟩ = 1 := by rw [hv, hp1]; simp [tokE, unhide HL]
                have HE := hide hE
                clear hpe hE hv
                go_wp2_with fail
                go_ret2
                rw [← unhide HP, drop_cons (unhide HT), playF, if_pos (by rw [unhide HE]; omega), unhide HE]
                exact ⟨rfl, hbel.alloc hbel.size _⟩
            · have hk1 : k < 1 := by omega
              have HV := hide (show prevLit l k = false by unfold prevLit; simp [hk0])
              by_cases h4 : 512 < tl.length + (s.length - dict.length)
              · have hE : tokE dict.length s (prevLit l k) ⟨tl, 0, 0⟩ = 2 := by rw [unhide HV]; simp [tokE, unhide HL, h4]
                have HE := hide hE
                have h5 : 512 - ((s.length : Int) - (dict.length : Int)) < (tl.length : Int) := by omega
                clear hE
                go_wp2_with fail
                go_ret2
                rw [← unhide HP, drop_cons (unhide HT), playF, if_pos (by rw [unhide HE]; omega), unhide HE]
                exact ⟨rfl, hbel.alloc hbel.size _⟩
              · have hE : tokE dict.length s (prevLit l k) ⟨tl, 0, 0⟩ = 0 := by rw [unhide HV]; simp [tokE, unhide HL]; omega
                have HE := hide hE
                have h5 : (tl.length : Int) ≤ 512 - ((s.length : Int) - (dict.length : Int)) := by omega
                clear hE
                go_wp2_with fail
                go_roundw
                case rel =>
                  refine ⟨k + 1, s ++ tl, by omega, by go_num, rfl, by rw [List.length_append]; omega, by rw [List.length_append]; omega, ?_, hbel.alloc hbel.size _⟩
                  have e1 : tokS s ⟨tl, 0, 0⟩ = s ++ tl := by simp [tokS, unhide HL]
                  rw [← unhide HP, drop_cons (unhide HT), playF, if_neg (by rw [unhide HE]; omega), prevLit_succ (unhide HT), e1]
                case measure => simp [intOf]; omega
          · have z1 : (tn == 0) = false := beq_eq_false_iff_ne.2 h2
            have z2 : (tn != 0) = true := by rw [bne_iff_ne]; exact h2
            have hE : tokE dict.length s (prevLit l k) ⟨tl, 0, tn⟩ = 1 := by simp [tokE, unhide HL, h2]
            have HE := hide hE
            clear h2 hE
            go_wp2_with fail
            go_ret2
            rw [← unhide HP, drop_cons (unhide HT), playF, if_pos (by rw [unhide HE]; omega), unhide HE]
            exact ⟨rfl, hbel.alloc hbel.size _⟩
        · have z1 : (tf == 0) = false := beq_eq_false_iff_ne.2 h1
          have z2 : (tf != 0) = true := by rw [bne_iff_ne]; exact h1
          have hE : tokE dict.length s (prevLit l k) ⟨tl, tf, tn⟩ = 1 := by simp [tokE, unhide HL, h1]
          have HE := hide hE
          clear h1 hE
          go_wp2_with fail
          go_ret2
          rw [← unhide HP, drop_cons (unhide HT), playF, if_pos (by rw [unhide HE]; omega), unhide HE]
          exact ⟨rfl, hbel.alloc hbel.size _⟩
    · have hkn2 : k = n := by omega
      have hpl2 : play dict l = (slice s dict.length s.length, 0) := by
        rw [← hpl, hkn2, List.drop_of_length_le (by have := hl.1; omega), playF, slice_end]
      have HP := hide hpl2
      clear hpl2 hkn2 hpl
      go_wp2_with fail
      go_ret2
      rw [unhide HP]
      exact ⟨rfl, hbel⟩
set_option maxHeartbeats 1000000 in
set_option maxRecDepth 100000 in
theorem checkToks_many (dict : Bytes) (A : Option Addr) (n cap : Nat) (w : World) (hd : 256 < dict.length) (hd2 : dict.length ≤ 9223372036854775807) :
    Calls Tryz.prog 142 #[S dict, .slice A n cap] w fun e w' => e = .returned (.tuple #[S [], I 2]) ∧ Below w.heap.size w w' := by
  go_enter Tryz.func142, Tryz.ntmps142
  go_wp2_with fail
  go_ret2
  exact ⟨rfl, Below.refl _ _⟩
theorem checkToks_any (dict : Bytes) (A : Option Addr) (n cap : Nat) (l : List Tok) (w : World) (hl : ToksAt w w.heap.size A n l) (hd : dict.length ≤ 9223372036854775807) (hn : n ≤ 4611686018427387904) :
    Calls Tryz.prog 142 #[S dict, .slice A n cap] w fun e w' => e = .returned (.tuple #[S (play dict l).1, I (play dict l).2]) ∧ Below w.heap.size w w' := by
  by_cases h : dict.length ≤ 256
  · exact checkToks_walk dict A n cap l w hl h hn
  · have e : play dict l = ([], 2) := by unfold play; exact if_pos (by unfold maxDict; omega)
    rw [e]; exact checkToks_many dict A n cap w (by omega) hd
end Go.Proofs.YtjpgoeimclipjaaGreat
namespace Go.Proofs.YtjpgoeimclipjaaGreat
open Go.RowKit Go.Lib Pl
theorem pw_wrap (m : Nat) : wrap64 ((2 : Int) ^ (15 - m)) = (pw m : Int) := by
  have h : (2 : Int) ^ (15 - m) = ((pw m : Nat) : Int) := by unfold pw; norm_cast
  have := pw_le m
  rw [h]; exact IntWalk.wrap64_in _ ⟨by omega, by omega⟩
theorem kr1_zero {x : Int} (h : ¬ 0 < x) : kr1 x = 0 := by unfold kr1; rw [if_neg h]
theorem kr1_pos {m : Nat} (h : 0 < m) : kr1 (m : Int) = pw m := by unfold kr1; rw [if_pos (by omega)]; rfl
theorem kr_take_le (l : List Int) (k : Nat) (hk : k ≤ 16) : kr (l.take k) ≤ 524288 := by
  have := kr_le (l.take k)
  rw [List.length_take] at this
  omega
set_option maxHeartbeats 2000000 in
set_option maxRecDepth 100000 in
theorem checkCode_any (l : List Int) (w : World) (hl : l.length = 16) :
    Calls Tryz.prog 175 #[A16 l] w fun e w' => e = .returned (I (checkE l)) ∧ Below w.heap.size w w' := by
  have hg0 := heap_alloc_new w (.cells (cells16 l) 145)
  have HG0 := hide hg0
  have HL := hide hl
  have hbel := (Below.refl w.heap.size w).alloc (Nat.le_refl _) (.cells (cells16 l) 145)
  have HBEL := hide hbel
  clear hl hg0 hbel
  go_enter Tryz.func175, Tryz.ntmps175
  go_wp2_with (first | (refine wpList_load16 rfl (.tmp 1) rfl w.heap.size rfl l (unhide HL) (unhide HG0) ?_) | fail)
  go_loop [3, 5, 7] (fun s _ i => ∃ (k : Nat) (r : Int), k ≤ 16 ∧ i = .int .i64 k ∧ s = .int .i64 r ∧ r = 32768 - (kr (l.take k) : Int) ∧ (l.take k).any badL = false) (fun _ _ i => 16 - (intOf i).toNat)
  case atStart => exact ⟨0, 32768, by omega, rfl, rfl, by simp [kr], by simp⟩
  case round =>
    obtain ⟨k, r, hk, rfl, rfl, hr, hnb⟩ := hrel
    have hkl := kr_take_le l k hk
    have hr1 : -1000000 ≤ r := by omega
    have hr2 : r ≤ 32768 := by omega
    have HR := hide hr
    have HNB := hide hnb
    clear hr hnb hkl
    by_cases hk16 : k < 16
    · obtain ⟨x, hx⟩ : ∃ x, l[k]? = some x := ⟨_, List.getElem?_eq_getElem (by have := unhide HL; omega)⟩
      have hix := run_index16 l (unhide HL) k x hx
      have HX := hide hx
      clear hx
      by_cases hb : x < 0 ∨ 15 < x
      · have hres : checkE l = 3 := checkE_bad (bad_of_take (k := k + 1) (by rw [bad_take (unhide HX)]; simp [badL, hb]))
        have HRES := hide hres
        have hsz : (x < 0) ∨ (decide (x < 0) = false ∧ 15 < x) := by
          rcases hb with h | h
          · exact .inl h
          · exact .inr ⟨by simp; omega, h⟩
        clear hres hb
        rcases hsz with h0 | ⟨h0, h1⟩
        all_goals
          go_wp2_with fail
          go_ret
          exact ⟨by rw [unhide HRES]; rfl, unhide HBEL⟩
      · have hnb2 : (l.take (k + 1)).any badL = false := by rw [bad_take (unhide HX), unhide HNB]; simp [badL]; omega
        have HN2 := hide hnb2
        obtain ⟨m, rfl⟩ := Int.eq_ofNat_of_zero_le (show 0 ≤ x by omega)
        have hm15 : m ≤ 15 := by omega
        have d1 : decide ((m : Int) < 0) = false := by simp
        have hkt := kr_take (unhide HX)
        have HKT := hide hkt
        have hpw := pw_wrap m
        have hpl := pw_le m
        clear hnb2 hkt hb
        by_cases hp : 0 < m
        · have hk1 := kr1_pos hp
          have HK1 := hide hk1
          clear hk1
          go_wp2_with fail
          go_round
          case rel => exact ⟨k + 1, r - (pw m : Nat), by omega, by go_num, rfl, by rw [unhide HR, unhide HKT, unhide HK1]; omega, unhide HN2⟩
          case measure => simp [intOf]; omega
        · have hk1 := kr1_zero (x := (m : Int)) (by omega)
          have HK1 := hide hk1
          clear hk1
          go_wp2_with fail
          go_round
          case rel => exact ⟨k + 1, r, by omega, by go_num, rfl, by rw [unhide HR, unhide HKT, unhide HK1]; omega, unhide HN2⟩
          case measure => simp [intOf]; omega
    · have hfin : l.take k = l := List.take_of_length_le (by have := unhide HL; omega)
      have hnb := unhide HNB
      have hr := unhide HR
      rw [hfin] at hnb hr
      by_cases hbad : kr l = 0 ∨ 32768 < kr l
      · have hres := checkE_form hnb hbad
        have HRES := hide hres
        have hsz : (r < 0) ∨ (decide (r < 0) = false ∧ (r == 32768) = true) := by
          rcases hbad with h | h
          · exact .inr ⟨by simp; omega, by rw [beq_iff_eq]; omega⟩
          · exact .inl (by omega)
        clear hres hbad hnb hr hfin
        rcases hsz with h0 | ⟨h0, h1⟩
        all_goals
          go_wp2_with fail
          go_ret
          exact ⟨by rw [unhide HRES]; rfl, unhide HBEL⟩
      · have hres := checkE_ok hnb hbad
        have HRES := hide hres
        have h0 : decide (r < 0) = false := by simp; omega
        have h1 : (r == 32768) = false := by rw [beq_eq_false_iff_ne]; omega
        clear hres hbad hnb hr hfin
        go_wp2_with fail
        go_ret
        exact ⟨by rw [unhide HRES]; rfl, unhide HBEL⟩
set_option maxHeartbeats 2000000 in
set_option maxRecDepth 100000 in
/-- the reference's own -/
theorem checkCodeR_any (l : List Int) (w : World) (hl : l.length = 16) :
    Calls Tryz.prog 137 #[A16 l] w fun e w' => e = .returned (I (checkE l)) ∧ Below w.heap.size w w' := by
  have hg0 := heap_alloc_new w (.cells (cells16 l) 145)
  have HG0 := hide hg0
  have HL := hide hl
  have hbel := (Below.refl w.heap.size w).alloc (Nat.le_refl _) (.cells (cells16 l) 145)
  have HBEL := hide hbel
  clear hl hg0 hbel
  go_enter Tryz.func137, Tryz.ntmps137
  go_wp2_with fail
  go_loop [3, 4, 5] (fun s u i => ∃ (k r : Nat) (b : Bool), k ≤ 16 ∧ i = .int .i64 k ∧ s = .int .i64 r ∧ u = .bool b ∧ r = kr (l.take k) ∧ (l.take k).any badL = false ∧ b = decide (0 < r)) (fun _ _ i => 16 - (intOf i).toNat)
  case atStart => exact ⟨0, 0, false, by omega, rfl, rfl, rfl, by simp [kr], by simp, rfl⟩
  case round =>
    obtain ⟨k, r, b, hk, rfl, rfl, rfl, hr, hnb, hbb⟩ := hrel
    have hkl := kr_take_le l k hk
    have hr2 : r ≤ 524288 := by omega
    have HR := hide hr
    have HNB := hide hnb
    have HBB := hide hbb
    clear hr hnb hkl hbb
    by_cases hk16 : k < 16
    · obtain ⟨x, hx⟩ : ∃ x, l[k]? = some x := ⟨_, List.getElem?_eq_getElem (by have := unhide HL; omega)⟩
      have hc := cell16 (unhide HG0) hx
      have HX := hide hx
      clear hx
      by_cases hb : x < 0 ∨ 15 < x
      · have hres : checkE l = 3 := checkE_bad (bad_of_take (k := k + 1) (by rw [bad_take (unhide HX)]; simp [badL, hb]))
        have HRES := hide hres
        have C1 := hide (fun (W : World) => within_no x 0 15 W (by omega))
        clear hres hb
        go_wp2_with (go_at_call 78; refine (unhide C1 _).mono ?_; rintro e w1 ⟨rfl, rfl⟩)
        go_ret
        exact ⟨by rw [unhide HRES]; rfl, unhide HBEL⟩
      · have hnb2 : (l.take (k + 1)).any badL = false := by rw [bad_take (unhide HX), unhide HNB]; simp [badL]; omega
        have HN2 := hide hnb2
        obtain ⟨m, rfl⟩ := Int.eq_ofNat_of_zero_le (show 0 ≤ x by omega)
        have hm15 : m ≤ 15 := by omega
        have C1 := hide (fun (W : World) => within_yes (m : Int) 0 15 W ⟨by omega, by omega⟩)
        have hkt := kr_take (unhide HX)
        have HKT := hide hkt
        have hpw := pw_wrap m
        have hpl := pw_le m
        have hpp := pw_pos m
        clear hnb2 hkt hb
        by_cases hp : 0 < m
        · have hk1 := kr1_pos hp
          have HK1 := hide hk1
          clear hk1
          go_wp2_with (go_at_call 78; refine (unhide C1 _).mono ?_; rintro e w1 ⟨rfl, rfl⟩)
          go_round
          case rel => exact ⟨k + 1, r + pw m, true, by omega, by go_num, by go_num, rfl, by rw [unhide HR, unhide HKT, unhide HK1], unhide HN2, by simp; omega⟩
          case measure => simp [intOf]; omega
        · have hk1 := kr1_zero (x := (m : Int)) (by omega)
          have HK1 := hide hk1
          clear hk1
          go_wp2_with (go_at_call 78; refine (unhide C1 _).mono ?_; rintro e w1 ⟨rfl, rfl⟩)
          go_round
          case rel => exact ⟨k + 1, r, b, by omega, by go_num, rfl, rfl, by rw [unhide HR, unhide HKT, unhide HK1]; omega, unhide HN2, unhide HBB⟩
          case measure => simp [intOf]; omega
    · have hfin : l.take k = l := List.take_of_length_le (by have := unhide HL; omega)
      have hnb := unhide HNB
      have hr := unhide HR
      have hbb := unhide HBB
      rw [hfin] at hnb hr
      by_cases h0 : r = 0
      · have hb0 : b = false := by rw [hbb, h0]; rfl
        subst hb0
        have hres := checkE_form hnb (.inl (by omega))
        have HRES := hide hres
        clear hres hnb hr hfin hbb h0
        go_wp2_with fail
        go_ret
        exact ⟨by rw [unhide HRES]; rfl, unhide HBEL⟩
      · have hb1 : b = true := by rw [hbb]; simp; omega
        subst hb1
        by_cases hbig : 32768 < r
        · have hres := checkE_form hnb (.inr (by omega))
          have HRES := hide hres
          clear hres hnb hr hfin hbb h0
          go_wp2_with fail
          go_ret
          exact ⟨by rw [unhide HRES]; rfl, unhide HBEL⟩
        · have hres := checkE_ok hnb (by omega)
          have HRES := hide hres
          clear hres hnb hr hfin hbb h0
          go_wp2_with fail
          go_ret
          exact ⟨by rw [unhide HRES]; rfl, unhide HBEL⟩
end Go.Proofs.YtjpgoeimclipjaaGreat
namespace Go.Proofs.YtjpgoeimclipjaaGreat
open Go.RowKit Go.Lib Pl
theorem fold_min_ge : ∀ (l : List Int) (a b : Int), b ≤ l.foldl min a ↔ b ≤ a ∧ ∀ x ∈ l, b ≤ x
  | [], a, b => by simp
  | x :: l, a, b => by
    rw [List.foldl_cons, fold_min_ge l]
    simp only [List.mem_cons, forall_eq_or_imp]
    constructor
    · rintro ⟨h1, h2⟩; exact ⟨by omega, by omega, h2⟩
    · rintro ⟨h1, h2, h3⟩; exact ⟨by omega, h3⟩
theorem fold_max_le : ∀ (l : List Int) (a b : Int), l.foldl max a ≤ b ↔ a ≤ b ∧ ∀ x ∈ l, x ≤ b
  | [], a, b => by simp
  | x :: l, a, b => by
    rw [List.foldl_cons, fold_max_le l]
    simp only [List.mem_cons, forall_eq_or_imp]
    constructor
    · rintro ⟨h1, h2⟩; exact ⟨by omega, by omega, h2⟩
    · rintro ⟨h1, h2, h3⟩; exact ⟨by omega, h3⟩
theorem minOf_ge {l : List Int} (h : l ≠ []) (b : Int) : b ≤ Lib.minOf l ↔ ∀ x ∈ l, b ≤ x := by
  unfold Lib.minOf
  rw [fold_min_ge]
  cases l with
  | nil => exact absurd rfl h
  | cons a l =>
    simp only [List.headD_cons, List.mem_cons, forall_eq_or_imp]
    exact ⟨fun h => h.2, fun h => ⟨h.1, h⟩⟩
theorem maxOf_le {l : List Int} (h : l ≠ []) (b : Int) : Lib.maxOf l ≤ b ↔ ∀ x ∈ l, x ≤ b := by
  unfold Lib.maxOf
  rw [fold_max_le]
  cases l with
  | nil => exact absurd rfl h
  | cons a l =>
    simp only [List.headD_cons, List.mem_cons, forall_eq_or_imp]
    exact ⟨fun h => h.2, fun h => ⟨h.1, h⟩⟩
theorem fine_iff (c : List Int) : fineB c = true ↔ (∀ x ∈ c, 0 ≤ x) ∧ ∀ x ∈ c, x ≤ 2048 := by
  constructor
  · intro h
    have := fine_all h
    exact ⟨fun x hx => (this x hx).1, fun x hx => (this x hx).2⟩
  · rintro ⟨h1, h2⟩
    exact fine_of_all fun x hx => ⟨h1 x hx, h2 x hx⟩
set_option maxHeartbeats 1000000 in
set_option maxRecDepth 100000 in
theorem fine_any (c : List Int) (w : World) (hc : c.length = 16) :
    Calls Tryz.prog 170 #[A16 c] w fun e w' => e = .returned (.bool (fineB c)) ∧ Below w.heap.size w w' := by
  have hg0 := heap_alloc_new w (.cells (cells16 c) 145)
  have hbel := (Below.refl w.heap.size w).alloc (Nat.le_refl _) (.cells (cells16 c) 145)
  have HBEL := hide hbel
  have hne : c ≠ [] := by intro e; rw [e] at hc; simp at hc
  have hcell : ∀ j, j < c.length → (w.alloc (.cells (cells16 c) 145)).cell? ⟨w.heap.size, 0 + j, none⟩ = some (.int .i64 (c.getD j 0)) := fun j hj => by
    rw [Nat.zero_add]
    refine cell16 hg0 ?_
    rw [List.getD_eq_getElem?_getD, List.getElem?_eq_getElem hj]; rfl
  have ht : c.take 16 = c := List.take_of_length_le (by omega)
  have K1 := Tryz.slices_Min_int w.heap.size 0 16 16 c (w.alloc (.cells (cells16 c) 145)) (by omega) (by omega) (by omega) hcell
  have K2 := Tryz.slices_Max_int w.heap.size 0 16 16 c (w.alloc (.cells (cells16 c) 145)) (by omega) (by omega) (by omega) hcell
  rw [ht] at K1 K2
  have hf := fine_iff c
  rw [← minOf_ge hne, ← maxOf_le hne] at hf
  obtain ⟨a, ha⟩ : ∃ a, a = Lib.minOf c := ⟨_, rfl⟩
  obtain ⟨b, hb⟩ : ∃ b, b = Lib.maxOf c := ⟨_, rfl⟩
  rw [← ha] at K1 hf
  rw [← hb] at K2 hf
  have K1 := hide K1
  have K2 := hide K2
  clear ha hb hcell hg0 hbel ht hne
  cases hfb : fineB c with
  | true =>
    obtain ⟨h1, h2⟩ := hf.1 hfb
    clear hf hfb
    go_enter Tryz.func170, Tryz.ntmps170
    go_wp2_with (first
      | (go_at_call 196; refine (unhide K1).mono ?_; rintro e w1 ⟨rfl, rfl⟩)
      | (go_at_call 197; refine (unhide K2).mono ?_; rintro e w1 ⟨rfl, rfl⟩))
    go_ret
    exact ⟨rfl, unhide HBEL⟩
  | false =>
    have hcs : (a < 0) ∨ (0 ≤ a ∧ 2048 < b ∧ decide (b ≤ 2048) = false) := by
      by_cases h1 : a < 0
      · exact .inl h1
      · refine .inr ⟨by omega, ?_⟩
        rcases Int.lt_or_le 2048 b with h2 | h2
        · exact ⟨h2, by simp; omega⟩
        · have := hf.2 ⟨by omega, h2⟩
          rw [hfb] at this; cases this
    clear hf hfb
    rcases hcs with h1 | ⟨h1, h2, h3⟩
    all_goals
      go_enter Tryz.func170, Tryz.ntmps170
      go_wp2_with (first
        | (go_at_call 196; refine (unhide K1).mono ?_; rintro e w1 ⟨rfl, rfl⟩)
        | (go_at_call 197; refine (unhide K2).mono ?_; rintro e w1 ⟨rfl, rfl⟩))
      go_ret
      exact ⟨rfl, unhide HBEL⟩
/-- what has been summed -/
def Summed (l c : List Int) (k : Nat) (s : Int) : Prop := s = dotL (l.take k) (c.take k) ∧ lackL (l.take k) (c.take k) = false ∧ 0 ≤ s ∧ s ≤ 30720 * k
theorem Summed.step {l c : List Int} {k : Nat} {s x y : Int} (h : Summed l c k s) (hx : l[k]? = some x) (hy : c[k]? = some y) (bx : 0 ≤ x ∧ x ≤ 15) (by' : 0 ≤ y ∧ y ≤ 2048) (hl : ¬ (0 < y ∧ x = 0)) : Summed l c (k + 1) (s + y * x) := by
  obtain ⟨h1, h2, h3, h4⟩ := h
  have hm := mul_le_cost y x by' bx
  refine ⟨by rw [dot_take hx hy, h1], by rw [lack_take hx hy, h2]; simpa using hl, by omega, ?_⟩
  rw [Int.natCast_add, Int.mul_add]; omega
end Go.Proofs.YtjpgoeimclipjaaGreat
namespace Go.Proofs.YtjpgoeimclipjaaGreat
open Go.RowKit Go.Lib Pl
theorem encR_set {t u : Tr} {k : Nat} {v : Bool} (hk : k < 16) (h1 : t.1 = u.1) (h : ∀ j, j < 16 → has u j = if j = k then v else has t j) : (encR t).toArray.setIfInBounds k (.bool v) = (encR u).toArray := by
  apply Array.ext_getElem?
  intro j
  rw [Array.getElem?_setIfInBounds, List.getElem?_toArray, List.getElem?_toArray, List.size_toArray, encR_len]
  by_cases hj : j < 16
  · rw [encR_get u hj, encR_get t hj, h j hj]
    by_cases e : k = j
    · subst e; simp; omega
    · rw [if_neg e, if_neg (fun h => e h.symm)]
  · rw [if_neg (by omega)]
    by_cases e : j = 16
    · subst e; rw [encR_w, encR_w, h1]
    · rw [List.getElem?_eq_none (by rw [encR_len]; omega), List.getElem?_eq_none (by rw [encR_len]; omega)]
theorem has_def (t : Tr) (j : Nat) : has t j = decide (j ∈ t.2) := by unfold has; rfl
theorem has_mgI {a b : Tr} (ha : VT a) (hb : VT b) (i : Nat) (hi : i < 16) : ∀ j, j < 16 → has (mgI a b (i + 1)) j = if j = i then (has a i || has b i) else has (mgI a b i) j := by
  intro j hj
  rw [has_def, has_def, has_def, has_def]
  unfold mgI
  simp only
  have hm := mem_mg ha.lt hb.lt j
  by_cases e : j = i
  · subst e
    rw [if_pos rfl, ← Bool.decide_or, decide_eq_decide, List.mem_filter, hm]
    simp
  · rw [if_neg e, decide_eq_decide, List.mem_filter, List.mem_filter]
    simp only [decide_eq_true_eq]
    constructor
    · rintro ⟨h1, h2⟩; exact ⟨h1, by omega⟩
    · rintro ⟨h1, h2⟩; exact ⟨h1, by omega⟩
theorem mem_mgI {a b : Tr} (ha : VT a) (hb : VT b) (i : Nat) : (i ∈ mg a.2 b.2) ↔ (has a i || has b i) = true := by
  rw [mem_mg ha.lt hb.lt, has_def, has_def, Bool.or_eq_true, decide_eq_true_eq, decide_eq_true_eq]
theorem zero16v (w : World) : (zeroValue 145).run Tryz.prog w = .ok (A16 (Lf fun _ => 0)) w := (zero_of_info (n := 16) (by kernel_rfl)).1 w
theorem cells16_set (l : List Int) (i : Nat) (v : Int) : (cells16 l).setIfInBounds i (.int .i64 v) = cells16 (l.set i v) := by
  simp [cells16, List.map_set]
theorem cells16_one (l : List Int) : (cells16 l).all (·.oneCell') = true := by
  rw [Array.all_eq_true_iff_forall_mem]
  intro v hv
  simp only [cells16, List.mem_toArray, List.mem_map] at hv
  obtain ⟨x, _, rfl⟩ := hv
  rfl
/-- the three arrays -/
structure BAt (c L : List Int) (w wr : World) (B : Nat) : Prop where
  a : wr.heap[B]? = some (.cells (cells16 c) 145 (0, 0))
  z : wr.heap[B + 1]? = some (.cells (cells16 (Lf fun _ => 0)) 145 (0, 0))
  o : wr.heap[B + 2]? = some (.cells (cells16 L) 145 (0, 0))
  bel : Below B w wr
theorem BAt.size {c L : List Int} {w wr : World} {B : Nat} (h : BAt c L w wr B) : B + 3 ≤ wr.heap.size := (Array.getElem?_eq_some_iff.1 h.o).1
theorem BAt.below {c L : List Int} {w wr w1 : World} {B : Nat} (h : BAt c L w wr B) (hb : Below wr.heap.size wr w1) : BAt c L w w1 B := by
  have s := h.size
  exact ⟨(hb.block _ (by omega)).trans h.a, (hb.block _ (by omega)).trans h.z, (hb.block _ (by omega)).trans h.o, h.bel.trans (hb.mono (by omega))⟩
theorem BAt.below3 {c L : List Int} {w wr w1 : World} {B : Nat} (h : BAt c L w wr B) (hb : Below (B + 3) wr w1) : BAt c L w w1 B :=
  ⟨(hb.block _ (by omega)).trans h.a, (hb.block _ (by omega)).trans h.z, (hb.block _ (by omega)).trans h.o, h.bel.trans (hb.mono (by omega))⟩
theorem BAt.put {c L : List Int} {w wr : World} {B : Nat} (h : BAt c L w wr B) (i : Nat) (v : Int) : BAt c (L.set i v) w (wr.setCell ⟨B + 2, i, none⟩ (.int .i64 v)) B := by
  refine ⟨?_, ?_, ?_, ?_⟩
  · rw [heap_setCell_other _ _ _ _ (by show B ≠ B + 2; omega)]; exact h.a
  · rw [heap_setCell_other _ _ _ _ (by show B + 1 ≠ B + 2; omega)]; exact h.z
  · rw [heap_setCell_same _ _ _ _ _ _ h.o, cells16_set]
  · exact h.bel.setCell (by show B ≤ B + 2; omega) _
theorem BAt.start (c : List Int) (w : World) : BAt c (Lf fun _ => 0) w (((w.alloc (.cells (cells16 c) 145)).alloc (.cells (cells16 (Lf fun _ => 0)) 145)).alloc (.cells (cells16 (Lf fun _ => 0)) 145)) w.heap.size := by
  have e1 : (w.alloc (.cells (cells16 c) 145)).heap.size = w.heap.size + 1 := by simp
  have e2 : ((w.alloc (.cells (cells16 c) 145)).alloc (.cells (cells16 (Lf fun _ => 0)) 145)).heap.size = w.heap.size + 2 := by simp
  refine ⟨?_, ?_, ?_, (((Below.refl _ _).alloc (Nat.le_refl _) _).alloc (by simp) _).alloc (by simp; omega) _⟩
  · exact (Below.heap_alloc _ _ _ (by rw [e2]; omega)).trans (heap_alloc2_old _ _ _)
  · exact (Below.heap_alloc _ _ _ (by rw [e2]; omega)).trans (heap_alloc2_new _ _ _)
  · rw [← e2]; exact heap_alloc_new _ _
theorem BAt.res {c L : List Int} {w wr : World} {B : Nat} (h : BAt c L w wr B) (cs : Array Value) : (wr.setRow (B + 1) cs).heap[B + 1]? = some (.cells cs 145 (0, 0)) := setRow_heap _ _ _ _ _ _ h.z
theorem own_part {w : World} {base n : Nat} {v : Value} {e : TypeId} {size : Nat} {xs : List Value} (h : w.ownsRow base e size v n xs) {w' : World} (hg : ∀ k, base ≤ k → k < w.heap.size → w'.heap[k]? = w.heap[k]?) : w'.ownsRow base e size v n xs := by
  refine ⟨h.1, ?_⟩
  rcases h.2 with hn | ⟨g, cap, cur, hv, hb, hg', rest⟩
  · exact .inl hn
  · exact .inr ⟨g, cap, cur, hv, hb, (hg g hb (Array.getElem?_eq_some_iff.1 hg').1).trans hg', rest⟩
theorem sizeI : (Tryz.prog.info? 145).map (·.size) = some 16 := by kernel_rfl
theorem cells16_size {l : List Int} (h : l.length = 16) : (cells16 l).size = 16 := by simp [cells16, h]
def slLen : Value → Nat
  | .slice _ n _ => n
  | _ => 0
/-- while two trees are made one -/
structure MrgAt (c : List Int) (f : Nat → Int) (a b : Tr) (w w4 w5 : World) (B D i : Nat) : Prop where
  at_ : BAt c (Lf fun j => f j + if j < i ∧ j ∈ mg a.2 b.2 then 1 else 0) w w5 B
  o : w5.heap[D]? = some (.cells (encR (mgI a b i)).toArray 219 (0, 0))
  keep : ∀ k, B + 3 ≤ k → k < D → w5.heap[k]? = w4.heap[k]?
theorem MrgAt.set {c : List Int} {f : Nat → Int} {a b : Tr} {w w4 w5 : World} {B D i : Nat} (h : MrgAt c f a b w w4 w5 B D i) (ha : VT a) (hb : VT b) (hi : i < 16) (hBD : B + 3 ≤ D) (hn : (has a i || has b i) = false) :
    MrgAt c f a b w w4 (w5.setCell ⟨D, i, none⟩ (.bool false)) B D (i + 1) := by
  refine ⟨?_, ?_, fun k h1 h2 => ?_⟩
  · have e : Lf (fun j => f j + if j < i + 1 ∧ j ∈ mg a.2 b.2 then 1 else 0) = Lf fun j => f j + if j < i ∧ j ∈ mg a.2 b.2 then 1 else 0 := Lf_congr fun j _ => by
      congr 1
      by_cases e : j = i
      · subst e
        rw [if_neg (fun h => by have := (mem_mgI ha hb j).1 h.2; rw [hn] at this; cases this), if_neg (by omega)]
      · by_cases h1 : j < i
        · simp [h1, show j < i + 1 from by omega]
        · simp [h1, show ¬ j < i + 1 from by omega]
    rw [e]
    exact h.at_.below3 ((Below.refl _ _).setCell (by show B + 3 ≤ D; omega) _)
  · rw [heap_setCell_same _ _ _ _ _ _ h.o, encR_set (t := mgI a b i) (u := mgI a b (i + 1)) hi rfl (by rw [← hn]; exact has_mgI ha hb i hi)]
  · rw [heap_setCell_other _ _ _ _ (by show k ≠ D; omega)]; exact h.keep k h1 h2
theorem MrgAt.put {c : List Int} {f : Nat → Int} {a b : Tr} {w w4 w5 : World} {B D i : Nat} (h : MrgAt c f a b w w4 w5 B D i) (ha : VT a) (hb : VT b) (hi : i < 16) (hBD : B + 3 ≤ D) (hn : (has a i || has b i) = true) :
    MrgAt c f a b w w4 ((w5.setCell ⟨D, i, none⟩ (.bool true)).setCell ⟨B + 1 + 1, i, none⟩ (.int .i64 (f i + 1))) B D (i + 1) := by
  refine ⟨?_, ?_, fun k h1 h2 => ?_⟩
  · have e : Lf (fun j => f j + if j < i + 1 ∧ j ∈ mg a.2 b.2 then 1 else 0) = (Lf fun j => f j + if j < i ∧ j ∈ mg a.2 b.2 then 1 else 0).set i (f i + 1) := by
      rw [Lf_set]
      refine Lf_congr fun j _ => ?_
      by_cases e : j = i
      · subst e
        rw [if_pos rfl, if_pos ⟨by omega, (mem_mgI ha hb j).2 hn⟩]
      · rw [if_neg e]
        congr 1
        by_cases h1 : j < i
        · simp [h1, show j < i + 1 from by omega]
        · simp [h1, show ¬ j < i + 1 from by omega]
    rw [e]
    exact (h.at_.below3 ((Below.refl _ _).setCell (by show B + 3 ≤ D; omega) _)).put i _
  · rw [heap_setCell_other _ _ _ _ (by show D ≠ B + 1 + 1; omega), heap_setCell_same _ _ _ _ _ _ h.o, encR_set (t := mgI a b i) (u := mgI a b (i + 1)) hi rfl (by rw [← hn]; exact has_mgI ha hb i hi)]
  · rw [heap_setCell_other _ _ _ _ (by show k ≠ B + 1 + 1; omega), heap_setCell_other _ _ _ _ (by show k ≠ D; omega)]; exact h.keep k h1 h2
theorem MrgAt.len {c : List Int} {f : Nat → Int} {a b : Tr} {w w4 w5 : World} {B D i : Nat} (h : MrgAt c f a b w w4 w5 B D i) (hi : i < 16) : w5.cell? ⟨B + 1 + 1, i, none⟩ = some (.int .i64 (f i)) := by
  refine (cell16 h.at_.o (Lf_get _ hi)).trans ?_
  rw [if_neg (by omega)]; simp
theorem MrgAt.of {c : List Int} {f : Nat → Int} {a b t : Tr} {w w4 w5 : World} {B D i g : Nat} (h : MrgAt c f a b w w4 w5 B D i) (hg : w4.heap[g]? = some (.cells (encR t).toArray 219 (0, 0))) (h1 : B + 3 ≤ g) (h2 : g < D) {j : Nat} (hj : j < 16) : w5.cell? ⟨g, j, none⟩ = some (.bool (has t j)) := by
  rw [cell_of_row _ _ _ _ _ _ ((h.keep g h1 h2).trans hg), List.getElem?_toArray, encR_get _ hj]
/-- the state of the building -/
structure BldAt (c : List Int) (w wr : World) (B : Nat) (lv : Value) (l : List Tr) (f : Nat → Int) : Prop where
  fo : Forest l
  one : 1 ≤ l.length
  le : l.length ≤ 16
  sum : (l.map Prod.fst).sum ≤ 32768
  own : wr.ownsRow (B + 3) 219 17 lv l.length (l.flatMap encR)
  at_ : BAt c (Lf f) w wr B
  inv : ∀ i, i < 16 → f i + (build (l.length - 1) l i : Int) = (build ((fulF c).length - 1) (fulF c) i : Int)
theorem BldAt.bound {c : List Int} {w wr : World} {B : Nat} {lv : Value} {l : List Tr} {f : Nat → Int} (h : BldAt c w wr B lv l f) {a : Tr} (ha : a ∈ l) : a.1 ≤ 32768 := Nat.le_trans (sum_map_le Prod.fst ha) h.sum
theorem build_le : ∀ (f : Nat) (l : List Tr) (i : Nat), build f l i ≤ f
  | 0, _, _ => Nat.le_refl _
  | f + 1, l, i => by
    rw [build]
    split
    · have := build_le f (‹List Tr› ++ [mgT ‹Tr› ‹Tr›]) i
      rename_i a b r _
      have := build_le f (r ++ [mgT a b]) i
      split <;> omega
    · omega
end Go.Proofs.YtjpgoeimclipjaaGreat
namespace Go.Proofs.YtjpgoeimclipjaaGreat
open Go.RowKit Go.Lib Pl
/-- an array in a variable -/
structure BoxL (l : List Int) (w wr : World) (B D : Nat) : Prop where
  o : wr.heap[D]? = some (.cells (cells16 l) 145 (0, 0))
  le : B ≤ D
  bel : Below B w wr
theorem BoxL.lt {l : List Int} {w wr : World} {B D : Nat} (h : BoxL l w wr B D) : D < wr.heap.size := (Array.getElem?_eq_some_iff.1 h.o).1
theorem BoxL.below {l : List Int} {w wr w1 : World} {B D : Nat} (h : BoxL l w wr B D) (hb : Below wr.heap.size wr w1) : BoxL l w w1 B D :=
  ⟨(hb.block _ h.lt).trans h.o, h.le, h.bel.trans (hb.mono (Nat.le_of_lt (Nat.lt_of_le_of_lt h.le h.lt)))⟩
theorem BoxL.grown {l : List Int} {w wr w1 : World} {B D : Nat} {r : Option Nat} (h : BoxL l w wr B D) (hg : wr.grownBy w1 r) (hr : ∀ k, r = some k → D + 1 ≤ k) : BoxL l w w1 B D :=
  have hle := h.le
  ⟨(hg.block D h.lt (fun e => by have := hr D e.symm; omega)).trans h.o, h.le, h.bel.grown hg (Nat.le_of_lt (Nat.lt_of_le_of_lt h.le h.lt)) (fun k hk => by have := hr k hk; omega)⟩
theorem BoxL.drew {l : List Int} {w wr : World} {B D : Nat} (h : BoxL l w wr B D) : BoxL l w wr.drew B D := ⟨h.o, h.le, h.bel.drew⟩
theorem BoxL.alloc {l : List Int} {w wr : World} {B D : Nat} (h : BoxL l w wr B D) (o : Obj) : BoxL l w (wr.alloc o) B D := h.below ((Below.refl _ _).alloc (Nat.le_refl _) _)
theorem BoxL.put {l : List Int} {w wr : World} {B D : Nat} (h : BoxL l w wr B D) (i : Nat) (v : Int) : BoxL (l.set i v) w (wr.setCell ⟨D, i, none⟩ (.int .i64 v)) B D :=
  ⟨by rw [heap_setCell_same _ _ _ _ _ _ h.o, cells16_set], h.le, h.bel.setCell h.le _⟩
theorem BoxL.new (l : List Int) (w : World) : BoxL l w (w.alloc (.cells (cells16 l) 145)) w.heap.size w.heap.size := ⟨heap_alloc_new _ _, Nat.le_refl _, (Below.refl _ _).alloc (Nat.le_refl _) _⟩
/-- the array, laid into a new variable -/
theorem BoxL.laid {w w1 : World} {B : Nat} (l : List Int) (hb : Below B w w1) (hB : B ≤ w1.heap.size) : BoxL l w ((w1.alloc (.cells (cells16 (Lf fun _ => 0)) 145)).setRow w1.heap.size (cells16 l)) B w1.heap.size :=
  ⟨setRow_heap _ _ _ _ _ _ (heap_alloc_new _ _), hB, below_setRow (hb.alloc hB _) hB _⟩
theorem BoxL.free {l : List Int} {w wr : World} {B D : Nat} (h : BoxL l w wr B D) (i : Nat) : wr.frozen? ⟨D, i, none⟩ = false := frozen_of_row _ _ _ _ _ h.o
theorem BoxL.get {l : List Int} {w wr : World} {B D : Nat} (h : BoxL l w wr B D) {k : Nat} {x : Int} (hk : l[k]? = some x) : wr.cell? ⟨D, k, none⟩ = some (.int .i64 x) := cell16 h.o hk
end Go.Proofs.YtjpgoeimclipjaaGreat
namespace Go.Proofs.YtjpgoeimclipjaaGreat
open Go.RowKit Go.Lib Pl Go.ChangeMaps Go.MapKept Go.ChangeShapes
open Go.WideElems (Fit)
open Go.Maps (Keyed string_keyed IsMap atKey_put_same atKey_put_other)
theorem keyedS : Keyed Tryz.prog 9 := string_keyed Tryz.underlying9
theorem zero_int (w : World) : (zeroValue 3).run Tryz.prog w = .ok (.int .i64 0) w := by kernel_rfl
theorem keyS {kb : Bytes} (h : kb.length ≤ 1000000000) : keyOf Tryz.prog 9 (S kb) = some (.string kb) := by
  have hsz : (⟨kb.toArray⟩ : ByteArray).size ≤ maxLen := by show kb.length ≤ _; unfold maxLen; omega
  have := WideMaps.keyOf_string_mk Tryz.underlying9 hsz
  have hkl : (⟨kb.toArray⟩ : ByteArray).data.toList = kb := by simp
  rw [hkl] at this; exact this
/-- Block b is a map of at most n entries that reads as f. -/
def NatMap (w : World) (b n : Nat) (f : Bytes → Nat) : Prop :=
  ∃ D : DataW Unit, w.ownsMap Tryz.prog 9 (plainElem Tryz.prog 3) b n D ∧ IsMap D ∧ ∀ kb : Bytes, D.atKey (.string kb) (.lit (.int .i64 0)) = .lit (.int .i64 (f kb))
theorem NatMap.made (w : World) : NatMap (w.alloc (.map #[] 0)) w.heap.size 0 fun _ => 0 :=
  ⟨.map [], World.ownsMap_made _ _ _ _, Go.Maps.isMap_empty, fun _ => rfl⟩
theorem NatMap.kept {w w' : World} {b n : Nat} {f : Bytes → Nat} {row : Option Nat} (h : NatMap w b n f) (hg : w.grownBy w' row) (hne : some b ≠ row) : NatMap w' b n f := by
  obtain ⟨D, ho, r⟩ := h
  exact ⟨D, ho.kept hg hne, r⟩
theorem NatMap.alloc {w : World} {b n : Nat} {f : Bytes → Nat} (h : NatMap w b n f) (o : Obj) : NatMap (w.alloc o) b n f := h.kept (World.grownBy_alloc w o none) (by simp)
theorem NatMap.lt {w : World} {b n : Nat} {f : Bytes → Nat} (h : NatMap w b n f) : b < w.heap.size := by
  obtain ⟨D, ho, r⟩ := h
  exact ho.lt
theorem NatMap.below {w w' : World} {b n : Nat} {f : Bytes → Nat} (h : NatMap w b n f) (hb : Below w.heap.size w w') : NatMap w' b n f := by
  have hlt := h.lt
  obtain ⟨D, ⟨es, clock, h1, r⟩, r2⟩ := h
  exact ⟨D, ⟨es, clock, (hb.block b hlt).trans h1, r⟩, r2⟩
/-- m[k] -/
theorem wpList_look {w : World} {ops : Array Oper} {rest : List Oper} {o : Oper} {a : Act} {Q : Exit → Act → World → Prop}
    (hg : o.guard = none) (m x : Operand) (hop : o.op = Op.lookup 158 m x false) (b n : Nat) (f : Bytes → Nat)
    (hm : a.eval m = .map (some b)) (h : NatMap w b n f) (kb : Bytes) (hx : a.eval x = S kb) (hkb : kb.length ≤ 1000000000)
    (hK : wpList Tryz.prog ops Q rest (a.put o.dst (I (f kb))) w) : wpList Tryz.prog ops Q (o :: rest) a w := by
  obtain ⟨D, ho, _, hr⟩ := h
  refine wpList_lookup_own_int w hg m x _ hop 9 3 .i64 keyedS Tryz.underlying158 Tryz.underlying3 (zero_int w) b n D hm ho _ _ hx (keyS hkb) ?_
  intro c hat _
  rw [hr kb] at hat
  injection hat with hat; injection hat with _ hat
  subst hat
  exact hK
/-- m[k] = v -/
theorem wpList_put {w : World} {ops : Array Oper} {rest : List Oper} {o : Oper} {a : Act} {Q : Exit → Act → World → Prop}
    (hg : o.guard = none) (m x v : Operand) (hop : o.op = Op.mapUpdate 158 m x v) (b n : Nat) (f : Bytes → Nat)
    (hm : a.eval m = .map (some b)) (h : NatMap w b n f) (kb : Bytes) (hx : a.eval x = S kb) (hkb : kb.length ≤ 1000000000) (c : Nat) (x' : Int) (hv : a.eval v = .int .i64 x') (hxc : x' = c) (hc : c ≤ 1000000000) (hn : n ≤ 1000000000)
    (hK : ∀ w', NatMap w' b (n + 1) (fun q => if q = kb then c else f q) → w.grownBy w' (some b) → wpList Tryz.prog ops Q rest (a.put o.dst undef) w') : wpList Tryz.prog ops Q (o :: rest) a w := by
  subst hxc
  obtain ⟨D, ho, hD, hr⟩ := h
  have hwf : (Lit.int .i64 (c : Int)).wf = true := WalkArith.wf_i64 ⟨by omega, by omega⟩
  refine wpList_mapUpdate_own w hg m x v _ hop 9 3 keyedS Tryz.underlying158 (plainElem Tryz.prog 3) b n D hm ho (by unfold maxLen; omega) _ _ _ hx hv (keyS hkb) _ [] (plainElem_int Tryz.underlying3 hwf) ?_
  intro w' h1 h2
  refine hK w' ⟨_, h1, hD.put _ _, fun q => ?_⟩ h2
  show (D.put (.string kb) (.lit (.int .i64 c))).atKey (.string q) (.lit (.int .i64 0)) = .lit (.int .i64 ((if q = kb then c else f q : Nat) : Int))
  by_cases hq : q = kb
  · rw [if_pos hq, hq, atKey_put_same hD (keyedS.key (keyS hkb))]
  · rw [if_neg hq, atKey_put_other (by intro e; injection e with e; exact hq e)]
    exact hr q
set_option maxRecDepth 100000 in
/-- the step of a range over such a map -/
theorem wpList_next_nat {w : World} {ops : Array Oper} {rest : List Oper} {o : Oper} {a : Act} {Q : Exit → Act → World → Prop}
    (hg : o.guard = none) (it : Operand) (hop : o.op = Op.next it false) (b r n : Nat) (D : DataW Unit) (f : Bytes → Nat) (hr : ∀ kb : Bytes, D.atKey (.string kb) (.lit (.int .i64 0)) = .lit (.int .i64 (f kb)))
    (left : Lit → Bool) (cnt : Nat) (hit : a.eval it = .pointer (some ⟨r, 0, none⟩)) (h : w.ranges Tryz.prog 9 (plainElem Tryz.prog 3) b r n D left cnt)
    (hDone : cnt = 0 → (∀ kl, left kl = false) → wpList Tryz.prog ops Q rest (a.put o.dst (.tuple #[.bool false])) w)
    (hMore : ∀ (kb : Bytes) (w' : World) (cnt' : Nat), left (.string kb) = true → w'.ranges Tryz.prog 9 (plainElem Tryz.prog 3) b r n D (fun z => left z && !z.sameKey (.string kb)) cnt' → cnt' < cnt →
      w.grownBy w' (some r) → w'.heap.size = w.heap.size → (Instr.entry (.pointer (some ⟨r, 0, none⟩))).run Tryz.prog w' = .ok (.tuple #[S kb, I (f kb)]) w' → wpList Tryz.prog ops Q rest (a.put o.dst (.tuple #[.bool true, S kb, I (f kb)])) w') :
    wpList Tryz.prog ops Q (o :: rest) a w := by
  refine wpList_next_ranges w hg it hop 9 keyedS (plainElem Tryz.prog 3) Value.string (Value.int .i64) (fun key kl hk => ?_) (fun v y hv => ?_) b r n D left cnt hit h hDone ?_
  · obtain ⟨s, hs, _⟩ := WideMaps.string_of_keyOf Tryz.underlying9 hk
    exact ⟨s, hs⟩
  · obtain ⟨c, hc, _⟩ := plainElem_int_inv Tryz.underlying3 hv
    exact ⟨c, hc⟩
  · intro s c kl y w' cnt' hkey hlk hv hat hrg hlt hgr hsz hen
    obtain ⟨s', hs, hkl, _⟩ := WideMaps.string_of_keyOf Tryz.underlying9 hkey
    injection hs with hs
    subst hs
    subst hkl
    obtain ⟨c', hc, hy, _⟩ := plainElem_int_inv Tryz.underlying3 hv
    injection hc with _ hc
    subst hc
    have hcf : c = (f s.data.toList : Nat) := by
      have h1 := (hr s.data.toList).symm.trans (hat (.lit (.int .i64 0)))
      rw [hy] at h1
      exact (Lit.int.inj (DataW.lit.inj h1)).2.symm
    subst hcf
    have hss : (Value.string s) = S s.data.toList := by simp
    rw [hss] at hen ⊢
    exact hMore _ w' cnt' hlk hrg hlt hgr hsz hen
theorem size_le {w : World} {b n : Nat} {D : DataW Unit} (h : w.ownsMap Tryz.prog 9 (plainElem Tryz.prog 3) b n D) : Go.Maps.size D ≤ n := by
  obtain ⟨es, clock, hb, F, hs, rfl⟩ := h
  simpa [Go.Maps.size, length_sorted] using hs
end Go.Proofs.YtjpgoeimclipjaaGreat
namespace Go.Proofs.YtjpgoeimclipjaaGreat
open Go.RowKit Go.Lib Pl
attribute [local go_sem] ext_list app_list
theorem many1_any (t : Bytes) (w : World) (ht : t.length ≤ 9223372036854775807) : Calls Tryz.prog 143 #[S t] w fun e w' => e = .returned (.bool (big t)) ∧ w = w' := by
  by_cases h : 512 < t.length
  · have e1 : decide ((t.length : Int) > 512) = true := by simp; omega
    have hb : big t = true := by unfold big; simpa using h
    rw [hb]
    clear h hb
    go_enter Tryz.func143, Tryz.ntmps143
    go_wp2_with fail
    go_ret
    exact ⟨rfl, rfl⟩
  · have e1 : decide ((t.length : Int) > 512) = false := by simp; omega
    have hb : big t = false := by unfold big; simpa using h
    rw [hb]
    clear h hb
    go_enter Tryz.func143, Tryz.ntmps143
    go_wp2_with fail
    go_ret
    exact ⟨rfl, rfl⟩
def IdxRes (l : List Bytes) (e : Ending) : Prop := ∃ r : Int, e = .returned (.int .i64 r) ∧ ((0 ≤ r ∧ l.any big = true) ∨ (r = -1 ∧ l.any big = false))
theorem any_drop {l : List Bytes} {k : Nat} {t : Bytes} (h : l[k]? = some t) : (l.drop k).any big = (big t || (l.drop (k + 1)).any big) := by
  have hk : k < l.length := (List.getElem?_eq_some_iff.1 h).1
  rw [List.drop_eq_getElem_cons hk, List.any_cons]
  rw [List.getElem?_eq_getElem hk] at h
  injection h with h
  rw [h]
set_option maxHeartbeats 1000000 in
set_option maxRecDepth 100000 in
theorem indexFunc_any (A : Option Addr) (n cap : Nat) (l : List Bytes) (w : World) (hl : StrsAt w w.heap.size A n l) (hn : n ≤ 4611686018427387904) (hs : ∀ t ∈ l, t.length ≤ 9223372036854775807) :
    Calls Tryz.prog 114 #[.slice A n cap, .func (.func 143) #[] #[]] w fun e w' => IdxRes l e ∧ w = w' := by
  have HS := hide hs
  clear hs
  go_enter Tryz.func114, Tryz.ntmps114
  go_wp2_with fail
  go_loop [5, 8] (fun _ i => ∃ k : Nat, k ≤ n ∧ i = .int .i64 k ∧ l.any big = (l.drop k).any big) (fun _ i => n - (intOf i).toNat)
  case atStart => exact ⟨0, Nat.zero_le _, rfl, by simp⟩
  case round =>
    obtain ⟨k, hk, rfl, hs⟩ := hrel
    have HA := hide hs
    clear hs
    by_cases hkn : k < n
    · obtain ⟨b, off, t, rfl, hb, ht, q0⟩ := hl.at_ hkn
      have C1 := many1_any t w (unhide HS t (List.mem_of_getElem? ht))
      have hd := any_drop ht
      have HD := hide hd
      clear ht hd
      cases hbt : big t with
      | true =>
        rw [hbt] at C1
        have C1 := hide C1
        have HB := hide hbt
        clear hbt
        go_wp2_with fail
        refine (unhide C1).mono ?_
        rintro e w1 ⟨rfl, rfl⟩
        go_wp2_with fail
        go_ret
        exact ⟨⟨_, rfl, .inl ⟨by omega, by rw [unhide HA, unhide HD, unhide HB]; rfl⟩⟩, rfl⟩
      | false =>
        rw [hbt] at C1
        have C1 := hide C1
        have HB := hide hbt
        clear hbt
        go_wp2_with fail
        refine (unhide C1).mono ?_
        rintro e w1 ⟨rfl, rfl⟩
        go_wp2_with fail
        go_round
        case rel => exact ⟨k + 1, by omega, by go_num, by rw [unhide HA, unhide HD, unhide HB]; rfl⟩
        case measure => simp [intOf]; omega
    · have hz : l.any big = false := by rw [unhide HA, List.drop_of_length_le (by have := hl.1; omega)]; rfl
      have hk2 : decide ((k : Int) < (n : Int)) = false := by simp; omega
      have HZ := hide hz
      clear hz
      go_wp2_with fail
      go_ret
      exact ⟨⟨_, rfl, .inr ⟨rfl, unhide HZ⟩⟩, rfl⟩
set_option maxHeartbeats 1000000 in
set_option maxRecDepth 100000 in
theorem containsFunc_any (A : Option Addr) (n cap : Nat) (l : List Bytes) (w : World) (hl : StrsAt w w.heap.size A n l) (hn : n ≤ 4611686018427387904) (hs : ∀ t ∈ l, t.length ≤ 9223372036854775807) :
    Calls Tryz.prog 81 #[.slice A n cap, .func (.func 143) #[] #[]] w fun e w' => e = .returned (.bool (l.any big)) ∧ w = w' := by
  have C1 := hide (indexFunc_any A n cap l w hl hn hs)
  obtain ⟨x, hx⟩ : ∃ x, x = l.any big := ⟨_, rfl⟩
  rw [← hx]
  have HX := hide hx
  clear hx hs
  go_enter Tryz.func81, Tryz.ntmps81
  go_wp2_with fail
  refine (unhide C1).mono ?_
  rintro e w1 ⟨⟨r, rfl, hr⟩, rfl⟩
  rcases hr with ⟨h0, h1⟩ | ⟨rfl, h1⟩
  · have hx : x = true := by rw [unhide HX, h1]
    subst hx
    clear h1
    go_wp2_with fail
    go_ret
    exact ⟨rfl, rfl⟩
  · have hx : x = false := by rw [unhide HX, h1]
    subst hx
    clear h1
    go_wp2_with fail
    go_ret
    exact ⟨rfl, rfl⟩
set_option maxHeartbeats 1000000 in
set_option maxRecDepth 100000 in
theorem many_any (A : Option Addr) (n cap : Nat) (l : List Bytes) (w : World) (hl : StrsAt w w.heap.size A n l) (hn : n ≤ 4611686018427387904) (hs : ∀ t ∈ l, t.length ≤ 9223372036854775807) :
    Calls Tryz.prog 119 #[.slice A n cap] w fun e w' => e = .returned (.bool (manyB l)) ∧ w = w' := by
  by_cases h : 12 < n
  · have hb : manyB l = true := by unfold manyB; rw [hl.1]; simp [h]
    have e1 : decide ((n : Int) > 12) = true := by simp; omega
    rw [hb]
    clear hb h
    go_enter Tryz.func119, Tryz.ntmps119
    go_wp2_with fail
    go_ret
    exact ⟨rfl, rfl⟩
  · have hb : manyB l = l.any big := by unfold manyB; rw [hl.1]; simp [h]
    have e1 : decide ((n : Int) > 12) = false := by simp; omega
    rw [hb]
    have C1 := hide (containsFunc_any A n cap l w hl hn hs)
    clear hb h
    go_enter Tryz.func119, Tryz.ntmps119
    go_wp2_with fail
    refine (unhide C1).mono ?_
    rintro e w1 ⟨rfl, rfl⟩
    go_wp2_with fail
    go_ret
    exact ⟨rfl, rfl⟩
end Go.Proofs.YtjpgoeimclipjaaGreat
namespace Go.Proofs.YtjpgoeimclipjaaGreat
open Go.RowKit Go.Lib Pl
attribute [local go_sem] ext_list app_list
/-- in how many texts a piece stands: by the pieces themselves -/
def cntP (l : List Bytes) (p : Bytes) : Nat := (l.filter fun t => decide (p ∈ piecesOf t)).length
theorem cntP_eq {l : List Bytes} {p : Bytes} (hp : p.length = 4) : cntP l p = cnt l p := by
  unfold cntP cnt
  congr 2
  funext t
  rw [Bool.eq_iff_iff, decide_eq_true_eq]
  exact mem_piecesOf hp
theorem cntP_le (l : List Bytes) (p : Bytes) : cntP l p ≤ l.length := List.length_filter_le _ _
theorem cntP_take {l : List Bytes} {k : Nat} {t p : Bytes} (h : l[k]? = some t) : cntP (l.take (k + 1)) p = cntP (l.take k) p + (if p ∈ piecesOf t then 1 else 0) := by
  unfold cntP
  rw [List.take_add_one, h, List.filter_append, List.length_append]
  by_cases hs : p ∈ piecesOf t
  · simp [hs]
  · simp [hs]
/-- the counts, and the last texts, behind i texts and k pieces of the next -/
def fC (l : List Bytes) (i : Nat) (t : Bytes) (k : Nat) (p : Bytes) : Nat := cntP (l.take i) p + (if p ∈ (piecesOf t).take k then 1 else 0)
def Seen (i : Nat) (t : Bytes) (k : Nat) (g : Bytes → Nat) : Prop := ∀ p, g p ≤ i + 1 ∧ (g p = i + 1 ↔ p ∈ (piecesOf t).take k)
theorem mem_take_succ {t : Bytes} {k : Nat} (h : k < t.length - 3) (p : Bytes) : p ∈ (piecesOf t).take (k + 1) ↔ p ∈ (piecesOf t).take k ∨ p = piece t k := by
  rw [List.take_add_one, piecesOf_get h]
  simp
def pcCells (x : Bytes × Nat) : List Value := [S x.1, I x.2]
theorem pcCells_len (l : List (Bytes × Nat)) : (l.flatMap pcCells).length = l.length * 2 := by
  induction l with
  | nil => rfl
  | cons x l ih => simp [pcCells] at ih ⊢; omega
theorem pcCells_get : ∀ (l : List (Bytes × Nat)) (i : Nat) (x : Bytes × Nat), l[i]? = some x → (l.flatMap pcCells)[i * 2]? = some (S x.1) ∧ (l.flatMap pcCells)[i * 2 + 1]? = some (I x.2)
  | [], i, x, h => by simp at h
  | u :: l, 0, x, h => by simp at h; subst h; simp [pcCells]
  | u :: l, i + 1, x, h => by
    have h' : l[i]? = some x := by simpa using h
    obtain ⟨a, b⟩ := pcCells_get l i x h'
    have e : (u :: l).flatMap pcCells = pcCells u ++ l.flatMap pcCells := by simp
    have hl : (pcCells u).length = 2 := rfl
    rw [e]
    refine ⟨?_, ?_⟩
    · rw [List.getElem?_append_right (by omega), hl, show (i + 1) * 2 - 2 = i * 2 from by omega]; exact a
    · rw [List.getElem?_append_right (by omega), hl, show (i + 1) * 2 + 1 - 2 = i * 2 + 1 from by omega]; exact b
theorem info_piece : (Tryz.prog.info? 155).map (fun i => (i.zero, i.size, i.bytes)) = some (some (.agg #[.string ByteArray.empty, .int .i64 0]), 2, 24) := by kernel_rfl
theorem own_slice' {w : World} {base e size n : Nat} {v : Value} {xs : List Value} (h : w.ownsRow base e size v n xs) : ∃ A cap, v = .slice A n cap := by
  rcases h.2 with ⟨rfl, rfl⟩ | ⟨g, cap, cur, rfl, _⟩
  · exact ⟨_, _, rfl⟩
  · exact ⟨_, _, rfl⟩
theorem cells2_new (w : World) (x y : Value) (t : TypeId) : ∀ j u, [x, y][j]? = some u → (w.alloc (.cells #[x, y] t)).cell? ((⟨w.heap.size, 0, none⟩ : Addr).add j) = some u := by
  intro j u hj
  have e : (⟨w.heap.size, 0, none⟩ : Addr).add j = ⟨w.heap.size, j, none⟩ := by unfold Addr.add; split <;> simp_all
  rw [e, World.cell?_alloc_new]
  simpa using hj
/-- append(out, piece{..}) -/
theorem wpList_push_piece {w : World} {ops : Array Oper} {rest : List Oper} {o : Oper} {a : Act} {Q : Exit → Act → World → Prop} (hgd : o.guard = none) (s x : Operand)
    (ho : o.op = .call { callee := .builtin .append, args := #[s, x], argTypes := #[152, 152] })
    (base : Nat) (v : Value) (n : Nat) (l : List (Bytes × Nat)) (hs : a.eval s = v) (hown : w.ownsRow base 155 2 v n (l.flatMap pcCells)) (b : Bytes) (m : Nat)
    (H : Nat) (hH : w.heap.size = H) (hx : a.eval x = .slice (some ⟨H, 0, none⟩) 1 1)
    (hn : n ≤ 1000000) (hbase : base ≤ w.heap.size)
    (h : ∀ A' cap' w', w'.ownsRow base 155 2 (.slice A' (n + 1) cap') (n + 1) ((l ++ [(b, m)]).flatMap pcCells) → Below base w w' → (w.alloc (.cells #[S b, I m] 155)).grownBy w' v.ownBlock → wpList Tryz.prog ops Q rest (a.put o.dst (.slice A' (n + 1) cap')) w') :
    wpList Tryz.prog ops Q (o :: rest) a (w.alloc (.cells #[S b, I m] 155)) := by
  subst hH
  obtain ⟨i0, hi, hz0, hz1, hz2⟩ := info_parts info_piece
  refine wpList_append_own _ hgd s x _ ho base 155 i0 _ 2 24 Tryz.underlying152 hi hz0 hz1 hz2 rfl (by decide) v n (l.flatMap pcCells) hs (hown.alloc _) ⟨w.heap.size, 0, none⟩ 1 1 [S b, I m] hx rfl (cells2_new _ _ _ _) ?_ (by unfold maxLen; omega) (by omega) (by simp; omega) ?_
  · intro y hy
    simp at hy
    rcases hy with rfl | rfl <;> rfl
  · intro v' w' hown' hg _
    have hown2 : w'.ownsRow base 155 2 v' (n + 1) ((l ++ [(b, m)]).flatMap pcCells) := by
      rw [List.flatMap_append]; exact hown'
    obtain ⟨A', cap', rfl⟩ := own_slice' hown2
    refine h A' cap' w' hown2 ?_ hg
    exact ((Below.refl _ _).alloc hbase _).grown hg (by simp; omega) (fun k hk => (hown.lt k hk).1)
/-- what the library's sort does to a row of pieces -/
def SortSpec : Prop := ∀ (W : World) (base : Nat) (v : Value) (n : Nat) (o : List (Bytes × Nat)), W.ownsRow base 155 2 v n (o.flatMap pcCells) → n ≤ 1000000 →
  Calls Tryz.prog 144 #[v, .func (.func 145) #[] #[]] W fun e w' =>
    e = .returned (.tuple #[]) ∧ ∃ o' : List (Bytes × Nat), o'.Perm o ∧ o'.Pairwise (fun a b => better b a = false) ∧ w'.ownsRow base 155 2 v n (o'.flatMap pcCells) ∧ Below base W w'
/-- what has been collected -/
structure Col (l : List Bytes) (left : Lit → Bool) (o : List (Bytes × Nat)) : Prop where
  mem : ∀ x ∈ o, 1 < x.2 ∧ x.2 = cntP l x.1 ∧ left (.string x.1) = false
  nodup : (o.map (·.1)).Nodup
  all : ∀ p, 1 < cntP l p → left (.string p) = true ∨ (p, cntP l p) ∈ o
theorem str_same (a b : Bytes) : (Lit.string a).sameKey (.string b) = decide (a = b) := by
  by_cases h : a = b
  · subst h; simp [Lit.sameKey]
  · simp [Lit.sameKey, h]
theorem Col.skip {l : List Bytes} {left : Lit → Bool} {o : List (Bytes × Nat)} (h : Col l left o) (kb : Bytes) (hc : ¬ 1 < cntP l kb) : Col l (fun z => left z && !z.sameKey (.string kb)) o := by
  refine ⟨fun x hx => ?_, h.nodup, fun p hp => ?_⟩
  · obtain ⟨a, b, c⟩ := h.mem x hx
    exact ⟨a, b, by simp [c]⟩
  · rcases h.all p hp with h1 | h1
    · left
      have hne : p ≠ kb := fun e => hc (e ▸ hp)
      simp [h1, str_same, hne]
    · exact .inr h1
theorem Col.push {l : List Bytes} {left : Lit → Bool} {o : List (Bytes × Nat)} (h : Col l left o) (kb : Bytes) (hk : left (.string kb) = true) (hc : 1 < cntP l kb) : Col l (fun z => left z && !z.sameKey (.string kb)) (o ++ [(kb, cntP l kb)]) := by
  refine ⟨fun x hx => ?_, ?_, fun p hp => ?_⟩
  · rcases List.mem_append.1 hx with hx | hx
    · obtain ⟨a, b, c⟩ := h.mem x hx
      exact ⟨a, b, by simp [c]⟩
    · have : x = (kb, cntP l kb) := by simpa using hx
      subst this
      exact ⟨hc, rfl, by simp [str_same]⟩
  · rw [List.map_append, List.nodup_append]
    refine ⟨h.nodup, by simp, fun a ha b hb => ?_⟩
    have hb : b = kb := by simpa using hb
    subst hb
    rintro rfl
    obtain ⟨x, hx, rfl⟩ := List.mem_map.1 ha
    have := (h.mem x hx).2.2
    rw [hk] at this; cases this
  · by_cases e : p = kb
    · subst e; exact .inr (by simp)
    · rcases h.all p hp with h1 | h1
      · left; simp [h1, str_same, e]
      · exact .inr (by simp [h1])
theorem col_cands {l : List Bytes} {left : Lit → Bool} {o o' : List (Bytes × Nat)} (h : Col l left o) (hleft : ∀ kl, left kl = false) (hp : o'.Perm o) (hs : o'.Pairwise (fun a b => better b a = false)) :
    Cands l (o'.map (·.1)) ∧ o' = (o'.map (·.1)).map fun p => (p, cnt l p) := by
  have h4 : ∀ p, 1 < cntP l p → p.length = 4 := by
    intro p hp
    have : 0 < cntP l p := by omega
    unfold cntP at this
    rw [List.length_pos_iff_exists_mem] at this
    obtain ⟨t, ht⟩ := this
    rw [List.mem_filter, decide_eq_true_eq] at ht
    exact mem_piecesOf_len ht.2
  have hm : ∀ x ∈ o', 1 < x.2 ∧ x.2 = cnt l x.1 := fun x hx => by
    obtain ⟨a, b, _⟩ := h.mem x (hp.mem_iff.1 hx)
    exact ⟨a, by rw [b]; exact cntP_eq (h4 _ (by omega))⟩
  have hmap : o' = (o'.map (·.1)).map fun p => (p, cnt l p) := by
    rw [List.map_map]
    conv => lhs; rw [← List.map_id o']
    refine List.map_congr_left fun x hx => ?_
    obtain ⟨_, b⟩ := hm x hx
    show x = (x.1, cnt l x.1)
    rw [← b]
  refine ⟨⟨fun p => ?_, ?_⟩, hmap⟩
  · constructor
    · intro hpm
      obtain ⟨x, hx, rfl⟩ := List.mem_map.1 hpm
      obtain ⟨a, b⟩ := hm x hx
      obtain ⟨_, b2, _⟩ := h.mem x (hp.mem_iff.1 hx)
      exact ⟨(cnt_pos (h4 _ (by omega))).1 (by omega), by omega⟩
    · rintro ⟨ha, hc⟩
      have hl4 := allPieces_len ha
      rw [← cntP_eq hl4] at hc
      rcases h.all p hc with h1 | h1
      · rw [hleft] at h1; cases h1
      · exact List.mem_map.2 ⟨_, hp.mem_iff.2 h1, rfl⟩
  · rw [List.pairwise_map]
    have hnd : (o'.map (·.1)).Nodup := (hp.map _).nodup_iff.2 h.nodup
    rw [List.nodup_iff_pairwise_ne, List.pairwise_map] at hnd
    have hmm : o'.Pairwise (fun a b => (1 < a.2 ∧ a.2 = cnt l a.1) ∧ (1 < b.2 ∧ b.2 = cnt l b.1)) := List.pairwise_of_forall_mem_list fun a ha b hb => ⟨hm a ha, hm b hb⟩
    refine (List.Pairwise.and (hs.and hnd) hmm).imp ?_
    rintro a b ⟨⟨h1, h2⟩, ⟨_, ha⟩, _, hb⟩
    have ea : (a.1, cnt l a.1) = a := by rw [← ha]
    have eb : (b.1, cnt l b.1) = b := by rw [← hb]
    rw [ea, eb]
    cases hab : better a b with
    | true => rfl
    | false => exact absurd (congrArg Prod.fst (better_total hab h1)) h2
/-- a slice of pieces that reads as a list -/
def PcAt (w : World) (A : Option Addr) (n : Nat) (o : List (Bytes × Nat)) : Prop :=
  o.length = n ∧ (0 < n → ∃ b off, A = some ⟨b, off, none⟩ ∧ b < w.heap.size ∧ ∀ i x, o[i]? = some x → w.cell? ⟨b, off + i * 2, none⟩ = some (S x.1) ∧ w.cell? ⟨b, off + i * 2 + 1, none⟩ = some (I x.2))
theorem pcAt_of_own {w : World} {base n : Nat} {v : Value} {o : List (Bytes × Nat)} (h : w.ownsRow base 155 2 v n (o.flatMap pcCells)) : ∃ A cap, v = .slice A n cap ∧ PcAt w A n o := by
  have hn : o.length = n := by have := h.1; rw [pcCells_len] at this; omega
  rcases h.2 with ⟨rfl, h0⟩ | ⟨g, cap, cur, rfl, hb, hg, _⟩
  · subst h0
    exact ⟨_, _, rfl, hn, fun h => absurd h (by omega)⟩
  · refine ⟨_, _, rfl, hn, fun _ => ⟨g, 0, rfl, (Array.getElem?_eq_some_iff.1 hg).1, fun i x hi => ?_⟩⟩
    obtain ⟨a, b⟩ := pcCells_get o i x hi
    have hc := h.cells (g := g) rfl
    have e : ∀ j, (⟨g, 0, none⟩ : Addr).add j = ⟨g, 0 + j, none⟩ := fun j => by unfold Addr.add; split <;> simp_all
    have h0 := hc _ _ a
    have h1 := hc _ _ b
    rw [e] at h0 h1
    exact ⟨h0, by rw [← h1, Nat.add_assoc]⟩
def PiecesRes (l : List Bytes) (w' : World) (e : Ending) : Prop := ∃ A n cap c, e = .returned (.slice A n cap) ∧ Cands l c ∧ PcAt w' A n (c.map fun p => (p, cnt l p)) ∧ n ≤ 1000000
def RangeRel (l : List Bytes) (B r m2 : Nat) (D : DataW Unit) (w wr : World) (v : Value) : Prop :=
  ∃ (left : Lit → Bool) (cn no : Nat) (o : List (Bytes × Nat)), wr.ranges Tryz.prog 9 (plainElem Tryz.prog 3) (B + 1) r m2 D left cn ∧ wr.ownsRow (r + 1) 155 2 v no (o.flatMap pcCells) ∧ no + cn ≤ m2 ∧ Col l left o ∧ Below B w wr ∧ r + 1 ≤ wr.heap.size
set_option maxHeartbeats 4000000 in
set_option maxRecDepth 100000 in
theorem pieces_any (hsort : SortSpec) (A : Option Addr) (n cap : Nat) (l : List Bytes) (w : World) (hl : StrsAt w w.heap.size A n l) (hn : n ≤ 12) (hs : ∀ t ∈ l, t.length ≤ 512) :
    Calls Tryz.prog 120 #[.slice A n cap] w fun e w' => PiecesRes l w' e ∧ Below w.heap.size w w' := by
  have HS := hide hs
  have HSORT := hide hsort
  clear hs hsort
  have hmm : ∀ (w : World), (Instr.makeMap 158 none).run Tryz.prog w = .ok (.map (some w.heap.size)) (w.alloc (.map #[] 0)) := fun _ => rfl
  go_enter Tryz.func120, Tryz.ntmps120
  go_wp2_with fail
  obtain ⟨B, hB⟩ : ∃ B, B = w.heap.size := ⟨_, rfl⟩
  have M1 : NatMap ((w.alloc (.map #[] 0)).alloc (.map #[] 0)) B 0 fun _ => 0 := by rw [hB]; exact (NatMap.made w).alloc _
  have M2 : NatMap ((w.alloc (.map #[] 0)).alloc (.map #[] 0)) (B + 1) 0 fun _ => 0 := by
    have h := NatMap.made (w.alloc (.map #[] 0))
    have e : (w.alloc (.map #[] 0)).heap.size = B + 1 := by rw [hB]; simp
    rw [e] at h; exact h
  rw [← hB]
  have HB := hide hB
  clear hB
  go_loopw [16] (fun i wr => ∃ (k m1 m2 : Nat) (g : Bytes → Nat), k ≤ n ∧ i = .int .i64 k ∧ m1 ≤ k * 512 ∧ m2 ≤ k * 512 ∧ NatMap wr B m1 g ∧ (∀ p, g p ≤ k) ∧ NatMap wr (B + 1) m2 (cntP (l.take k)) ∧ Below B w wr) (fun i _ => n - (intOf i).toNat)
  case atStart =>
    refine ⟨0, 0, 0, _, Nat.zero_le _, rfl, by omega, by omega, M1, fun _ => Nat.le_refl _, ?_, ?_⟩
    · exact M2
    · rw [unhide HB]; exact ((Below.refl _ _).alloc (Nat.le_refl _) _).alloc (by simp) _
  case round =>
    obtain ⟨k, m1, m2, g, hk, rfl, h1, h2, hM1, hg, hM2, hbel⟩ := hrel
    have HM1 := hide hM1
    have HM2 := hide hM2
    have HG := hide hg
    clear hM1 hM2 hg M1 M2
    by_cases hkn : k < n
    · have hl2 := hl
      rw [← unhide HB] at hl2
      obtain ⟨b, off, t, rfl, hb, ht, q0⟩ := (hl2.below hbel).at_ hkn
      have ht5 := unhide HS t (List.mem_of_getElem? ht)
      have HT := hide ht
      clear ht
      obtain ⟨c, hc⟩ : ∃ c, c = t.length - 3 := ⟨_, rfl⟩
      have hmx : max ((t.length : Int) - 4 + 1) 0 = (c : Int) := by omega
      have hcl : c ≤ 509 := by omega
      have HC := hide hc
      clear hc
      go_wp2_with fail
      go_loopw [26] (fun i wx => ∃ (q m3 m4 : Nat) (g3 : Bytes → Nat), q ≤ c ∧ i = .int .i64 q ∧ m3 ≤ k * 512 + q ∧ m4 ≤ k * 512 + q ∧ NatMap wx B m3 g3 ∧ Seen k t q g3 ∧ NatMap wx (B + 1) m4 (fC l k t q) ∧ Below B w wx) (fun i _ => c - (intOf i).toNat)
      case atStart =>
        refine ⟨0, m1, m2, g, Nat.zero_le _, rfl, by omega, by omega, unhide HM1, fun p => ⟨by have := unhide HG p; omega, ?_⟩, ?_, hbel⟩
        · have := unhide HG p
          simp; omega
        · have e : fC l k t 0 = cntP (l.take k) := by funext p; simp [fC]
          rw [e]; exact unhide HM2
      case round =>
        obtain ⟨q, m3, m4, g3, hq, rfl, h3, h4, hM3, hsn, hM4, hbel2⟩ := hrel
        have HM3 := hide hM3
        have HM4 := hide hM4
        have HSN := hide hsn
        clear hM3 hM4 hsn
        by_cases hqc : q < c
        · obtain ⟨p, hp⟩ : ∃ p, p = slice t q (q + 4) := ⟨_, rfl⟩
          have hqt : q < t.length - 3 := by have := unhide HC; omega
          have hp4 : p.length = 4 := by rw [hp]; exact piece_len hqt
          have e2 : ((q : Int) + 4).toNat = q + 4 := by omega
          have e3 : (q : Int) + 4 ≤ (t.length : Int) := by omega
          have hsl := hp.symm
          have hpc := piecesOf_get hqt
          have hmt := mem_take_succ hqt
          rw [show piece t q = p from hp.symm] at hpc hmt
          have HMT := hide hmt
          have HPC := hide hpc
          have HSL := hide hsl
          obtain ⟨hgp, hgi⟩ := unhide HSN p
          have HGI := hide hgi
          have hfl : fC l k t q p ≤ 13 := by
            unfold fC
            have := cntP_le (l.take k) p
            rw [List.length_take] at this
            split <;> omega
          clear hp hqt hmt hpc hgi
          by_cases hsee : g3 p = k + 1
          · have q1 : ((g3 p : Int) == (k : Int) + 1) = true := by rw [beq_iff_eq]; omega
            have q2 : ((g3 p : Int) != (k : Int) + 1) = false := by rw [bne_eq_false_iff_eq]; omega
            have hin := (unhide HGI).1 hsee
            have HIN := hide hin
            clear hsee hin
            go_wp2_with (at_lookup; refine wpList_look rfl (.tmp 34) (.tmp 35) rfl B m3 g3 rfl (unhide HM3) p rfl (by omega) ?_)
            go_roundw
            case rel =>
              refine ⟨q + 1, m3, m4, g3, by omega, by go_num, by omega, by omega, unhide HM3, fun p2 => ⟨(unhide HSN p2).1, ?_⟩, ?_, hbel2⟩
              · rw [(unhide HSN p2).2, unhide HMT p2]
                constructor
                · exact .inl
                · rintro (h | rfl)
                  · exact h
                  · exact unhide HIN
              · have e : fC l k t (q + 1) = fC l k t q := by
                  funext p2
                  unfold fC
                  congr 1
                  by_cases h : p2 ∈ (piecesOf t).take q
                  · rw [if_pos h, if_pos ((unhide HMT p2).2 (.inl h))]
                  · rw [if_neg h, if_neg]
                    intro h2
                    rcases (unhide HMT p2).1 h2 with h2 | rfl
                    · exact h h2
                    · exact h (unhide HIN)
                rw [e]; exact unhide HM4
            case measure => simp [intOf]; omega
          · have q1 : ((g3 p : Int) == (k : Int) + 1) = false := by rw [beq_eq_false_iff_ne]; omega
            have q2 : ((g3 p : Int) != (k : Int) + 1) = true := by rw [bne_iff_ne]; omega
            have hin : p ∉ (piecesOf t).take q := fun h => hsee ((unhide HGI).2 h)
            have HIN := hide hin
            clear hsee hin
            go_wp2_with (first
              | (at_lookup; refine wpList_look rfl (.tmp 34) (.tmp 35) rfl B m3 g3 rfl (unhide HM3) p rfl (by omega) ?_)
              | (at_mapUpdate; refine wpList_put rfl (.tmp 40) (.tmp 41) (.tmp 43) rfl B m3 g3 rfl (unhide HM3) p rfl (by omega) (k + 1) _ rfl (by omega) (by omega) (by omega) ?_; intro w2 hM5 hg5; have HM5 := hide hM5; have HM6 := hide ((unhide HM4).kept hg5 (by simp)); clear hM5)
              | (at_lookup; refine wpList_look rfl (.tmp 44) (.tmp 45) rfl (B + 1) m4 (fC l k t q) rfl (unhide HM6) p rfl (by omega) ?_)
              | (at_mapUpdate; refine wpList_put rfl (.tmp 44) (.tmp 45) (.tmp 47) rfl (B + 1) m4 (fC l k t q) rfl (unhide HM6) p rfl (by omega) (fC l k t q p + 1) _ rfl (by omega) (by omega) (by omega) ?_; intro w3 hM7 hg7; have HM7 := hide hM7; clear hM7))
            go_roundw
            case rel =>
              refine ⟨q + 1, m3 + 1, m4 + 1, _, by omega, by go_num, by omega, by omega, (unhide HM5).kept hg7 (by simp), fun p2 => ?_, ?_, (hbel2.grown hg5 (by have := (unhide HM3).lt; omega) (fun j hj => by simp at hj; omega)).grown hg7 (by have := (unhide HM5).lt; omega) (fun j hj => by simp at hj; omega)⟩
              · rw [unhide HMT p2]
                show (if p2 = p then k + 1 else g3 p2) ≤ k + 1 ∧ ((if p2 = p then k + 1 else g3 p2) = k + 1 ↔ _)
                by_cases h : p2 = p
                · rw [if_pos h]; simp [h]
                · rw [if_neg h]
                  have := unhide HSN p2
                  simpa [h] using this
              · have e : (fun r => if r = p then fC l k t q p + 1 else fC l k t q r) = fC l k t (q + 1) := by
                  funext p2
                  by_cases h : p2 = p
                  · subst h
                    rw [if_pos rfl]
                    unfold fC
                    rw [if_neg (unhide HIN), if_pos ((unhide HMT _).2 (.inr rfl))]
                  · rw [if_neg h]
                    unfold fC
                    congr 1
                    by_cases h2 : p2 ∈ (piecesOf t).take q
                    · rw [if_pos h2, if_pos ((unhide HMT p2).2 (.inl h2))]
                    · rw [if_neg h2, if_neg]
                      intro h3
                      rcases (unhide HMT p2).1 h3 with h3 | h3
                      · exact h2 h3
                      · exact h h3
                rw [← e]; exact unhide HM7
            case measure => simp [intOf]; omega
        · go_wp2_with fail
          go_roundw
          case rel =>
            have hqe : q = t.length - 3 := by have := unhide HC; omega
            have hall : (piecesOf t).take q = piecesOf t := List.take_of_length_le (by rw [piecesOf_len]; omega)
            refine ⟨k + 1, m3, m4, g3, by omega, by go_num, by omega, by omega, unhide HM3, fun p => (unhide HSN p).1, ?_, hbel2⟩
            have e : fC l k t q = cntP (l.take (k + 1)) := by
              funext p
              unfold fC
              rw [hall, cntP_take (unhide HT)]
            rw [← e]; exact unhide HM4
          case measure => simp [intOf]; omega
    · have hfin : cntP (l.take k) = cntP l := by rw [List.take_of_length_le (by have := hl.1; omega)]
      have hM := unhide HM2
      rw [hfin] at hM
      obtain ⟨D, ho, hD, hr⟩ := hM
      have HO := hide ho
      have HR := hide hr
      have hk2 : decide ((k : Int) < (n : Int)) = false := by simp; omega
      have hbs : B ≤ wr.heap.size := by rw [unhide HB]; exact hbel.size
      obtain ⟨r, hrr⟩ : ∃ r, r = wr.heap.size := ⟨_, rfl⟩
      have HRR := hide hrr
      clear hfin ho hr hD HM1 HM2 HG hrr
      go_wp2_with (at_range; refine wpList_range_own _ rfl _ 158 rfl 9 3 keyedS Tryz.underlying158 _ (B + 1) m2 D rfl (unhide HO) ?_; intro w0 hrg0 hg0 hs0; have HRG0 := hide hrg0; have HS0 := hide hs0; clear hrg0 hs0)
      go_frame
      rw [← unhide HRR]
      go_loopw [9] (fun v wx => RangeRel l B r m2 D w wx v) (fun _ wx => wx.rangeLeft (B + 1) r)
      case atStart =>
        refine ⟨_, _, 0, [], by rw [unhide HRR]; exact unhide HRG0, World.ownsRow_nil _ _ _ _, ?_, ⟨by simp, by simp, fun p hp => .inl ?_⟩, hbel.grown hg0 hbs (fun j hj => by cases hj), by have := unhide HS0; have := unhide HRR; omega⟩
        · have := size_le (unhide HO); omega
        · cases hh : Go.Maps.has D (.string p) with
          | true => rfl
          | false =>
            have h1 := unhide HR p
            rw [Go.Maps.atKey_of_not_has hh] at h1
            have h2 := (Lit.int.inj (DataW.lit.inj h1)).2
            omega
      case round =>
        obtain ⟨left, cn, no, o, hrg, hown, hno, hcol, hbel2, hsz⟩ := hrel
        obtain ⟨A9, cap9, rfl⟩ := own_slice' hown
        have HRG := hide hrg
        have HOWN := hide hown
        have HCOL := hide hcol
        clear hrg hown hcol
        have hrl := (unhide HRG).lt
        have hBr : B + 1 < r := by have := (unhide HO).lt; have := unhide HRR; omega
        go_wp2_with (first
          | (at_next; refine wpList_next_nat rfl (.tmp 51) rfl (B + 1) r m2 D (cntP l) (unhide HR) left cn rfl (unhide HRG) ?_ ?_)
          | fail)
        · intro hc0 hl0
          have HL0 := hide hl0
          clear hl0
          have C9 := hide (unhide HSORT wr (r + 1) _ no o (unhide HOWN) (by omega))
          go_wp2_with fail
          refine (unhide C9).mono ?_
          rintro e w9 ⟨rfl, o9, hp9, hs9, ho9, hb9⟩
          obtain ⟨hcands, hmap⟩ := col_cands (unhide HCOL) (unhide HL0) hp9 hs9
          have HCA := hide hcands
          have HMA := hide hmap
          have HO9 := hide ho9
          clear hcands hmap hp9 hs9 ho9 C9
          go_wp2_with fail
          go_ret
          obtain ⟨A8, cap8, he8, hat8⟩ := pcAt_of_own (unhide HO9)
          rw [unhide HMA] at hat8
          refine ⟨⟨A8, no, cap8, _, ?_, unhide HCA, hat8, by omega⟩, ?_⟩
          · rw [← he8]; rfl
          · rw [← unhide HB]; exact hbel2.trans (hb9.mono (by omega))
        · intro kb w1 cn1 hlk hrg1 hlt hg1 hs1 hen
          have hcl := cntP_le l kb
          have hln := hl.1
          have HLK := hide hlk
          have HRG1 := hide hrg1
          have HO1 := hide ((unhide HOWN).kept hg1 (by
            rcases hvb : (Value.slice A9 no cap9).ownBlock with _ | g
            · exact .inl rfl
            · right
              have := ((unhide HOWN).lt g hvb).1
              intro e; injection e with e; omega))
          have HLN := hide hln
          have hs2 : wr.heap.size ≤ w1.heap.size := by omega
          clear hlk hrg1 hln hs1
          by_cases hc1 : 1 < cntP l kb
          · have HC1 := hide hc1
            go_wp2_with (at_builtin; refine wpList_push_piece rfl (.tmp 59) (.tmp 63) rfl (r + 1) _ no o rfl (unhide HO1) kb (cntP l kb) w1.heap.size rfl rfl (by omega) (by omega) ?_; intro A4 cap4 w4 hown4 hb4 hg4)
            have hne : ∀ j, j < r + 1 → some j ≠ (Value.slice A9 no cap9).ownBlock := fun j hj e => by
              have := ((unhide HO1).lt j e.symm).1
              omega
            have hrg4 := ((unhide HRG1).alloc (.cells #[S kb, I (cntP l kb)] 155)).kept hg4 (hne _ (by omega)) (hne _ (by omega))
            go_roundw
            case rel =>
              refine ⟨_, cn1, no + 1, o ++ [(kb, cntP l kb)], hrg4, hown4, by omega, (unhide HCOL).push kb (unhide HLK) (unhide HC1), (hbel2.grown hg1 (by omega) (fun j hj => by injection hj with hj; omega)).trans (hb4.mono (by omega)), ?_⟩
              have := hb4.size; omega
            case measure =>
              rw [hrg4.left_eq, (unhide HRG).left_eq]; omega
          · go_wp2_with fail
            go_roundw
            case rel =>
              exact ⟨_, cn1, no, o, unhide HRG1, unhide HO1, by omega, (unhide HCOL).skip kb hc1, hbel2.grown hg1 (by omega) (fun j hj => by injection hj with hj; omega), by omega⟩
            case measure =>
              rw [(unhide HRG1).left_eq, (unhide HRG).left_eq]; omega
end Go.Proofs.YtjpgoeimclipjaaGreat
namespace Go.Proofs.YtjpgoeimclipjaaGreat
open Go.RowKit Go.Lib Pl
attribute [local go_sem] ext_list app_list
/-- cmp.Compare at strings -/
def cmpS (a b : Bytes) : Int := if lessB a b = true then -1 else if a = b then 0 else 1
theorem less_model : ∀ a b : Bytes, Op.bytesLess a b = lessB a b
  | _, [] => by cases ‹Bytes› <;> rfl
  | [], _ :: _ => rfl
  | a :: x, b :: y => by rw [Op.bytesLess, lessB, less_model x y]
set_option maxHeartbeats 1000000 in
theorem isNaNS_any (a : Bytes) (w : World) : Calls Tryz.prog 131 #[S a] w fun e w' => e = .returned (.bool false) ∧ w = w' := by
  go_enter Tryz.func131, Tryz.ntmps131
  go_wp2_with fail
  go_ret
  exact ⟨rfl, rfl⟩
set_option maxHeartbeats 1000000 in
theorem cmpStr_any (a b : Bytes) (w : World) : Calls Tryz.prog 110 #[S a, S b] w fun e w' => e = .returned (.int .i64 (cmpS a b)) ∧ w = w' := by
  have C1 := hide (fun (x : Bytes) (W : World) => isNaNS_any x W)
  by_cases h1 : lessB a b = true
  · have e1 : Op.bytesLess a b = true := by rw [less_model, h1]
    have e2 : cmpS a b = -1 := by unfold cmpS; rw [if_pos h1]
    rw [e2]
    clear e2 h1
    go_enter Tryz.func110, Tryz.ntmps110
    go_wp2_with (go_at_call 131; refine (unhide C1 _ _).mono ?_; rintro e w1 ⟨rfl, rfl⟩)
    go_ret
    exact ⟨rfl, rfl⟩
  · have e1 : Op.bytesLess a b = false := by rw [less_model]; simpa using h1
    by_cases h2 : a = b
    · subst h2
      have e2 : cmpS a a = 0 := by unfold cmpS; rw [if_neg h1, if_pos rfl]
      rw [e2]
      clear e2 h1
      go_enter Tryz.func110, Tryz.ntmps110
      go_wp2_with (go_at_call 131; refine (unhide C1 _ _).mono ?_; rintro e w1 ⟨rfl, rfl⟩)
      go_ret
      exact ⟨rfl, rfl⟩
    · have e3 : (a == b) = false := by simpa using h2
      have e2 : cmpS a b = 1 := by unfold cmpS; rw [if_neg h1, if_neg h2]
      rw [e2]
      clear e2 h1 h2
      go_enter Tryz.func110, Tryz.ntmps110
      go_wp2_with (go_at_call 131; refine (unhide C1 _ _).mono ?_; rintro e w1 ⟨rfl, rfl⟩)
      go_ret
      exact ⟨rfl, rfl⟩
end Go.Proofs.YtjpgoeimclipjaaGreat
namespace Go.Proofs.YtjpgoeimclipjaaGreat
open Go.RowKit Go.Lib Go.Sort
section
variable {α : Type} [Inhabited α] (enc : α → List Value) (k : Nat)
theorem flatMap_get (hk : ∀ x, (enc x).length = k) (h0 : 0 < k) : ∀ (l : List α) (t : Nat), t < l.length * k → (l.flatMap enc)[t]? = some (enc (l.toArray[t / k]!))[t % k]!
  | [], t, h => by simp at h
  | a :: l, t, h => by
    rw [List.flatMap_cons]
    by_cases ht : t < k
    · have e1 : t / k = 0 := Nat.div_eq_of_lt ht
      have e2 : t % k = t := Nat.mod_eq_of_lt ht
      have hl : t < (enc a).length := by rw [hk]; exact ht
      rw [List.getElem?_append_left hl, e1, e2, List.getElem?_eq_getElem hl]
      simp [hl]
    · have e1 : t / k = (t - k) / k + 1 := by
        conv => lhs; rw [show t = (t - k) + k from by omega, Nat.add_div_right _ h0]
      have e2 : t % k = (t - k) % k := by
        conv => lhs; rw [show t = (t - k) + k from by omega, Nat.add_mod_right]
      have hh : t - k < l.length * k := by
        simp only [List.length_cons, Nat.add_mul, Nat.one_mul] at h; omega
      rw [List.getElem?_append_right (by rw [hk]; omega), hk, flatMap_get hk h0 l (t - k) hh, e1, e2]
      simp
theorem flatK_list (hk : ∀ x, (enc x).length = k) (h0 : 0 < k) (l : List α) : (flatK enc k l.toArray).toList = l.flatMap enc := by
  have hlen : (l.flatMap enc).length = l.length * k := by
    induction l with
    | nil => simp
    | cons a l ih => simp [hk, Nat.add_mul] at ih ⊢; omega
  apply List.ext_getElem?
  intro t
  by_cases ht : t < l.length * k
  · rw [flatMap_get enc k hk h0 l t ht]
    have hs : t < (flatK enc k l.toArray).size := by rw [size_flatK]; simpa using ht
    have := get_flatK enc k l.toArray t (by simpa using ht)
    rw [← this, Array.getElem?_toList, Array.getElem?_eq_getElem hs, getElem!_pos _ t hs]
  · rw [List.getElem?_eq_none (by rw [Array.length_toList, size_flatK]; simp; omega), List.getElem?_eq_none (by omega)]
theorem holdsK_own {w : World} {base e n g cap : Nat} {o : List α} (hk : ∀ x, (enc x).length = k) (h0 : 0 < k) (h : w.ownsRow base e k (.slice (some ⟨g, 0, none⟩) n cap) n (o.flatMap enc)) : HoldsK enc k w g 0 o.toArray ∧ g < w.heap.size ∧ o.length = n ∧ base ≤ g := by
  rcases h.2 with ⟨hv, _⟩ | ⟨g', cap', cur, hv, hb, hg, hn, hc, hs, ht⟩
  · cases hv
  · injection hv with ha _ hcap
    injection ha with ha
    injection ha with ha
    subst ha
    have hlen : o.length = n := by
      have h1 := h.1
      have h2 := congrArg List.length (flatK_list enc k hk h0 o)
      rw [Array.length_toList, size_flatK] at h2
      rw [← h2] at h1
      exact Nat.eq_of_mul_eq_mul_right h0 (by simpa using h1)
    refine ⟨fun j hj => ?_, (Array.getElem?_eq_some_iff.1 hg).1, hlen, hb⟩
    rw [Nat.zero_add, cell_of_row w g j _ _ _ hg]
    refine ⟨?_, by simp [World.frozen?, hg]⟩
    have hj' : j < o.length * k := by rw [size_flatK] at hj; simpa using hj
    have h3 : (flatK enc k o.toArray).toList[j]? = some (flatK enc k o.toArray)[j]! := by
      rw [Array.getElem?_toList, Array.getElem?_eq_getElem hj, getElem!_pos _ j hj]
    rw [flatK_list enc k hk h0, ← ht, List.getElem?_take, if_pos (by rw [← hlen]; exact hj'), Array.getElem?_toList] at h3
    exact h3
theorem sortWorld_own {w : World} {base e n g cap : Nat} {o o' : List α} {m : Nat} {os : Array Obj} (hk : ∀ x, (enc x).length = k) (h0 : 0 < k) (h : w.ownsRow base e k (.slice (some ⟨g, 0, none⟩) n cap) n (o.flatMap enc)) (hp : o'.length = o.length) :
    (sortWorldK enc k w g 0 m o'.toArray os).ownsRow base e k (.slice (some ⟨g, 0, none⟩) n cap) n (o'.flatMap enc) ∧ Below base w (sortWorldK enc k w g 0 m o'.toArray os) := by
  obtain ⟨_, hgl, hlen, hbg⟩ := holdsK_own enc k hk h0 h
  rcases h.2 with ⟨hv, _⟩ | ⟨g', cap', cur, hv, hb, hg, hn, hc, hs, ht⟩
  · cases hv
  · injection hv with ha _ hcap
    injection ha with ha
    injection ha with ha
    subst ha
    subst hcap
    have hfl := congrArg List.length (flatK_list enc k hk h0 o')
    rw [Array.length_toList, size_flatK] at hfl
    have hsz : (flatK enc k o'.toArray).size = n * k := by rw [size_flatK]; simp [hp, hlen]
    have hcur : n * k ≤ cur.size := by rw [hs]; exact Nat.mul_le_mul_right k hn
    have hh : (sortWorldK enc k w g 0 m o'.toArray os).heap[g]? = some (.cells (putCells id 0 (flatK enc k o'.toArray) cur) e (0, 0)) := by
      unfold sortWorldK putRowK putRow
      have hg2 : (Sort.ahead w m).heap[g]? = some (.cells cur e (0, 0)) := hg
      rw [heap_grow_old _ _ (by show g < (mapBlock _ _ _).heap.size; unfold mapBlock; simpa using hgl)]
      unfold mapBlock
      simp only [Array.getElem?_modify]
      rw [if_pos trivial, hg2]
      rfl
    refine ⟨⟨?_, .inr ⟨g, cap, _, rfl, hb, hh, hn, hc, ?_, ?_⟩⟩, rfl, rfl, rfl, ?_, fun i hi => ?_⟩
    · rw [← hfl, List.size_toArray, hp, hlen]
    · unfold putCells; simpa using hs
    · rw [← flatK_list enc k hk h0]
      apply List.ext_getElem?
      intro t
      rw [List.getElem?_take]
      by_cases htn : t < n * k
      · rw [if_pos htn, Array.getElem?_toList, Array.getElem?_toList]
        unfold putCells
        rw [Array.getElem?_mapIdx, Array.getElem?_eq_getElem (by omega)]
        simp only [Option.map_some]
        rw [if_pos (by omega), Nat.sub_zero, Array.getElem?_eq_getElem (by omega), getElem!_pos _ t (by omega)]
        rfl
      · rw [if_neg htn, List.getElem?_eq_none (by rw [Array.length_toList, hsz]; omega)]
    · unfold sortWorldK putRowK putRow mapBlock; simp [Sort.ahead]
    · unfold sortWorldK putRowK putRow
      rw [heap_grow_old _ _ (by show i < (mapBlock _ _ _).heap.size; unfold mapBlock; simp [Sort.ahead]; omega)]
      unfold mapBlock
      simp only [Array.getElem?_modify]
      rw [if_neg (by omega)]
      rfl
end
theorem perm_of {α : Type} [Inhabited α] {o : List α} {d' : Array α} (h : PermIn 0 o.toArray.size o.toArray d') : d'.toList.Perm o ∧ d'.toList.length = o.length := by
  obtain ⟨hs, _, hp⟩ := h
  have e1 : (o.toArray.extract 0 o.toArray.size) = o.toArray := by simp
  have e2 : (d'.extract 0 o.toArray.size) = d' := by rw [← hs]; simp
  rw [e1, e2] at hp
  exact ⟨by simpa using hp, by simpa using hs⟩
theorem sorted_of {α : Type} [Inhabited α] {lt : α → α → Bool} {d' : Array α} {n : Nat} (hn : d'.size = n) (h : SortedIn lt 0 n d') : d'.toList.Pairwise (fun a b => lt b a = false) := by
  rw [List.pairwise_iff_getElem]
  intro i j hi hj hij
  have hi' : i < d'.size := by simpa using hi
  have hj' : j < d'.size := by simpa using hj
  have := h i j (Nat.zero_le _) hij (by omega)
  rw [getElem!_pos d' i hi', getElem!_pos d' j hj'] at this
  simpa using this
end Go.Proofs.YtjpgoeimclipjaaGreat
namespace Go.Proofs.YtjpgoeimclipjaaGreat
open Go.RowKit Go.Lib Pl Go.Sort
attribute [local go_sem] ext_list app_list
def orI (a b : Int) : Int := if a = 0 then b else a
set_option maxHeartbeats 1000000 in
theorem cmpOr2_any (g : Nat) (a b : Int) (w : World) (h0 : w.cell? ⟨g, 0, none⟩ = some (.int .i64 a)) (h1 : w.cell? ⟨g, 1, none⟩ = some (.int .i64 b)) :
    Calls Tryz.prog 146 #[.slice (some ⟨g, 0, none⟩) 2 2] w fun e w' => e = .returned (.int .i64 (orI a b)) ∧ w = w' := by
  by_cases ha : a = 0
  · subst ha
    by_cases hb : b = 0
    · subst hb
      have e : orI 0 0 = 0 := rfl
      rw [e]
      clear e
      go_enter Tryz.func146, Tryz.ntmps146
      go_wp2_with fail
      go_loop [5, 8] (fun _ i => ∃ k : Nat, k ≤ 2 ∧ i = .int .i64 k) (fun _ i => 2 - (intOf i).toNat)
      case atStart => exact ⟨0, by omega, rfl⟩
      case round =>
        obtain ⟨k, hk, rfl⟩ := hrel
        match k, hk with
        | 0, _ =>
          go_wp2_with fail
          go_round
          case rel => exact ⟨1, by omega, rfl⟩
          case measure => simp [intOf]
        | 1, _ =>
          go_wp2_with fail
          go_round
          case rel => exact ⟨2, by omega, rfl⟩
          case measure => simp [intOf]
        | 2, _ =>
          go_wp2_with fail
          go_ret
          exact ⟨rfl, rfl⟩
    · have e : orI 0 b = b := rfl
      rw [e]
      have z1 : (b == 0) = false := beq_eq_false_iff_ne.2 hb
      have z2 : (b != 0) = true := bne_iff_ne.2 hb
      clear e hb
      go_enter Tryz.func146, Tryz.ntmps146
      go_wp2_with fail
      go_loop [5, 8] (fun _ i => ∃ k : Nat, k ≤ 1 ∧ i = .int .i64 k) (fun _ i => 1 - (intOf i).toNat)
      case atStart => exact ⟨0, by omega, rfl⟩
      case round =>
        obtain ⟨k, hk, rfl⟩ := hrel
        match k, hk with
        | 0, _ =>
          go_wp2_with fail
          go_round
          case rel => exact ⟨1, by omega, rfl⟩
          case measure => simp [intOf]
        | 1, _ =>
          go_wp2_with fail
          go_ret
          exact ⟨rfl, rfl⟩
  · have e : orI a b = a := by unfold orI; rw [if_neg ha]
    rw [e]
    have z1 : (a == 0) = false := beq_eq_false_iff_ne.2 ha
    have z2 : (a != 0) = true := bne_iff_ne.2 ha
    clear e ha
    go_enter Tryz.func146, Tryz.ntmps146
    go_wp2_with fail
    go_loop [5, 8] (fun _ i => i = .int .i64 0) (fun _ _ => 0)
    case atStart => rfl
    case round =>
      subst hrel
      go_wp2_with fail
      go_ret
      exact ⟨rfl, rfl⟩
theorem cell_new_at {W : World} {cs : Array Value} {t : TypeId} {H : Nat} (i : Nat) (h : W.heap.size = H) : (W.alloc (.cells cs t)).cell? ⟨H, i, none⟩ = cs[i]? := by
  subst h; exact World.cell?_alloc_new _ _ _ _
/-- the program's own order of pieces -/
def cmpP (x y : Bytes × Nat) : Int := orI (Lib.compareInt y.2 x.2) (cmpS x.1 y.1)
theorem cmpP_lt (x y : Bytes × Nat) : ltOf cmpP x y = better x y := by
  obtain ⟨a, n⟩ := x
  obtain ⟨b, m⟩ := y
  unfold ltOf cmpP better orI Lib.compareInt cmpS
  simp only
  by_cases h1 : (m : Int) < (n : Int)
  · rw [if_pos h1]
    have : m < n := by omega
    simp [this]
  · rw [if_neg h1]
    by_cases h2 : (m : Int) > (n : Int)
    · rw [if_pos h2]
      have h3 : ¬ m < n := by omega
      have h4 : (n == m) = false := by rw [beq_eq_false_iff_ne]; omega
      simp [h3, h4]
    · rw [if_neg h2]
      have h3 : n = m := by omega
      subst h3
      by_cases h4 : lessB a b = true
      · simp [h4]
      · by_cases h5 : a = b
        · subst h5; simp [h4]
        · simp [h4, h5]
theorem swoP : SWO (ltOf cmpP) where
  irrefl x := by rw [cmpP_lt]; exact better_irrefl x
  trans x y z h1 h2 := by rw [cmpP_lt] at *; exact better_trans h1 h2
  ntrans x y z h1 h2 := by
    rw [cmpP_lt] at *
    rw [Bool.eq_false_iff] at *
    intro h3
    cases h4 : better y x with
    | true => exact h2 (better_trans h4 h3)
    | false =>
      have := better_total (by simpa using h1) h4
      subst this
      exact h2 h3
set_option maxHeartbeats 2000000 in
set_option maxRecDepth 100000 in
theorem piecesLess_any (x y : Bytes × Nat) (w : World) :
    Calls Tryz.prog 145 #[.agg #[S x.1, I x.2], .agg #[S y.1, I y.2]] w fun e w' => e = .returned (.int .i64 (cmpP x y)) ∧ ∃ q os', w' = grow (w.drewN q) os' := by
  obtain ⟨c1, hc1⟩ : ∃ c, c = Lib.compareInt y.2 x.2 := ⟨_, rfl⟩
  obtain ⟨c2, hc2⟩ : ∃ c, c = cmpS x.1 y.1 := ⟨_, rfl⟩
  have K1 := fun (W : World) => Tryz.cmp_Compare_int y.2 x.2 W
  have K2 := fun (W : World) => cmpStr_any x.1 y.1 W
  have he : cmpP x y = orI c1 c2 := by unfold cmpP; rw [← hc1, ← hc2]
  rw [he]
  rw [← hc1] at K1
  rw [← hc2] at K2
  have K1 := hide K1
  have K2 := hide K2
  have K3 := hide (fun (g : Nat) (W : World) => cmpOr2_any g c1 c2 W)
  clear hc1 hc2 he
  go_enter Tryz.func145, Tryz.ntmps145
  go_wp2_with fail
  go_region_held3 (fun w' => w'.cell? ⟨w.heap.size, 0, none⟩ = some (S x.1) ∧ w'.cell? ⟨w.heap.size, 1, none⟩ = some (I x.2) ∧ w'.cell? ⟨w.heap.size + 1, 0, none⟩ = some (S y.1) ∧ w'.cell? ⟨w.heap.size + 1, 1, none⟩ = some (I y.2)) (first | go_keep)
    ((first
      | (go_at_call 147; refine (unhide K1 _).mono ?_; rintro e w1 ⟨rfl, rfl⟩)
      | (go_at_call 110; refine (unhide K2 _).mono ?_; rintro e w1 ⟨rfl, rfl⟩)
      | (go_at_call 146; refine (unhide K3 _ _ (by exact (cell_new_at 0 (by simp)).trans rfl) (by exact (cell_new_at 1 (by simp)).trans rfl)).mono ?_; rintro e w1 ⟨rfl, rfl⟩)))
  all_goals
    go_wp2_with fail
    go_ret
    refine ⟨rfl, 1, #[.cells #[S x.1, I x.2] 155, .cells #[S y.1, I y.2] 155, .cells #[.int .i64 c1, .int .i64 c2] 3], ?_⟩
    rw [alloc_eq_grow, alloc_eq_grow, alloc_eq_grow, grow_grow, grow_grow]
    rfl
theorem sortSpec : SortSpec := by
  intro W base v n o hown hn
  rcases hown.2 with ⟨hv, h0⟩ | ⟨g, cap, cur, hv, _⟩
  · subst h0
    have ho : o = [] := by
      have := hown.1
      rw [pcCells_len] at this
      exact List.eq_nil_of_length_eq_zero (by omega)
    subst ho
    subst hv
    have hcon := AnyF.slices_SortFunc_none Tryz.sortPiece none 0 (.func (.func 145) #[] #[]) W
    change Calls Tryz.prog 144 _ _ _ at hcon
    refine hcon.mono ?_
    rintro e w' ⟨rfl, rfl⟩
    exact ⟨rfl, [], List.Perm.refl _, List.Pairwise.nil, hown, Below.refl _ _⟩
  · subst hv
    obtain ⟨hH, hgl, hlen, hbg⟩ := holdsK_own pcCells 2 (fun _ => rfl) (by omega) hown
    have eg : ∀ args w, (callFunc 145 args).run Tryz.prog w = .ok (.enter 145 args) w := enters_of Tryz.func145 (by kernel_rfl) rfl
    have hcmp : CmpLays Tryz.prog 145 #[] pcCells 2 cmpP g 0 o.toArray.size W := fun _ _ _ _ x y => piecesLess_any x y _
    have hcon := AnyQ.slices_SortFunc Tryz.sortPiece 2 Tryz.isAgg155 Tryz.sizeOf155 pcCells (fun _ => rfl) (fun x v hv => by simp [pcCells] at hv; rcases hv with rfl | rfl <;> rfl) cmpP swoP 145 #[] g 0 cap o.toArray W eg hcmp hH hgl (by simp; omega)
    change Calls Tryz.prog 144 _ _ _ at hcon
    have hsz : o.toArray.size = n := by simpa using hlen
    rw [hsz] at hcon
    refine hcon.mono ?_
    rintro e w' ⟨rfl, d', m, os, hp, hs, rfl⟩
    rw [← hsz] at hp
    obtain ⟨hp1, hp2⟩ := perm_of hp
    have hss := sorted_of (n := n) (by rw [← hsz]; exact hp.1) hs
    have hres := sortWorld_own (o' := d'.toList) (m := m) (os := os) pcCells 2 (fun _ => rfl) (by omega) hown hp2
    refine ⟨rfl, d'.toList, hp1, ?_, hres⟩
    exact hss.imp fun {a b} h => by rw [← cmpP_lt]; exact h
end Go.Proofs.YtjpgoeimclipjaaGreat
