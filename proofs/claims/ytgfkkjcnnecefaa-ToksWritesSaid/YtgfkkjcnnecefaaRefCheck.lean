/- The walk of the reference's CheckToks. -/
import Derived.Test.YtgfkkjcnnecefaaPlay
namespace Go.Proofs.Ytgfkkjcnnecefaa
open Go.RowKit Go.Lib Pl
attribute [local go_sem] ext_list app_list

theorem within_any (a b c : Int) (w : World) : Calls Try.prog 54 #[I a, I b, I c] w fun e w' => e = .returned (.bool (decide (b ≤ a ∧ a ≤ c))) ∧ w = w' := by
  by_cases h1 : b ≤ a
  · by_cases h2 : a ≤ c
    · rw [decide_eq_true ⟨h1, h2⟩]
      go_enter Try.func54, Try.ntmps54
      go_wp2
      go_ret
      exact ⟨rfl, rfl⟩
    · rw [decide_eq_false (by omega)]
      go_enter Try.func54, Try.ntmps54
      go_wp2
      go_ret
      exact ⟨rfl, rfl⟩
  · rw [decide_eq_false (by omega)]
    go_enter Try.func54, Try.ntmps54
    go_wp2
    go_ret
    exact ⟨rfl, rfl⟩
theorem within_yes (a b c : Int) (w : World) (h : b ≤ a ∧ a ≤ c) : Calls Try.prog 54 #[I a, I b, I c] w fun e w' => e = .returned (.bool true) ∧ w = w' :=
  (within_any a b c w).mono fun _ _ ⟨he, hw⟩ => ⟨by rw [he, decide_eq_true h], hw⟩
theorem within_no (a b c : Int) (w : World) (h : ¬ (b ≤ a ∧ a ≤ c)) : Calls Try.prog 54 #[I a, I b, I c] w fun e w' => e = .returned (.bool false) ∧ w = w' :=
  (within_any a b c w).mono fun _ _ ⟨he, hw⟩ => ⟨by rw [he, decide_eq_false h], hw⟩

theorem slice_one {s : Bytes} {a : Nat} {c : UInt8} (h : s[a]? = some c) : slice s a (a + 1) = [c] := by
  unfold slice
  rw [List.take_add_one, h]
  have : a < s.length := (List.getElem?_eq_some_iff.1 h).1
  rw [List.drop_append_of_le_length (by simp; omega), List.drop_of_length_le (by simp; omega)]
  rfl

/-- the tok before the k-th is as it is -/
def prevLit (l : List Tok) (k : Nat) : Bool := decide (0 < k) && (match l[k - 1]? with | some t => isLit t | none => false)
theorem prevLit_succ {l : List Tok} {k : Nat} {t : Tok} (h : l[k]? = some t) : prevLit l (k + 1) = isLit t := by
  unfold prevLit; simp [h]

set_option maxHeartbeats 4000000 in
set_option maxRecDepth 100000 in
theorem checkToks_walk (dict : Bytes) (A : Option Addr) (n cap : Nat) (l : List Tok) (w : World) (hl : ToksAt w w.heap.size A n l) (hd : dict.length ≤ 256) (hn : n ≤ 4611686018427387904) :
    Calls Try.prog 25 #[S dict, .slice A n cap] w fun e w' => e = .returned (.tuple #[S (play dict l).1, I (play dict l).2]) ∧ Below w.heap.size w w' := by
  go_enter Try.func25, Try.ntmps25
  go_wp2_with fail
  go_loopw [6, 7] (fun sv i wr => ∃ (k : Nat) (s : Bytes), k ≤ n ∧ i = .int .i64 k ∧ sv = S s ∧ dict.length ≤ s.length ∧ s.length ≤ dict.length + 512 ∧
      playF dict.length s (prevLit l k) (l.drop k) = play dict l ∧ Below w.heap.size w wr)
    (fun _ i _ => n - (intOf i).toNat)
  case atStart =>
    refine ⟨0, dict, by omega, rfl, rfl, by omega, by omega, ?_, Below.refl _ _⟩
    unfold play; rw [if_neg (by unfold maxDict; omega)]; rfl
  case round =>
    obtain ⟨k, s, hk, rfl, rfl, hs1, hs2, hpl, hbel⟩ := hrel
    have hd0 : (0 : Int) ≤ (s.length : Int) - (dict.length : Int) := by omega
    have hd1 : (s.length : Int) - (dict.length : Int) ≤ 512 := by omega
    by_cases hkn : k < n
    · obtain ⟨b, off, rfl, hb, hc⟩ := (hl.below hbel).2 (by omega)
      have hkl : k < l.length := by have := hl.1; omega
      have hbw : b < wr.heap.size := Nat.lt_of_lt_of_le hb hbel.size
      obtain ⟨t, ht⟩ : ∃ t, l[k]? = some t := ⟨_, List.getElem?_eq_getElem hkl⟩
      obtain ⟨q0, q1, q2⟩ := hc k t ht
      obtain ⟨tl, tf, tn⟩ := t
      by_cases hlit : tl = []
      · subst hlit
        have HP := hide hpl
        have HT := hide ht
        clear hpl ht hc
        by_cases h1 : 3 ≤ tn ∧ tn ≤ 64
        · obtain ⟨h1, h2⟩ := h1
          by_cases h3 : 1 ≤ tf ∧ tf ≤ (s.length : Int)
          · obtain ⟨h3, h4⟩ := h3
            obtain ⟨f, rfl⟩ := Int.eq_ofNat_of_zero_le (show 0 ≤ tf by omega)
            obtain ⟨m, rfl⟩ := Int.eq_ofNat_of_zero_le (show 0 ≤ tn by omega)
            have hgd : ¬ ((m : Int) < 3 ∨ 64 < (m : Int) ∨ (f : Int) < 1 ∨ (s.length : Int) < (f : Int)) := by omega
            by_cases h5 : 512 < m + (s.length - dict.length)
            · have hE : tokE dict.length s (prevLit l k) ⟨[], f, m⟩ = 2 := by unfold tokE; rw [if_neg (by simp), if_neg hgd, if_pos (by show 512 < (m : Int) + _; omega)]
              have HE := hide hE
              have h6 : 512 - ((s.length : Int) - (dict.length : Int)) < (m : Int) := by omega
              clear hE hgd
              go_wp2_with ((go_at_call 54; first | (refine (within_yes _ _ _ _ ⟨by omega, by omega⟩).mono ?_; rintro e w1 ⟨rfl, rfl⟩) | (refine (within_no _ _ _ _ (by omega)).mono ?_; rintro e w1 ⟨rfl, rfl⟩)))
              go_ret2
              rw [← unhide HP, drop_cons (unhide HT), playF, if_pos (by rw [unhide HE]; omega), unhide HE]
              exact ⟨rfl, hbel.alloc hbel.size _⟩
            · have hE : tokE dict.length s (prevLit l k) ⟨[], f, m⟩ = 0 := by unfold tokE; rw [if_neg (by simp), if_neg hgd, if_neg (by show ¬ 512 < (m : Int) + _; omega)]
              have HE := hide hE
              have h6 : (m : Int) ≤ 512 - ((s.length : Int) - (dict.length : Int)) := by omega
              have h6n : decide (512 - ((s.length : Int) - (dict.length : Int)) < (m : Int)) = false := by simp; omega
              have h4n : decide (s.length < f) = false := by simp; omega
              clear hE hgd
              go_wp2_with ((go_at_call 54; first | (refine (within_yes _ _ _ _ ⟨by omega, by omega⟩).mono ?_; rintro e w1 ⟨rfl, rfl⟩) | (refine (within_no _ _ _ _ (by omega)).mono ?_; rintro e w1 ⟨rfl, rfl⟩)))
              obtain ⟨wo, hwo⟩ : ∃ wo : World, wo = wr := ⟨_, rfl⟩
              go_loop [6, 9] (fun sv i => ∃ j : Nat, j ≤ m ∧ i = .int .i64 j ∧ sv = S (copyB j f s)) (fun _ i => m - (intOf i).toNat)
              case atStart => exact ⟨0, by omega, rfl, rfl⟩
              case round =>
                obtain ⟨j, hj, rfl, rfl⟩ := hrel
                have hcl := copyB_len j f s
                obtain ⟨s', hs'⟩ : ∃ s', s' = copyB j f s := ⟨_, rfl⟩
                rw [← hs'] at hcl
                rw [← hs']
                have HS := hide hs'
                by_cases hjm : j < m
                · obtain ⟨a, ha⟩ : ∃ a : Nat, a = s'.length - f := ⟨_, rfl⟩
                  have ha1 : (s'.length : Int) - (f : Int) = (a : Int) := by omega
                  have ha2 : a < s'.length := by omega
                  obtain ⟨c, hcc⟩ : ∃ c, s'[a]? = some c := ⟨_, List.getElem?_eq_getElem ha2⟩
                  have hso := slice_one hcc
                  have hb3 : s'.length ≤ 832 := by omega
                  have HCC := hide hcc
                  have HA := hide ha
                  clear hcl hs' hcc ha hwo
                  go_wp2_with fail
                  go_round
                  case rel =>
                    refine ⟨j + 1, by omega, by go_num, ?_⟩
                    rw [copyB_snoc, ← unhide HS, ← unhide HA, List.getD_eq_getElem?_getD, unhide HCC]
                    rfl
                  case measure => simp [intOf]; omega
                · have hjm2 : j = m := by omega
                  have HJ := hide hjm2
                  have hb3 : s'.length ≤ dict.length + 512 := by omega
                  have hb4 : dict.length ≤ s'.length := by omega
                  clear hcl hs' hjm2 hwo
                  go_wp2_with fail
                  go_roundw
                  case rel =>
                    refine ⟨k + 1, s', by omega, by go_num, rfl, hb4, hb3, ?_, hbel.alloc hbel.size _⟩
                    have e1 : tokS s ⟨[], f, m⟩ = s' := by rw [unhide HS, unhide HJ]; simp [tokS]
                    rw [← unhide HP, drop_cons (unhide HT), playF, if_neg (by rw [unhide HE]; omega), prevLit_succ (unhide HT), e1]
                  case measure => simp [intOf]; omega
          · have hE : tokE dict.length s (prevLit l k) ⟨[], tf, tn⟩ = 1 := by unfold tokE; rw [if_neg (by simp), if_pos (by show tn < 3 ∨ 64 < tn ∨ tf < 1 ∨ (s.length : Int) < tf; omega)]
            have HE := hide hE
            clear hE
            go_wp2_with ((go_at_call 54; first | (refine (within_yes _ _ _ _ ⟨by omega, by omega⟩).mono ?_; rintro e w1 ⟨rfl, rfl⟩) | (refine (within_no _ _ _ _ (by omega)).mono ?_; rintro e w1 ⟨rfl, rfl⟩)))
            go_ret2
            rw [← unhide HP, drop_cons (unhide HT), playF, if_pos (by rw [unhide HE]; omega), unhide HE]
            exact ⟨rfl, hbel.alloc hbel.size _⟩
        · have hE : tokE dict.length s (prevLit l k) ⟨[], tf, tn⟩ = 1 := by unfold tokE; rw [if_neg (by simp), if_pos (by show tn < 3 ∨ 64 < tn ∨ tf < 1 ∨ (s.length : Int) < tf; omega)]
          have HE := hide hE
          clear hE
          go_wp2_with ((go_at_call 54; first | (refine (within_yes _ _ _ _ ⟨by omega, by omega⟩).mono ?_; rintro e w1 ⟨rfl, rfl⟩) | (refine (within_no _ _ _ _ (by omega)).mono ?_; rintro e w1 ⟨rfl, rfl⟩)))
          go_ret2
          rw [← unhide HP, drop_cons (unhide HT), playF, if_pos (by rw [unhide HE]; omega), unhide HE]
          exact ⟨rfl, hbel.alloc hbel.size _⟩
      · have hl1 : tl.isEmpty = false := by simpa using hlit
        have hl2 : (tl == []) = false := by simpa using hlit
        have HL := hide hlit
        have HP := hide hpl
        have HT := hide ht
        have HCELL := hide hc
        clear hlit hpl ht hc
        by_cases h1 : tf = 0
        · subst h1
          by_cases h2 : tn = 0
          · subst h2
            by_cases hk0 : 0 < k
            · have hk1 : k - 1 < l.length := by omega
              obtain ⟨tp, htp⟩ : ∃ t, l[k - 1]? = some t := ⟨_, List.getElem?_eq_getElem hk1⟩
              obtain ⟨r0, _, _⟩ := (unhide HCELL) (k - 1) tp htp
              obtain ⟨pl, pf, pn⟩ := tp
              have hv : prevLit l k = !pl.isEmpty := by unfold prevLit; rw [htp]; simp [hk0, isLit]
              have hj2 : ((k : Int) - 1).toNat = k - 1 := by omega
              clear htp
              by_cases hpe : pl = []
              · subst hpe
                have HV := hide (show prevLit l k = false by rw [hv]; rfl)
                clear hv
                by_cases h4 : 512 < tl.length + (s.length - dict.length)
                · have hE : tokE dict.length s (prevLit l k) ⟨tl, 0, 0⟩ = 2 := by rw [unhide HV]; simp [tokE, unhide HL, h4]
                  have HE := hide hE
                  have h5 : 512 - ((s.length : Int) - (dict.length : Int)) < (tl.length : Int) := by omega
                  clear hE
                  go_wp2_with fail
                  go_ret2
                  rw [← unhide HP, drop_cons (unhide HT), playF, if_pos (by rw [unhide HE]; omega), unhide HE]
                  exact ⟨rfl, hbel.alloc hbel.size _⟩
                · have hE : tokE dict.length s (prevLit l k) ⟨tl, 0, 0⟩ = 0 := by rw [unhide HV]; simp [tokE, unhide HL]; omega
                  have HE := hide hE
                  have h5 : (tl.length : Int) ≤ 512 - ((s.length : Int) - (dict.length : Int)) := by omega
                  clear hE
                  go_wp2_with fail
                  go_roundw
                  case rel =>
                    refine ⟨k + 1, s ++ tl, by omega, by go_num, rfl, by rw [List.length_append]; omega, by rw [List.length_append]; omega, ?_, hbel.alloc hbel.size _⟩
                    have e1 : tokS s ⟨tl, 0, 0⟩ = s ++ tl := by simp [tokS, unhide HL]
                    rw [← unhide HP, drop_cons (unhide HT), playF, if_neg (by rw [unhide HE]; omega), prevLit_succ (unhide HT), e1]
                  case measure => simp [intOf]; omega
              · have hp1 : pl.isEmpty = false := by simpa using hpe
                have hp2 : (pl == []) = false := by simpa using hpe
                have hE : tokE dict.length s (prevLit l k) ⟨tl, 0, 0⟩ = 1 := by rw [hv, hp1]; simp [tokE, unhide HL]
                have HE := hide hE
                clear hpe hE hv
                go_wp2_with fail
                go_ret2
                rw [← unhide HP, drop_cons (unhide HT), playF, if_pos (by rw [unhide HE]; omega), unhide HE]
                exact ⟨rfl, hbel.alloc hbel.size _⟩
            · have hk1 : k < 1 := by omega
              have HV := hide (show prevLit l k = false by unfold prevLit; simp [hk0])
              by_cases h4 : 512 < tl.length + (s.length - dict.length)
              · have hE : tokE dict.length s (prevLit l k) ⟨tl, 0, 0⟩ = 2 := by rw [unhide HV]; simp [tokE, unhide HL, h4]
                have HE := hide hE
                have h5 : 512 - ((s.length : Int) - (dict.length : Int)) < (tl.length : Int) := by omega
                clear hE
                go_wp2_with fail
                go_ret2
                rw [← unhide HP, drop_cons (unhide HT), playF, if_pos (by rw [unhide HE]; omega), unhide HE]
                exact ⟨rfl, hbel.alloc hbel.size _⟩
              · have hE : tokE dict.length s (prevLit l k) ⟨tl, 0, 0⟩ = 0 := by rw [unhide HV]; simp [tokE, unhide HL]; omega
                have HE := hide hE
                have h5 : (tl.length : Int) ≤ 512 - ((s.length : Int) - (dict.length : Int)) := by omega
                clear hE
                go_wp2_with fail
                go_roundw
                case rel =>
                  refine ⟨k + 1, s ++ tl, by omega, by go_num, rfl, by rw [List.length_append]; omega, by rw [List.length_append]; omega, ?_, hbel.alloc hbel.size _⟩
                  have e1 : tokS s ⟨tl, 0, 0⟩ = s ++ tl := by simp [tokS, unhide HL]
                  rw [← unhide HP, drop_cons (unhide HT), playF, if_neg (by rw [unhide HE]; omega), prevLit_succ (unhide HT), e1]
                case measure => simp [intOf]; omega
          · have z1 : (tn == 0) = false := beq_eq_false_iff_ne.2 h2
            have z2 : (tn != 0) = true := by rw [bne_iff_ne]; exact h2
            have hE : tokE dict.length s (prevLit l k) ⟨tl, 0, tn⟩ = 1 := by simp [tokE, unhide HL, h2]
            have HE := hide hE
            clear h2 hE
            go_wp2_with fail
            go_ret2
            rw [← unhide HP, drop_cons (unhide HT), playF, if_pos (by rw [unhide HE]; omega), unhide HE]
            exact ⟨rfl, hbel.alloc hbel.size _⟩
        · have z1 : (tf == 0) = false := beq_eq_false_iff_ne.2 h1
          have z2 : (tf != 0) = true := by rw [bne_iff_ne]; exact h1
          have hE : tokE dict.length s (prevLit l k) ⟨tl, tf, tn⟩ = 1 := by simp [tokE, unhide HL, h1]
          have HE := hide hE
          clear h1 hE
          go_wp2_with fail
          go_ret2
          rw [← unhide HP, drop_cons (unhide HT), playF, if_pos (by rw [unhide HE]; omega), unhide HE]
          exact ⟨rfl, hbel.alloc hbel.size _⟩
    · have hkn2 : k = n := by omega
      have hpl2 : play dict l = (slice s dict.length s.length, 0) := by
        rw [← hpl, hkn2, List.drop_of_length_le (by have := hl.1; omega), playF, slice_end]
      have HP := hide hpl2
      clear hpl2 hkn2 hpl
      go_wp2_with fail
      go_ret2
      rw [unhide HP]
      exact ⟨rfl, hbel⟩

set_option maxHeartbeats 1000000 in
set_option maxRecDepth 100000 in
theorem checkToks_many (dict : Bytes) (A : Option Addr) (n cap : Nat) (w : World) (hd : 256 < dict.length) (hd2 : dict.length ≤ 9223372036854775807) :
    Calls Try.prog 25 #[S dict, .slice A n cap] w fun e w' => e = .returned (.tuple #[S [], I 2]) ∧ Below w.heap.size w w' := by
  go_enter Try.func25, Try.ntmps25
  go_wp2_with fail
  go_ret2
  exact ⟨rfl, Below.refl _ _⟩
theorem checkToks_any (dict : Bytes) (A : Option Addr) (n cap : Nat) (l : List Tok) (w : World) (hl : ToksAt w w.heap.size A n l) (hd : dict.length ≤ 9223372036854775807) (hn : n ≤ 4611686018427387904) :
    Calls Try.prog 25 #[S dict, .slice A n cap] w fun e w' => e = .returned (.tuple #[S (play dict l).1, I (play dict l).2]) ∧ Below w.heap.size w w' := by
  by_cases h : dict.length ≤ 256
  · exact checkToks_walk dict A n cap l w hl h hn
  · have e : play dict l = ([], 2) := by unfold play; exact if_pos (by unfold maxDict; omega)
    rw [e]; exact checkToks_many dict A n cap w (by omega) hd

end Go.Proofs.Ytgfkkjcnnecefaa
