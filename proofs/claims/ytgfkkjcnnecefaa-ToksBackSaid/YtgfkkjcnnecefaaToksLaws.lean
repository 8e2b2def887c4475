/- The laws ToksPlays, ToksParses, ToksWrites, ToksBack: true for every input. -/
import Derived.Test.YtgfkkjcnnecefaaToksBegun
import Derived.Test.YtgfkkjcnnecefaaPureBack
import Derived.Deep.DeepCutAuto
namespace Go.Proofs.Ytgfkkjcnnecefaa
open Go.RowKit Go.Lib Pl
attribute [local go_sem] ext_list app_list

set_option maxHeartbeats 2000000 in
set_option maxRecDepth 100000 in
theorem toksPlays_any (dict : Bytes) (A : Option Addr) (n cap : Nat) (l : List Tok) (w : World) (hl : ToksAt w w.heap.size A n l) (hd : dict.length ≤ 9223372036854775807) (hn : n ≤ 4611686018427387904) :
    Calls Try.prog 5 #[S dict, .slice A n cap] w fun e w' => e = .returned (.bool true) ∧ Below w.heap.size w w' := by
  have C1 := hide (fun (W : World) (hb : Below w.heap.size w W) => acc (play_any dict A n cap l W (hl.up hb) hd hn) hb)
  have C2 := hide (fun (W : World) (hb : Below w.heap.size w W) => acc (checkToks_any dict A n cap l W (hl.up hb) hd hn) hb)
  have C3 := hide (fun (W : World) (hb : Below w.heap.size w W) => acc (toksBegun_any W) hb)
  have C4 := hide (fun (W : World) (hb : Below w.heap.size w W) => acc (check_any dict A n cap l W (hl.up hb) hd hn) hb)
  have hb0 := Below.refl w.heap.size w
  go_enter Try.func5, Try.ntmps5
  go_wp2_with fail
  refine (unhide C1 _ hb0).mono ?_
  rintro e w1 ⟨rfl, hb1⟩
  go_wp2_with fail
  refine (unhide C2 _ hb1).mono ?_
  rintro e w2 ⟨rfl, hb2⟩
  go_wp2_with fail
  refine (unhide C3 _ hb2).mono ?_
  rintro e w3 ⟨rfl, hb3⟩
  go_wp2_with fail
  refine (unhide C4 _ hb3).mono ?_
  rintro e w4 ⟨rfl, hb4⟩
  go_wp2_with fail
  go_ret
  exact ⟨rfl, hb4⟩

set_option maxHeartbeats 2000000 in
set_option maxRecDepth 100000 in
theorem toksParses_any (dict text : Bytes) (w : World) :
    Calls Try.prog 6 #[S dict, S text] w fun e w' => e = .returned (.bool true) ∧ Below w.heap.size w w' := by
  have hb0 := Below.refl w.heap.size w
  have C3 := hide (fun (W : World) (hb : Below w.heap.size w W) => acc (toksBegun_any W) hb)
  by_cases hm : 256 < dict.length ∨ 512 < text.length
  · have C1 := hide (parse_many dict text w hm)
    by_cases hd : 256 < dict.length
    · have d1 : decide ((dict.length : Int) > 256) = true := by simp; omega
      clear hm
      go_enter Try.func6, Try.ntmps6
      go_wp2_with fail
      refine (unhide C1).mono ?_
      rintro e w1 ⟨rfl, hb1⟩
      go_wp2_with fail
      refine (unhide C3 _ hb1).mono ?_
      rintro e w3 ⟨rfl, hb3⟩
      go_wp2_with fail
      go_ret
      exact ⟨rfl, hb3⟩
    · have d1 : decide ((dict.length : Int) > 256) = false := by simp; omega
      have d2 : decide ((text.length : Int) > 512) = true := by simp; omega
      clear hm hd
      go_enter Try.func6, Try.ntmps6
      go_wp2_with fail
      refine (unhide C1).mono ?_
      rintro e w1 ⟨rfl, hb1⟩
      go_wp2_with fail
      refine (unhide C3 _ hb1).mono ?_
      rintro e w3 ⟨rfl, hb3⟩
      go_wp2_with fail
      go_ret
      exact ⟨rfl, hb3⟩
  · have hd : dict.length ≤ 256 := by omega
    have ht : text.length ≤ 512 := by omega
    have d1 : decide ((dict.length : Int) > 256) = false := by simp; omega
    have d2 : decide ((text.length : Int) > 512) = false := by simp; omega
    have hpl : ∀ l, play dict l = (text, 0) → l.length ≤ 512 := fun l h => play_room (by rw [h])
    have hln : (parse dict text).length ≤ 512 := hpl _ (play_parse hd ht)
    have C1 := hide (parse_walk dict text w hd ht)
    have C2 := hide (fun (W : World) => parseOf_walk dict text W hd ht)
    have C4 := fun (W : World) (A A2 : Option Addr) (n cap n2 cap2 : Nat) (h : ToksAt W W.heap.size A n (parse dict text)) (h2 : ToksAt W W.heap.size A2 n2 (parse dict text)) => sameToks_any A A2 n cap n2 cap2 _ _ W h h2 (by have := h.1; omega)
    rw [decide_eq_true rfl] at C4
    have C4 := hide C4
    clear hm hpl
    go_enter Try.func6, Try.ntmps6
    go_wp2_with fail
    refine (unhide C1).mono ?_
    rintro e w1 ⟨⟨v, rfl, hv⟩, hb1⟩
    have HV := hide hv
    clear hv
    go_wp2_with fail
    refine (toksBegun_any w1).mono ?_
    rintro e w2 ⟨rfl, hb2⟩
    have HV2 := hide ((unhide HV).up hb2)
    go_wp2_with fail
    refine (unhide C2 w2).mono ?_
    rintro e w3 ⟨⟨v2, rfl, hv2⟩, hb3⟩
    obtain ⟨A2, n2, cap2, rfl, hat2⟩ := hv2
    have HAT2 := hide hat2
    obtain ⟨A, n, cap, hve, hat⟩ := (unhide HV2).up hb3
    subst hve
    have HAT := hide hat
    clear hat hat2
    go_wp2_with fail
    refine (unhide C4 _ _ _ _ _ _ _ (unhide HAT) (unhide HAT2)).mono ?_
    rintro e w4 ⟨rfl, hb4⟩
    go_wp2_with fail
    go_ret
    have b2 := hb1.trans (hb2.mono hb1.size)
    have b3 := b2.trans (hb3.mono b2.size)
    exact ⟨rfl, b3.trans (hb4.mono b3.size)⟩

/-- Read, whatever the dictionary -/
theorem read_small {dict s : Bytes} {l : List Tok} (hd : dict.length ≤ 256) (h : Pl.read dict s = some l) : l.length ≤ 512 := by
  have := write_read hd h
  refine play_room (dict := dict) ?_
  unfold write at this
  by_cases hp : (play dict l).2 ≠ 0
  · rw [if_pos hp] at this
    exact absurd (congrArg Prod.snd this) hp
  · exact Decidable.not_not.1 hp

set_option maxHeartbeats 4000000 in
set_option maxRecDepth 100000 in
theorem toksWrites_any (dict : Bytes) (A : Option Addr) (n cap : Nat) (l : List Tok) (s : Bytes) (w : World) (hl : ToksAt w w.heap.size A n l) (hd : dict.length ≤ 9223372036854775807) (hn : n ≤ 4611686018427387904) (hs : s.length ≤ 4611686018427387904) :
    Calls Try.prog 7 #[S dict, .slice A n cap, S s] w fun e w' => e = .returned (.bool true) ∧ Below w.heap.size w w' := by
  obtain ⟨b, hb⟩ : ∃ b, b = (write dict l).1 := ⟨_, rfl⟩
  have hwe : (write dict l).2 = (play dict l).2 := by
    unfold write
    by_cases hp : (play dict l).2 ≠ 0
    · rw [if_pos hp]
    · rw [if_neg hp]; simp only; exact (Decidable.not_not.1 hp).symm
  have C1 := fun (W : World) (hb : Below w.heap.size w W) => acc (write_any dict A n cap l W (hl.up hb) hd hn) hb
  rw [hwe, ← hb] at C1
  have C1 := hide C1
  have C2 := hide (fun (W : World) (hb : Below w.heap.size w W) => acc (checkToks_any dict A n cap l W (hl.up hb) hd hn) hb)
  have C3 := hide (fun (W : World) (hb : Below w.heap.size w W) => acc (toksBegun_any W) hb)
  have hb0 := Below.refl w.heap.size w
  have HB := hide hb
  clear hb hwe
  go_enter Try.func7, Try.ntmps7
  go_wp2_with fail
  refine (unhide C1 _ hb0).mono ?_
  rintro e w1 ⟨rfl, hb1⟩
  go_wp2_with fail
  refine (unhide C2 _ hb1).mono ?_
  rintro e w2 ⟨rfl, hb2⟩
  clear C2
  go_upto_if 30 with fail
  go_cut [11] (fun s11 wx => s11 = S b ∧ Below w.heap.size w wx)
  case first =>
    by_cases hp : (play dict l).2 = 0
    · have hw : b = toksB l := by rw [unhide HB]; unfold write; rw [if_neg (by omega)]
      have C5 := fun (W : World) (hb : Below w.heap.size w W) => acc (tokBytes_any A n cap l W (hl.up hb) (by have := hl.1; have := play_room hp; omega) (play_each hp)) hb
      rw [← hw] at C5
      have C5 := hide C5
      have e1 : (((play dict l).2 : Int) == 0) = true := by rw [hp]; rfl
      clear hw hp
      go_wp2_with fail
      refine (unhide C5 _ hb2).mono ?_
      rintro e w3 ⟨rfl, hb3⟩
      go_wp2_with fail
      go_meet
      exact ⟨rfl, hb3⟩
    · have hw : b = [] := by rw [unhide HB]; unfold write; rw [if_pos hp]
      have e1 : (((play dict l).2 : Int) == 0) = false := by rw [beq_eq_false_iff_ne]; omega
      have HW := hide hw
      clear hw hp
      go_wp2_with fail
      go_meet
      exact ⟨by rw [unhide HW], hb2⟩
  case rest =>
    obtain ⟨rfl, hb3⟩ := hcut
    clear hb2 hb1
    by_cases hdm : 256 < dict.length
    · have d1 : decide ((dict.length : Int) > 256) = true := by simp; omega
      have hp : play dict l = ([], 2) := by unfold play; exact if_pos (by unfold maxDict; omega)
      have hb9 : b = [] := by rw [unhide HB]; unfold write; rw [hp]; rfl
      subst hb9
      have C4 := hide (fun (W : World) (hb : Below w.heap.size w W) => acc (read_many_walk dict s W hdm hd) hb)
      clear hdm hp
      go_wp2_with fail
      refine (unhide C4 _ hb3).mono ?_
      rintro e w4 ⟨rfl, hb4⟩
      go_wp2_with fail
      refine (unhide C3 _ hb4).mono ?_
      rintro e w5 ⟨rfl, hb5⟩
      go_wp2_with fail
      go_ret
      exact ⟨rfl, hb5⟩
    · have hd2 : dict.length ≤ 256 := by omega
      have d1 : decide ((dict.length : Int) > 256) = false := by simp; omega
      clear hdm
      have C4 := hide (fun (W : World) => read_walk dict s W hd2 hs)
      have C5 := hide (fun (W : World) => toksFrom_any dict s W hd2 hs)
      have RS := hide (fun (k : List Tok) (h : Pl.read dict s = some k) => read_small hd2 h)
      obtain ⟨r, hr⟩ : ∃ r, r = Pl.read dict s := ⟨_, rfl⟩
      rw [← hr] at C4 C5 RS
      clear hr
      go_wp2_with fail
      refine (unhide C4 _).mono ?_
      rintro e w4 ⟨⟨v, err, rfl, hv⟩, hb4⟩
      go_wp2_with fail
      refine (unhide C5 _).mono ?_
      rintro e w5 ⟨⟨v2, is, rfl, hv2⟩, hb5⟩
      have hb45 := (hb3.trans (hb4.mono hb3.size)).trans (hb5.mono (Nat.le_trans hb3.size hb4.size))
      cases r with
      | none =>
        rcases hv with ⟨rfl, rfl, _⟩ | ⟨_, k, hk, _⟩
        · rcases hv2 with ⟨rfl, rfl, _⟩ | ⟨_, k, hk, _⟩
          · have hnil : ∀ W : World, ToksAt W W.heap.size none 0 [] := fun W => ⟨rfl, fun h => absurd h (by omega)⟩
            have C6 := fun (W : World) => sameToks_any none none 0 0 0 0 [] [] W (hnil W) (hnil W) (by omega)
            rw [decide_eq_true rfl] at C6
            have C6 := hide C6
            clear hnil
            go_wp2_with fail
            refine (toksBegun_any w5).mono ?_
            rintro e w6 ⟨rfl, hb6⟩
            go_wp2_with fail
            refine (unhide C6 _).mono ?_
            rintro e w7 ⟨rfl, hb7⟩
            go_wp2_with fail
            go_ret
            have b6 := hb45.trans (hb6.mono hb45.size)
            exact ⟨rfl, b6.trans (hb7.mono b6.size)⟩
          · cases hk
        · cases hk
      | some k =>
        rcases hv with ⟨_, _, hk⟩ | ⟨rfl, k1, hk1, hv⟩
        · cases hk
        rcases hv2 with ⟨_, _, hk⟩ | ⟨rfl, k2, hk2, hv2⟩
        · cases hk
        injection hk1 with hk1
        injection hk2 with hk2
        subst hk1
        subst hk2
        have hkn := unhide RS k rfl
        have hv5 := hv.up hb5
        obtain ⟨A1, n1, cap1, rfl, hat1⟩ := hv5
        obtain ⟨A2, n2, cap2, rfl, hat2⟩ := hv2
        have H1 := hide hat1
        have H2 := hide hat2
        have C6 := fun (W : World) (h1 : ToksAt W W.heap.size A1 n1 k) (h2 : ToksAt W W.heap.size A2 n2 k) => sameToks_any A1 A2 n1 cap1 n2 cap2 k k W h1 h2 (by have := h1.1; omega)
        rw [decide_eq_true rfl] at C6
        have C6 := hide C6
        clear hat1 hat2 hv hkn
        go_wp2_with fail
        refine (toksBegun_any w5).mono ?_
        rintro e w6 ⟨rfl, hb6⟩
        go_wp2_with fail
        refine (unhide C6 _ ((unhide H1).up hb6) ((unhide H2).up hb6)).mono ?_
        rintro e w7 ⟨rfl, hb7⟩
        go_wp2_with fail
        go_ret
        have b6 := hb45.trans (hb6.mono hb45.size)
        exact ⟨rfl, b6.trans (hb7.mono b6.size)⟩

/-- Parse, whatever came -/
theorem parse_res (dict text : Bytes) (w : World) : Calls Try.prog 28 #[S dict, S text] w fun e w' => ∃ (v : Value) (err : Int), e = .returned (.tuple #[v, .int .i64 err]) ∧ Below w.heap.size w w' ∧
    ((err = 2 ∧ (256 < dict.length ∨ 512 < text.length)) ∨ (err = 0 ∧ dict.length ≤ 256 ∧ text.length ≤ 512 ∧ ToksV w' v (parse dict text))) := by
  by_cases hm : 256 < dict.length ∨ 512 < text.length
  · exact (parse_many dict text w hm).mono fun e w' ⟨he, hb⟩ => ⟨_, _, he, hb, .inl ⟨rfl, hm⟩⟩
  · exact (parse_walk dict text w (by omega) (by omega)).mono fun e w' ⟨⟨v, he, hv⟩, hb⟩ => ⟨v, 0, he, hb, .inr ⟨rfl, by omega, by omega, hv⟩⟩

set_option maxHeartbeats 4000000 in
set_option maxRecDepth 100000 in
theorem toksBack_any (dict text : Bytes) (A : Option Addr) (n cap : Nat) (l : List Tok) (s : Bytes) (w : World) (hl : ToksAt w w.heap.size A n l) (hd : dict.length ≤ 9223372036854775807) (hn : n ≤ 4611686018427387904) (hs : s.length ≤ 4611686018427387904) :
    Calls Try.prog 8 #[S dict, S text, .slice A n cap, S s] w fun e w' => e = .returned (.bool true) ∧ Below w.heap.size w w' := by
  have C0 := hide (parse_res dict text w)
  go_enter Try.func8, Try.ntmps8
  go_wp2_with fail
  refine (unhide C0).mono ?_
  rintro e w1 ⟨v, err, rfl, hb1, hv⟩
  have HV := hide hv
  clear hv C0
  go_upto_if 28 with fail
  go_cut [10] (fun _ wx => Below w.heap.size w wx)
  case first =>
    rcases unhide HV with ⟨rfl, _⟩ | ⟨rfl, hd2, ht, A1, n1, cap1, rfl, hat⟩
    · go_wp2_with fail
      go_meet
      exact hb1
    · have hpl := play_parse hd2 ht
      have hln : (parse dict text).length ≤ 512 := play_room (by rw [hpl])
      have C2 := fun (W : World) (A : Option Addr) (n cap : Nat) (h : ToksAt W W.heap.size A n (parse dict text)) => play_any dict A n cap _ W h hd (by have := h.1; omega)
      rw [hpl] at C2
      have C2 := hide C2
      have HAT := hide hat
      clear hpl hat HV
      go_wp2_with fail
      refine (unhide C2 _ _ _ _ (unhide HAT)).mono ?_
      rintro e w2 ⟨rfl, hb2⟩
      go_wp2_with fail
      go_meet
      exact hb1.trans (hb2.mono hb1.size)
  case rest =>
  clear hb1
  have hb1 := hcut
  clear hcut HV
  have C1 := hide (fun (W : World) (hb : Below w.heap.size w W) => acc (write_any dict A n cap l W (hl.up hb) hd hn) hb)
  obtain ⟨b, hb⟩ : ∃ b, b = (write dict l).1 := ⟨_, rfl⟩
  obtain ⟨c, hc⟩ : ∃ c, c = (write dict l).2 := ⟨_, rfl⟩
  have C1 := unhide C1
  rw [← hb, ← hc] at C1
  have C1 := hide C1
  have HB := hide hb
  have HC := hide hc
  clear hb hc
  go_wp2_with fail
  refine (unhide C1 _ hb1).mono ?_
  rintro e w2 ⟨rfl, hb2⟩
  clear hb1 C1
  go_upto_if 49 with fail
  go_cut [14] (fun _ wx => Below w.heap.size w wx)
  case first =>
    by_cases hp : c = 0
    · subst hp
      have hp := (unhide HC).symm
      have hrw := read_write hp
      have hd2 : dict.length ≤ 256 := by
        by_cases hd2 : dict.length ≤ 256
        · exact hd2
        · exfalso
          unfold write play at hp
          rw [if_pos (show maxDict < dict.length by unfold maxDict; omega)] at hp
          simp at hp
      have hln := read_small hd2 hrw
      have hwl : (write dict l).1.length ≤ 1000000 := by
        unfold write at hp ⊢
        by_cases h0 : (play dict l).2 ≠ 0
        · rw [if_pos h0]; simp
        · rw [if_neg h0]
          have := toksB_small l (play_each (Decidable.not_not.1 h0))
          simp only; omega
      have C2 := fun (W : World) => read_walk dict (write dict l).1 W hd2 (by omega)
      rw [hrw, ← unhide HB] at C2
      have C4 := fun (W : World) (A2 A3 : Option Addr) (n2 cap2 n3 cap3 : Nat) (h : ToksAt W W.heap.size A2 n2 l) (h2 : ToksAt W W.heap.size A3 n3 l) => sameToks_any A2 A3 n2 cap2 n3 cap3 _ _ W h h2 (by have := h.1; omega)
      rw [decide_eq_true rfl] at C4
      have C2 := hide C2
      have C4 := hide C4
      clear hp hrw hwl
      go_wp2_with fail
      refine (unhide C2 w2).mono ?_
      rintro e w3 ⟨⟨v, err, rfl, hv⟩, hb3⟩
      rcases hv with ⟨_, _, hk⟩ | ⟨rfl, k, hk, hv⟩
      · cases hk
      injection hk with hk
      subst hk
      obtain ⟨A1, n1, cap1, rfl, hat⟩ := hv
      have HAT := hide hat
      have hb4 := hb2.trans (hb3.mono hb2.size)
      have HL := hide (hl.up hb4)
      clear hat
      go_wp2_with fail
      refine (unhide C4 _ _ _ _ _ _ _ (unhide HAT) (unhide HL)).mono ?_
      rintro e w4 ⟨rfl, hb5⟩
      go_wp2_with fail
      go_meet
      exact hb4.trans (hb5.mono hb4.size)
    · have e1 : ((c : Int) == 0) = false := by rw [beq_eq_false_iff_ne]; omega
      clear hp
      go_wp2_with fail
      go_meet
      exact hb2
  case rest =>
  clear hb2
  have hb2 := hcut
  clear hcut HB HC
  have C3 := hide (fun (W : World) (hb : Below w.heap.size w W) => acc (toksBegun_any W) hb)
  by_cases hdm : 256 < dict.length
  · have C4 := hide (fun (W : World) (hb : Below w.heap.size w W) => acc (read_many_walk dict s W hdm hd) hb)
    clear hdm
    go_wp2_with fail
    refine (unhide C4 _ hb2).mono ?_
    rintro e w4 ⟨rfl, hb4⟩
    go_wp2_with fail
    refine (unhide C3 _ hb4).mono ?_
    rintro e w5 ⟨rfl, hb5⟩
    go_wp2_with fail
    go_ret
    exact ⟨rfl, hb5⟩
  · have hd2 : dict.length ≤ 256 := by omega
    cases hr : Pl.read dict s with
    | none =>
      have C4 := fun (W : World) => read_walk dict s W hd2 hs
      rw [hr] at C4
      have C4 := hide C4
      clear hdm hr
      go_wp2_with fail
      refine (unhide C4 _).mono ?_
      rintro e w4 ⟨⟨v, err, rfl, hv⟩, hb4⟩
      rcases hv with ⟨rfl, rfl, _⟩ | ⟨_, k, hk, _⟩
      · go_wp2_with fail
        refine (unhide C3 _ (hb2.trans (hb4.mono hb2.size))).mono ?_
        rintro e w5 ⟨rfl, hb5⟩
        go_wp2_with fail
        go_ret
        exact ⟨rfl, hb5⟩
      · cases hk
    | some k =>
      have hwr := write_read hd2 hr
      have hkn := read_small hd2 hr
      have C4 := fun (W : World) => read_walk dict s W hd2 hs
      rw [hr] at C4
      have C4 := hide C4
      have C5 := fun (W : World) (A2 : Option Addr) (n2 cap2 : Nat) (h : ToksAt W W.heap.size A2 n2 k) => write_any dict A2 n2 cap2 k W h hd (by have := h.1; omega)
      rw [hwr] at C5
      have C5 := hide C5
      clear hdm hr hwr
      go_wp2_with fail
      refine (unhide C4 _).mono ?_
      rintro e w4 ⟨⟨v, err, rfl, hv⟩, hb4⟩
      rcases hv with ⟨_, _, hk⟩ | ⟨rfl, k2, hk, hv⟩
      · cases hk
      injection hk with hk
      subst hk
      obtain ⟨A1, n1, cap1, rfl, hat⟩ := hv
      have HAT := hide hat
      have hb5 := hb2.trans (hb4.mono hb2.size)
      clear hat
      go_wp2_with fail
      refine (unhide C5 _ _ _ _ (unhide HAT)).mono ?_
      rintro e w6 ⟨rfl, hb6⟩
      have hb7 := hb5.trans (hb6.mono hb5.size)
      go_wp2_with fail
      refine (unhide C3 _ hb7).mono ?_
      rintro e w8 ⟨rfl, hb8⟩
      go_wp2_with fail
      go_ret
      exact ⟨rfl, hb8⟩

end Go.Proofs.Ytgfkkjcnnecefaa
