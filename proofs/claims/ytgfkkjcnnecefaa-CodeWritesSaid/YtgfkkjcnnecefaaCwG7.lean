/- The walk of the program's Write (code). -/
import Derived.Test.YtgfkkjcnnecefaaCwG6
import Derived.Deep.OwnRows
import Derived.Deep.AppendLies
import Derived.Test.YtgfkkjcnnecefaaShelf
import Derived.Test.YtgfkkjcnnecefaaShelfB
import Derived.Sort.LotA
import Derived.BigQuiet

namespace Go.Proofs.Ytgfkkjcnnecefaa
open Go.RowKit Go.Lib Pl
attribute [local go_sem] ext_list app_list

theorem and15 (c : UInt8) : bits .and .u8 (c.toNat : Int) 15 = ((c.toNat % 16 : Nat) : Int) := by
  have h : ∀ y : Fin 256, bits .and .u8 (y.val : Int) 15 = ((y.val % 16 : Nat) : Int) := by decide +kernel
  exact h ⟨c.toNat, c.toNat_lt⟩
theorem and15hi (c : UInt8) : bits .and .u8 ((c.toNat : Int) / 16) 15 = ((c.toNat / 16 : Nat) : Int) := by
  have h : ∀ y : Fin 256, bits .and .u8 ((y.val : Int) / 16) 15 = ((y.val / 16 : Nat) : Int) := by decide +kernel
  exact h ⟨c.toNat, c.toNat_lt⟩

/-- the words' array in its variable -/
structure PAt (l : List Int) (w w3 : World) (B D : Nat) : Prop where
  o : w3.heap[D]? = some (.cells (cellsP fun j => (wv l j, ln l j)) 123 (0, 0))
  bel : Below B w w3
  lt : B ≤ D
theorem PAt.made {l : List Int} {w w1 : World} {B : Nat} (h : BoxAt l w w1 B) :
    PAt l w ((w1.alloc (.cells (cellsP fun _ => (0, 0)) 123)).setRow w1.heap.size (cellsP fun j => (wv l j, ln l j))) B w1.heap.size := by
  obtain ⟨ha, hb⟩ := h
  have s1 := (Array.getElem?_eq_some_iff.1 ha).1
  exact ⟨setRow_heap _ _ _ _ _ _ (heap_alloc_new _ _), below_setRow (hb.alloc (by omega) _) (by omega) _, by omega⟩

theorem bound30 {n : Nat} (h : n ≤ 30720) : n + 1 ≤ maxLen ∧ (n + 1) * 1 ≤ 140737488355328 := ⟨by unfold maxLen; omega, by omega⟩
theorem le8 {a b : Nat} (h : a + b = 8) : b ≤ 8 := by omega
theorem u8_mod (b : UInt8) : (b.toNat : Int) % 256 = (b.toNat : Int) := by have := b.toNat_lt; omega
theorem sum22 {a b c : Nat} (h : c = a + b) (h1 : a < 8) (h2 : b ≤ 15) : c ≤ 22 := by omega
theorem sum30 {a b c : Nat} (h : c = a + b) (h1 : a ≤ 4194304) (h2 : b < 32768) : c < 1000000000 := by omega
theorem waitFacts {hv m v : Nat} (h1 : hv < 128) (hm : m ≤ 15) (hv2 : v < 2 ^ m) :
    ∃ P, P = hv * 2 ^ m ∧ P ≤ 4194304 ∧ v < 32768 ∧ wrap64 ((hv : Int) * 2 ^ m) = (P : Int) ∧ bits .or .i64 (P : Int) (v : Int) = ((P + v : Nat) : Int) := by
  have h2 : 2 ^ m ≤ 32768 := Nat.pow_le_pow_right (n := 2) (by decide) hm
  have h3 : hv * 2 ^ m ≤ 128 * 32768 := Nat.mul_le_mul (Nat.le_of_lt h1) h2
  have h4 : v < 32768 := Nat.lt_of_lt_of_le hv2 h2
  have e : (hv : Int) * 2 ^ m = ((hv * 2 ^ m : Nat) : Int) := by norm_cast
  have h5 : ∀ P : Nat, P ≤ 4194304 → wrap64 (P : Int) = (P : Int) := fun P hP => IntWalk.wrap64_in _ ⟨by omega, by omega⟩
  refine ⟨hv * 2 ^ m, rfl, h3, h4, by rw [e]; exact h5 _ h3, ?_⟩
  have h6 : ∀ P : Nat, P ≤ 4194304 → bits .or .i64 (P : Int) (v : Int) = ((P ||| v : Nat) : Int) := fun P hP => i64_or_nat _ _ (by clear h2 h3 hv2 e h5; omega) (by clear h2 h3 hv2 e h5; omega)
  rw [h6 _ h3, ← Nat.shiftLeft_eq, Nat.shiftLeft_add_eq_or_of_lt hv2]

theorem shiftFacts (h p : Nat) : ∃ b : UInt8, b.toNat = h / 2 ^ p % 256 ∧ IntKind.u8.wrap ((h : Int) / 2 ^ p) = (b.toNat : Int) := by
  refine ⟨UInt8.ofNat (h / 2 ^ p), by rw [UInt8.toNat_ofNat'], ?_⟩
  have e : (h : Int) / 2 ^ p = ((h / 2 ^ p : Nat) : Int) := by norm_cast
  rw [e, IntKind.wrap_u8, UInt8.toNat_ofNat']
  generalize h / 2 ^ p = q
  simp
theorem maskFacts {h lf : Nat} (h1 : h < 1000000000) (h2 : lf < 8) :
    ∃ T U : Nat, wrap64 ((2 : Int) ^ lf) = (T : Int) ∧ wrap64 ((T : Int) - 1) = (U : Int) ∧ bits .and .i64 (h : Int) (U : Int) = ((h % 2 ^ lf : Nat) : Int) := by
  have h3 : 2 ^ lf ≤ 128 := Nat.pow_le_pow_right (n := 2) (by decide) (show lf ≤ 7 by omega)
  have h4 : 0 < 2 ^ lf := Nat.pow_pos (by decide)
  have e : (2 : Int) ^ lf = ((2 ^ lf : Nat) : Int) := by norm_cast
  have key : ∀ T : Nat, T ≤ 128 → 0 < T → wrap64 (T : Int) = (T : Int) ∧ wrap64 ((T : Int) - 1) = ((T - 1 : Nat) : Int) ∧ bits .and .i64 (h : Int) ((T - 1 : Nat) : Int) = ((h &&& (T - 1) : Nat) : Int) := by
    clear h3 h4 e
    intro T hT h0
    refine ⟨IntWalk.wrap64_in _ ⟨by omega, by omega⟩, ?_, i64_and_nat _ _ (by omega) (by omega)⟩
    rw [show (T : Int) - 1 = ((T - 1 : Nat) : Int) from by omega]
    exact IntWalk.wrap64_in _ ⟨by omega, by omega⟩
  obtain ⟨a, b, c⟩ := key _ h3 h4
  refine ⟨2 ^ lf, 2 ^ lf - 1, by rw [e]; exact a, b, ?_⟩
  rw [c, Nat.and_two_pow_sub_one_eq_mod]

theorem lastFacts {h left p : Nat} (h1 : h < 2 ^ left) (h2 : left + p = 8) : ∃ b : UInt8, b.toNat = h * 2 ^ p ∧ wrap64 ((h : Int) * 2 ^ p) = (b.toNat : Int) ∧ IntKind.u8.wrap (b.toNat : Int) = (b.toNat : Int) := by
  have h3 : h * 2 ^ p < 2 ^ left * 2 ^ p := Nat.mul_lt_mul_of_pos_right h1 (Nat.pow_pos (by decide))
  rw [← Nat.pow_add, h2] at h3
  have e : (h : Int) * 2 ^ p = ((h * 2 ^ p : Nat) : Int) := by norm_cast
  have key : ∀ q : Nat, q < 256 → ∃ b : UInt8, b.toNat = q ∧ wrap64 (q : Int) = (b.toNat : Int) ∧ IntKind.u8.wrap (b.toNat : Int) = (b.toNat : Int) := by
    clear h3 e h1 h2
    intro q hq
    have hb : (UInt8.ofNat q).toNat = q := by rw [UInt8.toNat_ofNat']; omega
    refine ⟨UInt8.ofNat q, hb, by rw [hb]; exact IntWalk.wrap64_in _ ⟨by omega, by omega⟩, ?_⟩
    rw [hb, IntKind.wrap_u8]; omega
  obtain ⟨b, b1, b2, b3⟩ := key _ h3
  exact ⟨b, b1, by rw [e]; exact b2, b3⟩

set_option maxHeartbeats 8000000 in
set_option maxRecDepth 100000 in
theorem codeWrite_any (KW : WordsSpec) (l : List Int) (s : Bytes) (w : World) (hl : l.length = 16) :
    Calls Try.prog 49 #[A16 l, S s] w fun e w' => e = .returned (.tuple #[S (writeS l s), I (writeE l s)]) ∧ Below w.heap.size w w' := by
  have hz := zero16w
  obtain ⟨i0, hi, hz0, hz1, hz2⟩ := info_parts info_u8
  obtain ⟨B, hB⟩ : ∃ B, B = w.heap.size := ⟨_, rfl⟩
  obtain ⟨w0, hw0⟩ : ∃ w0, w0 = w.alloc (.cells (cells16 l) 64) := ⟨_, rfl⟩
  have hx0 : BoxAt l w w0 B := by rw [hw0, hB]; exact BoxAt.boxed l w
  have CK := checkCode_any l w0 hl
  obtain ⟨e0, he0⟩ : ∃ e0, e0 = checkE l := ⟨_, rfl⟩
  rw [← he0] at CK
  have CK := hide CK
  have HE0 := hide he0
  have HB := hide hB
  have HW0 := hide hw0
  have HX0 := hide hx0
  have HL := hide hl
  have KW := hide KW
  clear he0 hB hw0 hx0 hl
  go_enter Try.func49, Try.ntmps49
  by_cases h0 : e0 = 0
  · subst h0
    have HR := hide (right_of (unhide HL) (unhide HE0).symm)
    by_cases hs1 : s.length ≤ 1024
    · go_wp2_with (first
        | (refine wpList_load16 rfl (.tmp 2) rfl B (by rw [unhide HB]; rfl) l (unhide HL) (by rw [← unhide HW0]; exact (unhide HX0).a) ?_; rw [← unhide HW0, ← unhide HB])
        | (go_at_call 47; refine (unhide CK).mono ?_; rintro e w1 ⟨rfl, hb1⟩; have HX1 := hide ((unhide HX0).below hb1); clear hb1)
        | (refine wpList_load16 rfl (.tmp 2) rfl B rfl l (unhide HL) (unhide HX1).a ?_)
        | (go_at_call 73; refine (unhide KW l _ (unhide HR)).mono ?_; rintro e w2 ⟨rfl, hb2⟩; have HX2 := hide ((unhide HX1).below hb2); clear hb2)
        | (refine wpList_store_row rfl 123 (.tmp 7) (.tmp 22) rfl w2.heap.size _ rfl rfl 123 _ (heap_alloc_new _ _) (by rw [size16w, cellsP_size]) (by rw [cellsP_size, cellsP_size]) (cellsP_one _) ?_; obtain ⟨w3, hw3⟩ : ∃ w3, w3 = (w2.alloc (.cells (cellsP fun _ => (0, 0)) 123)).setRow w2.heap.size (cellsP fun j => (wv l j, ln l j)) := ⟨_, rfl⟩; obtain ⟨g, hg⟩ : ∃ g, g = w2.heap.size := ⟨_, rfl⟩; have HC0 := hide (PAt.made (unhide HX2)); rw [← hw3, ← hg] at HC0; rw [← hw3, ← hg]; clear hw3 hg))
      have hD := (Array.getElem?_eq_some_iff.1 (unhide HC0).o).1
      go_loopw [8, 9, 10, 11, 12, 26] (fun v h m _ _ i wr => ∃ (k : Nat) (out : Bytes) (hv left : Nat), k ≤ 2 * s.length ∧ i = .int .i64 k ∧ h = .int .i64 hv ∧ m = .int .i64 left ∧ WSt l s k out hv left ∧ wr.ownsRow (g + 1) 5 1 v out.length (out.map Go.Proofs.Ytgfkkjcnnecefaa.B) ∧ Below (g + 1) w3 wr) (fun _ _ _ _ _ i _ => 2 * s.length - (intOf i).toNat)
      case atStart => exact ⟨0, [], 0, 0, by omega, rfl, rfl, rfl, WSt.start l s, World.ownsRow_nil _ _ _ _, Below.refl _ _⟩
      case round =>
        obtain ⟨k, out, hv, left, hk, rfl, rfl, rfl, hx, hown, hbel⟩ := hrel
        have HX := hide hx
        have HOWN := hide hown
        have HBEL := hide hbel
        clear hx hown hbel
        by_cases hkn : k < 2 * s.length
        · obtain ⟨q, r, hkq, hr2⟩ : ∃ q r, k = 2 * q + r ∧ r < 2 := ⟨k / 2, k % 2, by omega, by omega⟩
          have hq : q < s.length := by omega
          obtain ⟨c, hcc⟩ : ∃ c, (⟨s.toArray⟩ : ByteArray)[q]'hq = c := ⟨_, rfl⟩
          have hsc : s[q]? = some c := by rw [List.getElem?_eq_getElem hq]; exact congrArg some hcc
          obtain ⟨n1, n2⟩ := nibs_get hsc
          have hc256 : c.toNat < 256 := c.toNat_lt
          -- the sign
          obtain ⟨x, hx16, hnx, hxr⟩ : ∃ x, x < 16 ∧ (nibs s)[k]? = some x ∧ ((r = 0 ∧ x = c.toNat / 16) ∨ (r = 1 ∧ x = c.toNat % 16)) := by
            rcases (show r = 0 ∨ r = 1 by omega) with e | e
            · exact ⟨c.toNat / 16, by omega, by rw [hkq, e]; exact n1, .inl ⟨e, rfl⟩⟩
            · exact ⟨c.toNat % 16, by omega, by rw [hkq, e]; exact n2, .inr ⟨e, rfl⟩⟩
          have t1 : (k : Int).tdiv 2 = (q : Int) := by rw [Int.tdiv_eq_ediv_of_nonneg (by omega)]; omega
          have t2 : (k : Int) / 2 = (q : Int) := by omega
          have t3 : (k : Int).tmod 2 = (r : Int) := by rw [Int.tmod_eq_emod_of_nonneg (by omega)]; omega
          have a1 := and15 c
          have a2 := and15hi c
          have hgo := (unhide HC0).o
          have hgo2 := ((unhide HBEL).block g (by omega)).trans hgo
          have c1 : wr.cell? ⟨g, x * 2, none⟩ = some (I (wv l x)) := by rw [cell_of_row _ _ _ _ _ _ hgo2]; exact cellsP_get0 _ _ hx16
          have c2 : wr.cell? ⟨g, x * 2 + 1, none⟩ = some (I (ln l x)) := by rw [cell_of_row _ _ _ _ _ _ hgo2]; exact cellsP_get1 _ _ hx16
          have d1 : decide ((k : Int) < 2 * (s.length : Int)) = true := by rw [decide_eq_true_eq]; omega
          have hgs : g < wr.heap.size := Nat.lt_of_lt_of_le hD (unhide HBEL).size
          obtain ⟨m, hm⟩ : ∃ m, m = ln l x := ⟨_, rfl⟩
          obtain ⟨v, hv2⟩ : ∃ v, v = wv l x := ⟨_, rfl⟩
          rw [← hv2] at c1
          rw [← hm] at c2
          have hm15 : m ≤ 15 := by rw [hm]; exact (unhide HR).one x
          have HM := hide hm
          have HV := hide hv2
          have HNX := hide hnx
          have HSC := hide hsc
          have HKQ := hide hkq
          clear hm hv2 hnx hsc n1 n2 hgo hgo2
          have aa : (r = 0 ∧ bits .and .u8 ((c.toNat : Int) / 16) 15 = (x : Int)) ∨ (r = 1 ∧ bits .and .u8 (c.toNat : Int) 15 = (x : Int)) := by
            rcases hxr with ⟨e, hxc⟩ | ⟨e, hxc⟩
            · exact .inl ⟨e, by rw [hxc]; exact a2⟩
            · exact .inr ⟨e, by rw [hxc]; exact a1⟩
          clear a1 a2 hxr hkq
          have hst := hide (fun h0 => (unhide HX).next (unhide HR) (unhide HNX) hx16 h0)
          rw [← unhide HM, ← unhide HV] at hst
          by_cases hm0 : m = 0
          · have hlx : lacks l (nibs s) = true := lacks_of_take (i := k + 1) (by rw [lacks_snoc (unhide HNX), ← unhide HM, hm0]; simp)
            have HLX := hide hlx
            have z1 : ((m : Int) == 0) = true := by rw [hm0]; rfl
            have z2 : (m == 0) = true := by rw [hm0]; rfl
            have hbw : Below B w w3 := (unhide HC0).bel
            have hbr : Below B w (wr.alloc (.cells #[Value.int .i64 v, Value.int .i64 m] 122)) := (hbw.trans ((unhide HBEL).mono (by have := (unhide HC0).lt; omega))).alloc (by have := hbw.size; have := (unhide HC0).lt; omega) _
            have HBR := hide hbr
            clear hlx hst hm0 hbw hbr
            rcases aa with ⟨rfl, a1⟩ | ⟨rfl, a1⟩
            all_goals
              go_wp2_with fail
              go_ret2
              obtain ⟨e1, e2⟩ := writeE_none (unhide HE0).symm (by omega) (unhide HLX)
              rw [e1, e2, ← unhide HB]
              exact ⟨rfl, unhide HBR⟩
          · have hst2 := unhide hst (by omega)
            have hh128 := hst2.2.2
            have HST := hide hst2
            have z1 : ((m : Int) == 0) = false := by rw [beq_eq_false_iff_ne]; omega
            have z2 : (m == 0) = false := by rw [beq_eq_false_iff_ne]; omega
            clear hst hst2
            obtain ⟨P, hP, hP2, hvb, hsh, hor⟩ := waitFacts (v := v) hh128 hm15 (by rw [unhide HV, unhide HM]; exact wv_lt (unhide HR) hx16 (by rw [← unhide HM]; exact Nat.pos_of_ne_zero hm0))
            have HP := hide hP
            have HSH := hide hsh
            have HOR := hide hor
            clear hP hsh hor
            obtain ⟨h2, hh2⟩ : ∃ h2, h2 = P + v := ⟨_, rfl⟩
            obtain ⟨L, hL⟩ : ∃ L, L = left + m := ⟨_, rfl⟩
            obtain ⟨X, hX⟩ : ∃ X, X = encK l ((nibs s).take (k + 1)) := ⟨_, rfl⟩
            have hleft := (unhide HX).lt
            have hadd : wrap64 ((left : Int) + (m : Int)) = (L : Int) := by
              rw [hL]; exact IntWalk.wrap64_in _ ⟨by omega, by omega⟩
            have hwt := (unhide HST).1
            rw [← unhide HP, ← hh2, ← hL, ← hX] at hwt
            have hXl : X.length ≤ 30720 := by
              have := encK_len (unhide HR) ((nibs s).take (k + 1))
              rw [List.length_take, nibs_len] at this
              rw [hX]; omega
            have hL22 : L ≤ 22 := sum22 hL hleft hm15
            have hh30 : h2 < 1000000000 := sum30 hh2 hP2 hvb
            have hor := unhide HOR
            rw [← hh2] at hor
            have hsh := unhide HSH
            have HWT := hide hwt
            have HXX := hide hX
            clear hh2 hL hX hP2 hvb hwt hleft
            rcases aa with ⟨rfl, a1⟩ | ⟨rfl, a1⟩
            all_goals
              go_wp2_with fail
              go_quiet (fail)
              simp only [hsh, hadd]
              obtain ⟨w4, hw4⟩ : ∃ w4, w4 = (wr.alloc (.cells #[Value.int .i64 v, Value.int .i64 m] 122)).drewN nq := ⟨_, rfl⟩
              have hb4 : Below (g + 1) w3 w4 := by rw [hw4]; exact below_drewN ((unhide HBEL).alloc (by omega) _) _
              have hown4 : w4.ownsRow (g + 1) 5 1 u8 out.length (out.map Go.Proofs.Ytgfkkjcnnecefaa.B) := by rw [hw4]; exact (unhide HOWN).alloc _
              rw [← hw4]
              have HB4 := hide hb4
              have HOWN4 := hide hown4
              clear hw4 hb4 hown4 c1 c2 z1 z2 a1 t1 t2 t3 hsh hor hadd
              go_wp2_with fail
              go_loopw [8, 10] (fun v m w5 => ∃ (out2 : Bytes) (lf : Nat), m = .int .i64 lf ∧ lf ≤ 22 ∧ Wait X out.length out2 h2 lf ∧ w5.ownsRow (g + 1) 5 1 v out2.length (out2.map Go.Proofs.Ytgfkkjcnnecefaa.B) ∧ Below (g + 1) w3 w5) (fun _ m _ => (intOf m).toNat)
              case atStart => exact ⟨out, L, rfl, hL22, unhide HWT, unhide HOWN4, unhide HB4⟩
              case round =>
                obtain ⟨out2, lf, rfl, hlf22, hw2, hown2, hbel2⟩ := hrel
                have HW2 := hide hw2
                have HOWN2 := hide hown2
                have HBEL2 := hide hbel2
                have hol : out2.length ≤ 30720 := by have := hw2.len; omega
                clear hw2
                by_cases hlf : lf < 8
                · obtain ⟨T, U, m1, m2, m3⟩ := maskFacts hh30 hlf
                  obtain ⟨h3, hh3⟩ : ∃ h3, h3 = h2 % 2 ^ lf := ⟨_, rfl⟩
                  rw [← hh3] at m3
                  have HH3 := hide hh3
                  clear hh3 hown2 hbel2
                  go_wp2_with fail
                  go_roundw
                  case rel => exact ⟨k + 1, out2, h3, lf, by omega, by go_num, rfl, rfl, ⟨by rw [unhide HH3, ← unhide HXX]; exact (unhide HW2).cut, hlf, (unhide HST).2.1⟩, unhide HOWN2, unhide HBEL2⟩
                  case measure => simp [intOf]; omega
                · obtain ⟨p, hp⟩ : ∃ p, lf = p + 8 := ⟨lf - 8, by omega⟩
                  obtain ⟨b, hb1, hb2⟩ := shiftFacts h2 p
                  have hw8 : IntKind.i64.wrap ((lf : Int) - 8) = (p : Int) := by
                    rw [hp, show ((p + 8 : Nat) : Int) - 8 = (p : Int) from by omega]
                    exact IntWalk.i64_in _ ⟨by omega, by omega⟩
                  have hst3 := (unhide HW2).step (show 8 ≤ lf by omega) b (by rw [show lf - 8 = p from by omega]; exact hb1)
                  rw [show lf - 8 = p from by omega] at hst3
                  have HST3 := hide hst3
                  have HP8 := hide hp
                  have hsz := hbel2.size
                  have hp22 : p ≤ 22 := by omega
                  have hsz2 : g + 1 ≤ wr.heap.size := by omega
                  clear hst3 hb1 hp
                  go_wp2_with (at_builtin; refine wpList_push rfl _ _ _ rfl (g + 1) 5 i0 _ 1 Try.underlying73 hi hz0 hz1 hz2 rfl _ _ _ rfl hown2 _ _ rfl rfl ?_ ?_ hsz2 ?_; (unfold maxLen; omega); omega; intro v' w' hown' hb hg; have HOWN' := hide (own_byte b hown' rfl); have HB' := hide hb; clear hown' hb hg)
                  go_roundw
                  case rel =>
                    first
                      | exact ⟨out2 ++ [b], p, rfl, hp22, unhide HST3, by simpa using unhide HOWN', (unhide HBEL2).trans (unhide HB')⟩
                      | ((repeat apply Exists.intro); exact ⟨⟨out2 ++ [b], p, rfl, hp22, unhide HST3, by simpa using unhide HOWN', (unhide HBEL2).trans (unhide HB')⟩, rfl⟩)
                  case measure =>
                    have := unhide HP8
                    simp [intOf]; omega
        · have hk' : k = 2 * s.length := by omega
          subst hk'
          have hfin := unhide HX
          have hnl : (nibs s).take (2 * s.length) = nibs s := List.take_of_length_le (by rw [nibs_len]; exact Nat.le_refl _)
          have hwt := hfin.wait
          have hlk := hfin.has
          rw [hnl] at hwt hlk
          obtain ⟨e1, e2⟩ := writeE_ok (unhide HE0).symm (by omega) hlk
          have hle8 := hfin.lt
          have hbw : Below B w wr := (unhide HC0).bel.trans ((unhide HBEL).mono (by have := (unhide HC0).lt; omega))
          have HBW := hide hbw
          have HE1 := hide e1
          have HE2 := hide e2
          by_cases hl0 : left = 0
          · subst hl0
            have hd := hwt.done
            have hst := run_str_own (P := Try.prog) (unhide HOWN) 73 9 Try.underlying73 Try.underlying5 Try.underlying9
            have HD := hide hd
            clear hfin hwt hlk e1 e2 hbw hd hnl
            go_wp2_with fail
            go_ret2
            rw [unhide HE1, unhide HE2, ← unhide HD, ← unhide HB]
            exact ⟨rfl, unhide HBW⟩
          · obtain ⟨p, hp⟩ : ∃ p, left + p = 8 := ⟨8 - left, by omega⟩
            have hvl := hwt.lt
            rw [Nat.sub_self, Nat.mul_zero, Nat.zero_add] at hvl
            obtain ⟨b, b1, b2, b3⟩ := lastFacts hvl hp
            have hd := hwt.last (by omega) hle8 b (by rw [show 8 - left = p from by omega]; exact b1)
            have hw8 : IntKind.i64.wrap (8 - (left : Int)) = (p : Int) := by
              rw [show 8 - (left : Int) = (p : Int) from by omega]
              exact IntWalk.i64_in _ ⟨by omega, by omega⟩
            have hol : out.length ≤ 30720 := by
              have := encK_len (unhide HR) (nibs s)
              rw [nibs_len] at this
              have := hwt.len
              omega
            have hown := unhide HOWN
            have hsz : g + 1 ≤ wr.heap.size := by have := (unhide HBEL).size; omega
            have HD := hide hd
            have hbd := bound30 hol
            have hp8 : p ≤ 8 := le8 hp
            have b4 := u8_mod b
            clear hfin hwt hlk e1 e2 hbw hd hnl hvl b1 hp
            go_wp2_with (at_builtin; refine wpList_push rfl _ _ _ rfl (g + 1) 5 i0 _ 1 Try.underlying73 hi hz0 hz1 hz2 rfl _ _ _ rfl hown _ _ rfl rfl ?_ ?_ hsz ?_; exact hbd.1; exact hbd.2; intro v' w' hown' hb hg; have hst := run_str_own (P := Try.prog) (own_byte b hown' rfl) 73 9 Try.underlying73 Try.underlying5 Try.underlying9; clear hown')
            go_ret2
            rw [unhide HE1, unhide HE2, ← unhide HD, ← unhide HB]
            exact ⟨rfl, (unhide HBW).trans (hb.mono (by have := (unhide HC0).lt; omega))⟩
    · have HS1 := hide hs1
      have hs2 : (1024 : Int) < (s.length : Int) := by omega
      clear hs1
      go_wp2_with (first
        | (refine wpList_load16 rfl (.tmp 2) rfl B (by rw [unhide HB]; rfl) l (unhide HL) (by rw [← unhide HW0]; exact (unhide HX0).a) ?_; rw [← unhide HW0, ← unhide HB])
        | (go_at_call 47; refine (unhide CK).mono ?_; rintro e w1 ⟨rfl, hb1⟩; have HX1 := hide ((unhide HX0).below hb1); clear hb1))
      go_ret2
      obtain ⟨e1, e2⟩ := writeE_many (l := l) (unhide HE0).symm (show 1024 < s.length by have := unhide HS1; omega)
      rw [e1, e2, ← unhide HB]
      exact ⟨rfl, (unhide HX1).bel⟩
  · have z1 : ((e0 : Int) == 0) = false := by rw [beq_eq_false_iff_ne]; omega
    have z2 : ((e0 : Int) != 0) = true := by rw [bne_iff_ne]; omega
    have H0 := hide h0
    clear h0
    go_wp2_with (first
      | (refine wpList_load16 rfl (.tmp 2) rfl B (by rw [unhide HB]; rfl) l (unhide HL) (by rw [← unhide HW0]; exact (unhide HX0).a) ?_; rw [← unhide HW0, ← unhide HB])
      | (go_at_call 47; refine (unhide CK).mono ?_; rintro e w1 ⟨rfl, hb1⟩; have HX1 := hide ((unhide HX0).below hb1); clear hb1))
    go_ret2
    obtain ⟨e1, e2⟩ := writeE_code (l := l) (s := s) (by rw [← unhide HE0]; exact unhide H0)
    rw [e1, e2, ← unhide HE0, ← unhide HB]
    exact ⟨rfl, (unhide HX1).bel⟩

end Go.Proofs.Ytgfkkjcnnecefaa

/- The walk of the reference's ReadCode. -/
namespace Go.Proofs.Ytgfkkjcnnecefaa
open Go.RowKit Go.Lib Pl
attribute [local go_sem] ext_list app_list

theorem CodeAt.keep {l : List Int} {w wr w1 : World} {B g M : Nat} (h : CodeAt l w wr B g) (hB : B < M) (hg : g < M) (hb : Below M wr w1) : CodeAt l w w1 B g :=
  ⟨(hb.block B hB).trans h.a, (hb.block g hg).trans h.o, h.bel.trans (hb.mono (by omega))⟩
theorem unpack_take {b : Bytes} {k : Nat} {c : UInt8} (h : b[k]? = some c) : unpackB (b.take (k + 1)) = unpackB (b.take k) ++ bt c.toNat 8 := by
  rw [List.take_add_one, h, unpackB_app]; simp [unpackB]
theorem slice_end (x : Bytes) (m : Nat) : slice x m x.length = x.drop m := by unfold slice; rw [List.take_length]

/-- a row that is not empty -/
theorem row_some {w : World} {base n : Nat} {e : TypeId} {v : Value} {xs : List Value} (h : w.ownsRow base e 1 v (n + 1) xs) : ∃ g cap, v = .slice (some ⟨g, 0, none⟩) ((n + 1 : Nat)) cap := by
  rcases h.2 with ⟨_, h0⟩ | ⟨g, cap, cur, hv, _⟩
  · exact absurd h0 (by omega)
  · exact ⟨g, cap, hv⟩
theorem row_ge {w : World} {base n cap g : Nat} {e : TypeId} {xs : List Value} (h : w.ownsRow base e 1 (.slice (some ⟨g, 0, none⟩) n cap) n xs) : base ≤ g := (h.lt g rfl).1
theorem row_last {w : World} {base n cap g j : Nat} {e : TypeId} {h0 : Bytes} {c : UInt8} (h : w.ownsRow base e 1 (.slice (some ⟨g, 0, none⟩) n cap) n ((h0 ++ [c]).map B)) (hj : h0.length = j) : w.cell? ⟨g, j, none⟩ = some (.int .u8 (c.toNat : Int)) := by
  have hl := h.1
  simp at hl
  rw [h.cellAt j (by omega)]
  subst hj
  simp [B]
theorem row_set {w : World} {base n cap g j : Nat} {e : TypeId} {h0 : Bytes} {c d : UInt8} {x : Int} (h : w.ownsRow base e 1 (.slice (some ⟨g, 0, none⟩) n cap) n (((h0 ++ [c]).map B).set j (.int .u8 x))) (hj : h0.length = j) (hd : (d.toNat : Int) = x) :
    w.ownsRow base e 1 (.slice (some ⟨g, 0, none⟩) n cap) n ((h0 ++ [d]).map B) := by
  subst hj; subst hd
  have e : ((h0 ++ [c]).map B).set h0.length (.int .u8 (d.toNat : Int)) = (h0 ++ [d]).map B := by simp [B]
  rw [e] at h; exact h
theorem bits_8 (n : Nat) (w : World) (hn : n < 256) :
    Calls Try.prog 76 #[I n, .int .i64 8] w fun e w' => e = .returned (S (bstr (bt n 8))) ∧ Below w.heap.size w w' :=
  bits_any 8 n w (by decide) (Nat.le_trans (Nat.le_of_lt hn) (by decide))

attribute [local go_sem ↓] concat_list in
set_option maxHeartbeats 8000000 in
set_option maxRecDepth 100000 in
theorem readCode_any (l : List Int) (b : Bytes) (n : Int) (w : World) (hl : l.length = 16) (hb : b.length ≤ 4611686018427387904) (hn1 : -9223372036854775808 ≤ n) (hn2 : n ≤ 9223372036854775807) :
    Calls Try.prog 52 #[A16 l, S b, .int .i64 n] w fun e w' => e = .returned (.tuple #[S (readS l b n), I (readE l b n)]) ∧ Below w.heap.size w w' := by
  have hz := zero16s
  obtain ⟨B0, hB⟩ : ∃ B0, B0 = w.heap.size := ⟨_, rfl⟩
  obtain ⟨w0, hw0⟩ : ∃ w0, w0 = w.alloc (.cells (cells16 l) 64) := ⟨_, rfl⟩
  have hx0 : BoxAt l w w0 B0 := by rw [hw0, hB]; exact BoxAt.boxed l w
  have CK := checkCodeR_any l w0 hl
  obtain ⟨e0, he0⟩ : ∃ e0, e0 = checkE l := ⟨_, rfl⟩
  rw [← he0] at CK
  have CK := hide CK
  have HE0 := hide he0
  have HB := hide hB
  have HW0 := hide hw0
  have HX0 := hide hx0
  have HL := hide hl
  clear he0 hB hw0 hx0 hl
  go_enter Try.func52, Try.ntmps52
  by_cases h0 : e0 = 0
  · subst h0
    have HR := hide (right_of (unhide HL) (unhide HE0).symm)
    by_cases hn : n < 0 ∨ 1024 < n
    · have C1 := hide (fun (W : World) => within_no n 0 1024 W (by omega))
      have HN := hide hn
      clear hn
      go_wp2_with (first
        | (refine wpList_load16 rfl (.tmp 3) rfl B0 (by rw [unhide HB]; rfl) l (unhide HL) (by rw [← unhide HW0]; exact (unhide HX0).a) ?_; rw [← unhide HW0, ← unhide HB])
        | (go_at_call 48; refine (unhide CK).mono ?_; rintro e w1 ⟨rfl, hb1⟩; have HX1 := hide ((unhide HX0).below hb1); clear hb1)
        | (go_at_call 54; refine (unhide C1 _).mono ?_; rintro e w2 ⟨rfl, rfl⟩))
      go_ret2
      obtain ⟨e1, e2⟩ := readE_range (b := b) (unhide HE0).symm (unhide HN)
      rw [e1, e2, ← unhide HB]
      exact ⟨rfl, (unhide HX1).bel⟩
    · have C1 := hide (fun (W : World) => within_yes n 0 1024 W ⟨by omega, by omega⟩)
      have HN := hide hn
      obtain ⟨N, rfl⟩ := Int.eq_ofNat_of_zero_le (show 0 ≤ n by omega)
      have hN : N ≤ 1024 := by omega
      clear hn hn1 hn2
      by_cases hlong : 4 * N < b.length
      · have hd1 : 4 * (N : Int) < (b.length : Int) := by omega
        have hres : readE l b N = 1 ∧ readS l b N = [] := by
          cases hd : decN l (2 * N) (unpackB b) with
          | none => exact readE_none (unhide HE0).symm (unhide HN) hd
          | some q => obtain ⟨ks, r⟩ := q; exact readE_left (unhide HE0).symm (unhide HN) hd (dec_long (unhide HR) hlong hd)
        have HRES := hide hres
        clear hres hlong
        go_wp2_with (first
          | (refine wpList_load16 rfl (.tmp 3) rfl B0 (by rw [unhide HB]; rfl) l (unhide HL) (by rw [← unhide HW0]; exact (unhide HX0).a) ?_; rw [← unhide HW0, ← unhide HB])
          | (go_at_call 48; refine (unhide CK).mono ?_; rintro e w1 ⟨rfl, hb1⟩; have HX1 := hide ((unhide HX0).below hb1); clear hb1)
          | (go_at_call 54; refine (unhide C1 _).mono ?_; rintro e w2 ⟨rfl, rfl⟩))
        go_ret2
        rw [(unhide HRES).1, (unhide HRES).2, ← unhide HB]
        exact ⟨rfl, (unhide HX1).bel⟩
      · have hd1 : (b.length : Int) ≤ 4 * (N : Int) := by omega
        have hb4 : b.length ≤ 4096 := by omega
        clear hlong hb
        go_wp2_with (first
          | (refine wpList_load16 rfl (.tmp 3) rfl B0 (by rw [unhide HB]; rfl) l (unhide HL) (by rw [← unhide HW0]; exact (unhide HX0).a) ?_; rw [← unhide HW0, ← unhide HB])
          | (go_at_call 48; refine (unhide CK).mono ?_; rintro e w1 ⟨rfl, hb1⟩; have HX1 := hide ((unhide HX0).below hb1); clear hb1)
          | (go_at_call 54; refine (unhide C1 _).mono ?_; rintro e w2 ⟨rfl, rfl⟩))
        go_loopw [9, 10] (fun a i wr => ∃ k : Nat, k ≤ b.length ∧ i = .int .i64 k ∧ a = S (bstr (unpackB (b.take k))) ∧ BoxAt l w wr B0) (fun _ i _ => b.length - (intOf i).toNat)
        case atStart => exact ⟨0, by omega, rfl, rfl, unhide HX1⟩
        case round =>
          obtain ⟨k, hk, rfl, rfl, hx⟩ := hrel
          have HXR := hide hx
          clear hx
          by_cases hkb : k < b.length
          · obtain ⟨c, hcc⟩ : ∃ c, (⟨b.toArray⟩ : ByteArray)[k]'hkb = c := ⟨_, rfl⟩
            have hbc : b[k]? = some c := by rw [List.getElem?_eq_getElem hkb]; exact congrArg some hcc
            have hnx := unpack_take hbc
            have hc256 : c.toNat < 256 := c.toNat_lt
            have C2 := hide (fun (W : World) => bits_8 c.toNat W c.toNat_lt)
            obtain ⟨bx, hbx⟩ : ∃ bx, bx = bstr (unpackB (b.take k)) := ⟨_, rfl⟩
            obtain ⟨by', hby⟩ : ∃ by', by' = bstr (bt c.toNat 8) := ⟨_, rfl⟩
            have hl1 : bx.length ≤ 100000 := by rw [hbx, bstr_len, unpackB_len, List.length_take]; omega
            have hl2 : by'.length ≤ 100 := by rw [hby, bstr_len, bt_len]; omega
            have k1 : bx.length + by'.length ≤ 9223372036854775807 := by omega
            have hall : bstr (unpackB (b.take (k + 1))) = bx ++ by' := by rw [hnx, bstr_app, hbx, hby]
            rw [← hby] at C2
            rw [← hbx]
            have HALL := hide hall
            clear hbc hnx hbx hby hall
            go_wp2_with (go_at_call 76; refine (unhide C2 _).mono ?_; rintro e w3 ⟨rfl, hb3⟩; have HX3 := hide ((unhide HXR).below hb3); clear hb3)
            go_roundw
            case rel => exact ⟨k + 1, by omega, by go_num, by rw [unhide HALL], unhide HX3⟩
            case measure => simp [intOf]; omega
          · have hk' : k = b.length := by omega
            subst hk'
            rw [List.take_length]
            go_wp2_with (first
              | (refine wpList_load16 rfl (.tmp 3) rfl B0 rfl l (unhide HL) (unhide HXR).a ?_)
              | (go_at_call 74; refine (refWords_any l _ (unhide HR)).mono ?_; rintro e w4 ⟨rfl, hb4⟩; have HX4 := hide ((unhide HXR).below hb4); clear hb4)
              | (refine wpList_store_row rfl 125 (.tmp 11) (.tmp 44) rfl w4.heap.size _ rfl rfl 125 _ (heap_alloc_new _ _) (by rw [size16s, cellsS_size]) (by rw [cellsS_size, cellsS_size]) (cellsS_one _) ?_; obtain ⟨w5, hw5⟩ : ∃ w5, w5 = (w4.alloc (.cells (cellsS fun _ => []) 125)).setRow w4.heap.size (cellsS fun j => bstr (wordB l j)) := ⟨_, rfl⟩; obtain ⟨g, hg⟩ : ∃ g, g = w4.heap.size := ⟨_, rfl⟩; have HC5 := hide (CodeAt.made (unhide HX4)); rw [← hw5, ← hg] at HC5; rw [← hw5, ← hg]; clear hw5 hg))
            obtain ⟨M, hM⟩ : ∃ M, M = w5.heap.size := ⟨_, rfl⟩
            have hBM : B0 < M := by rw [hM]; exact (Array.getElem?_eq_some_iff.1 (unhide HC5).a).1
            have hgM : g < M := by rw [hM]; exact (Array.getElem?_eq_some_iff.1 (unhide HC5).o).1
            have hM1 : M ≤ w5.heap.size := by omega
            clear hM
            obtain ⟨i0, hi, hz0, hz1, hz2⟩ := info_parts info_u8
            go_loopw [9, 12, 13, 14] (fun a v i _ wq => ∃ (q n : Nat) (ks : List Nat) (R : List Bool), i = .int .i64 q ∧ a = S (bstr R) ∧ DecAt l (unpackB b) (2 * N) q ks R ∧ wq.ownsRow M 5 1 v n ((half ks).map B) ∧ CodeAt l w wq B0 g ∧ M ≤ wq.heap.size) (fun _ _ i _ _ => 2 * N - (intOf i).toNat)
            case atStart => exact ⟨0, 0, [], unpackB b, rfl, rfl, DecAt.start l _ _, World.ownsRow_nil _ _ _ _, unhide HC5, hM1⟩
            case round =>
              obtain ⟨q, n, ks, R, rfl, rfl, hdec, hown, hc, hsz⟩ := hrel
              have hqN := hdec.le
              have HDEC := hide hdec
              have HC := hide hc
              have hkn : (half ks).length = n := by have := hown.1; simpa using this
              have hn2 : n = (q + 1) / 2 := by rw [← hkn, half_len, hdec.len]
              obtain ⟨bs, hbs⟩ : ∃ bs, bs = bstr R := ⟨_, rfl⟩
              have hRl : R.length ≤ 40000 := by
                have := hdec.short
                rw [unpackB_len] at this; omega
              have hbl : bs.length ≤ 40000 := by rw [hbs, bstr_len]; exact hRl
              by_cases hq : q < 2 * N
              · have C3 := fun (W : World) => front_any l R W (unhide HR) (by omega)
                have d1 : (q : Int) < 2 * (N : Int) := by omega
                cases hf : frontP l R with
                | none =>
                  have hdn := hdec.none hq hf
                  have hfi : frontI l R = -1 := by unfold frontI; rw [hf]
                  rw [hfi] at C3
                  have C3 := hide C3
                  have HDN := hide hdn
                  clear hdec hc hf hdn hfi hkn hn2 hbs
                  go_wp2_with (first
                    | (refine wpList_load16 rfl (.tmp 3) rfl B0 rfl l (unhide HL) (unhide HC).a ?_)
                    | (refine wpList_load_row rfl 125 (.tmp 11) rfl g rfl 125 _ (0, 0) _ (unhide HC).o Try.underlying125 rfl (by rw [size16s, cellsS_size]) ?_)
                    | (go_at_call 77; refine (unhide C3 _).mono ?_; rintro e w6 ⟨rfl, hb6⟩; have HC6 := hide ((unhide HC).below hb6); clear hb6))
                  go_ret2
                  obtain ⟨e1, e2⟩ := readE_none (unhide HE0).symm (unhide HN) (unhide HDN)
                  rw [e1, e2, ← unhide HB]
                  exact ⟨rfl, (unhide HC6).bel⟩
                | some k =>
                  obtain ⟨hk16, hk0, hkp⟩ := front_some hf
                  have hfi : frontI l R = (k : Int) := by unfold frontI; rw [hf]
                  rw [hfi] at C3
                  have hst := hdec.step hq hf
                  have hml : ln l k ≤ bs.length := by
                    obtain ⟨t, ht⟩ := hkp
                    rw [hbs, bstr_len, ← ht, List.length_append, wordB_len]; omega
                  have hsl : slice bs (ln l k) bs.length = bstr (R.drop (ln l k)) := by rw [slice_end, hbs]; exact (List.map_drop ..).symm
                  have hksf := hdec.fine
                  have hkl := hdec.len
                  rw [← hbs] at C3
                  rw [← hbs]
                  obtain ⟨m, hm⟩ : ∃ m, m = ln l k := ⟨_, rfl⟩
                  rw [← hm] at hml hsl
                  have C3 := hide C3
                  have HST := hide hst
                  have HSL := hide hsl
                  have HM := hide hm
                  by_cases hpar : q % 2 = 0
                  · have p1 : (q : Int).tmod 2 = 0 := by rw [Int.tmod_eq_emod_of_nonneg (by omega)]; omega
                    have hev := half_even (ks := ks) (by omega) k
                    have HEV := hide hev
                    have hnb : n ≤ 5000 := by omega
                    clear hdec hc hf hkp hfi hst hsl hm hksf hkl hkn hbs hev hn2
                    go_wp2_with (first
                      | (refine wpList_load16 rfl (.tmp 3) rfl B0 rfl l (unhide HL) (unhide HC).a ?_)
                      | (refine wpList_load_row rfl 125 (.tmp 11) rfl g rfl 125 _ (0, 0) _ (unhide HC).o Try.underlying125 rfl (by rw [size16s, cellsS_size]) ?_)
                      | (go_at_call 77; (refine (unhide C3 _).mono ?_; rintro e w6 ⟨rfl, hb6⟩; have HC6 := hide ((unhide HC).below hb6); have hown6 := own_below hown hb6; have hsz6 : M ≤ w6.heap.size := Nat.le_trans hsz hb6.size; have hc1 := (unhide HC6).len (unhide HR) hk16; rw [← unhide HM] at hc1; clear hb6))
                      | (at_builtin; refine wpList_push rfl _ _ _ rfl M 5 i0 _ 1 Try.underlying73 hi hz0 hz1 hz2 rfl _ _ _ rfl hown6 _ _ rfl rfl ?_ ?_ hsz6 ?_; (unfold maxLen; omega); omega; intro v' w' hown' hb hg; have HC7 := hide ((unhide HC6).keep hBM hgM hb); have hsz7 : M ≤ w'.heap.size := Nat.le_trans hsz6 hb.size; have hown7 := own_byte (UInt8.ofNat (16 * k)) hown' (by rw [ofNat_toNat (by omega)]; omega); rw [← unhide HEV] at hown7; clear hown' hb hg))
                    go_roundw
                    case rel => exact ⟨q + 1, n + 1, ks ++ [k], R.drop (ln l k), by go_num, by rw [unhide HSL, unhide HM], unhide HST, hown7, unhide HC7, hsz7⟩
                    case measure => simp [intOf]; omega
                  · have p1 : (q : Int).tmod 2 = 1 := by rw [Int.tmod_eq_emod_of_nonneg (by omega)]; omega
                    obtain ⟨h0, x, hx16, hh1, hh2, hh3⟩ := half_odd (ks := ks) (by omega) (fun k hk => (hksf k hk).1) k
                    have hj : h0.length = q / 2 := by rw [hh3, hkl]
                    obtain ⟨j, hjj⟩ : ∃ j, j = q / 2 := ⟨_, rfl⟩
                    rw [← hjj] at hj
                    obtain ⟨n', hn'⟩ : ∃ n', n = n' + 1 := ⟨n - 1, by omega⟩
                    subst hn'
                    obtain ⟨g2, cap, rfl⟩ := row_some hown
                    have hjn : j < n' + 1 := by omega
                    have hj5 : j ≤ 5000 := by omega
                    have hjn2 : (j : Int) < (n' : Int) + 1 := by omega
                    have hjn3 : (j : Int) < ((n' + 1 : Nat) : Int) := by omega
                    have q1 : (q : Int).tdiv 2 = (j : Int) := by rw [Int.tdiv_eq_ediv_of_nonneg (by omega)]; omega
                    have q2 : IntKind.i64.wrap ((q : Int) / 2) = (j : Int) := by
                      have e : (q : Int) / 2 = (j : Int) := by omega
                      rw [e]; exact IntWalk.i64_in _ ⟨by omega, by omega⟩
                    rw [hh1] at hown
                    have hx2 : ((UInt8.ofNat (16 * x)).toNat : Int) = 16 * (x : Int) := by rw [ofNat_toNat (by omega)]; omega
                    obtain ⟨bx, hbx⟩ : ∃ bx, bx = UInt8.ofNat (16 * x) := ⟨_, rfl⟩
                    rw [← hbx] at hown hx2
                    have HH2 := hide hh2
                    have HX2 := hide hx2
                    have HJ := hide hj
                    have hgM2 : M ≤ g2 := row_ge hown
                    clear hdec hc hf hkp hfi hst hsl hm hksf hkl hkn hbs hh1 hh2 hh3 hj hjj hbx hx2 hn2
                    go_wp2_with (first
                      | (refine wpList_load16 rfl (.tmp 3) rfl B0 rfl l (unhide HL) (unhide HC).a ?_)
                      | (refine wpList_load_row rfl 125 (.tmp 11) rfl g rfl 125 _ (0, 0) _ (unhide HC).o Try.underlying125 rfl (by rw [size16s, cellsS_size]) ?_)
                      | (go_at_call 77; refine (unhide C3 _).mono ?_; rintro e w6 ⟨rfl, hb6⟩; have HC6 := hide ((unhide HC).below hb6); have hown6 := own_below hown hb6; have hsz6 : M ≤ w6.heap.size := Nat.le_trans hsz hb6.size; have hc1 := (unhide HC6).len (unhide HR) hk16; rw [← unhide HM] at hc1; have hc2 : w6.cell? ⟨g2, j, none⟩ = some (.int .u8 (16 * (x : Int))) := (row_last hown6 (unhide HJ)).trans (by rw [← unhide HX2]); have hc3 := hown6.frozenAt j; clear hb6))
                    go_roundw
                    case rel =>
                      have hst2 := hown6.stored j (.int .u8 (16 * (x : Int) + (k : Int)))
                      refine ⟨q + 1, n' + 1, ks ++ [k], R.drop (ln l k), by go_num, by rw [unhide HSL, unhide HM], unhide HST, ?_, (unhide HC6).keep hBM hgM ((Below.refl _ _).setCell hgM2 _), by simpa using hsz6⟩
                      rw [unhide HH2]
                      exact row_set hst2.1 (unhide HJ) (by rw [ofNat_toNat (k := 16 * x + k) (by omega)]; omega)
                    case measure => simp [intOf]; omega
              · have hq2 : q = 2 * N := by omega
                subst hq2
                have hdn := hdec.done
                obtain ⟨w1', w2', w3'⟩ := write_dec (unhide HE0).symm hN hdn
                obtain ⟨o, ho⟩ : ∃ o, o = half ks := ⟨_, rfl⟩
                rw [← ho] at w1' w2' w3' hown
                have C4 := hide (fun (W : World) => writeCode_any l o W (unhide HL) (by omega))
                have hcv := run_str_own (P := Try.prog) hown 73 9 Try.underlying73 Try.underlying5 Try.underlying9
                obtain ⟨t, ht⟩ : ∃ t, t = writeS l o := ⟨_, rfl⟩
                rw [← ht] at C4 w2'
                have HDN := hide hdn
                have HO := hide ho
                have hnq : ¬ (((2 * N : Nat) : Int) < 2 * (N : Int)) := by omega
                cases hg : goodRest R with
                | true =>
                  have htb := w2'.2 hg
                  have z1 : (t == b) = true := by rw [beq_iff_eq]; exact htb
                  have z2 : (t != b) = false := by rw [bne_eq_false_iff_eq]; exact htb
                  obtain ⟨e1, e2⟩ := readE_ok (unhide HE0).symm (unhide HN) hdn hg
                  rw [← ho] at e2
                  have HE1 := hide e1
                  have HE2 := hide e2
                  clear hdec hc hdn w1' w2' w3' ho ht hg htb e1 e2 hkn hn2 hbs
                  go_wp2_with (first
                    | (refine wpList_load16 rfl (.tmp 3) rfl B0 rfl l (unhide HL) (unhide HC).a ?_)
                    | (go_at_call 50; refine (unhide C4 _).mono ?_; rintro e w6 ⟨rfl, hb6⟩; have HC6 := hide ((unhide HC).below hb6); have hcv6 := run_str_own (P := Try.prog) (own_below hown hb6) 73 9 Try.underlying73 Try.underlying5 Try.underlying9; clear hb6))
                  go_ret2
                  rw [unhide HE1, unhide HE2, ← unhide HB]
                  exact ⟨rfl, (unhide HC6).bel⟩
                | false =>
                  have htb : ¬ t = b := fun e => by
                    have := w2'.1 e
                    rw [hg] at this; cases this
                  have z1 : (t == b) = false := by rw [beq_eq_false_iff_ne]; exact htb
                  have z2 : (t != b) = true := by rw [bne_iff_ne]; exact htb
                  obtain ⟨e1, e2⟩ := readE_left (unhide HE0).symm (unhide HN) hdn hg
                  have HE1 := hide e1
                  have HE2 := hide e2
                  clear hdec hc hdn w1' w2' w3' ho ht hg htb e1 e2 hkn hn2 hbs
                  go_wp2_with (first
                    | (refine wpList_load16 rfl (.tmp 3) rfl B0 rfl l (unhide HL) (unhide HC).a ?_)
                    | (go_at_call 50; refine (unhide C4 _).mono ?_; rintro e w6 ⟨rfl, hb6⟩; have HC6 := hide ((unhide HC).below hb6); clear hb6))
                  go_ret2
                  rw [unhide HE1, unhide HE2, ← unhide HB]
                  exact ⟨rfl, (unhide HC6).bel⟩
  · have z1 : ((e0 : Int) == 0) = false := by rw [beq_eq_false_iff_ne]; omega
    have z2 : ((e0 : Int) != 0) = true := by rw [bne_iff_ne]; omega
    have H0 := hide h0
    clear h0
    go_wp2_with (first
      | (refine wpList_load16 rfl (.tmp 3) rfl B0 (by rw [unhide HB]; rfl) l (unhide HL) (by rw [← unhide HW0]; exact (unhide HX0).a) ?_; rw [← unhide HW0, ← unhide HB])
      | (go_at_call 48; refine (unhide CK).mono ?_; rintro e w1 ⟨rfl, hb1⟩; have HX1 := hide ((unhide HX0).below hb1); clear hb1))
    go_ret2
    obtain ⟨e1, e2⟩ := readE_code (l := l) (b := b) (n := n) (by rw [← unhide HE0]; exact unhide H0)
    rw [e1, e2, ← unhide HE0, ← unhide HB]
    exact ⟨rfl, (unhide HX1).bel⟩

end Go.Proofs.Ytgfkkjcnnecefaa

/- Plain mathematics of the program's own way to read with a code. No program in sight. -/
namespace Go.Proofs.Ytgfkkjcnnecefaa
namespace Pl

/-- what stands in the bytes that are made, so many signs found -/
def outO (ks : List Nat) (N : Nat) : Bytes := half ks ++ List.replicate (N - (half ks).length) 0
theorem outO_len {ks : List Nat} {N : Nat} (h : ks.length ≤ 2 * N) : (outO ks N).length = N := by
  unfold outO
  rw [List.length_append, List.length_replicate, half_len]; omega
theorem outO_full {ks : List Nat} {N : Nat} (h : ks.length = 2 * N) : outO ks N = half ks := by
  unfold outO
  rw [show N - (half ks).length = 0 from by rw [half_len]; omega]; simp
theorem outO_even {ks : List Nat} {N q k : Nat} (h : ks.length = 2 * q) (hq : q < N) : (outO ks N)[q]? = some 0 ∧ outO (ks ++ [k]) N = (outO ks N).set q (UInt8.ofNat (16 * k)) := by
  have hl : (half ks).length = q := by rw [half_len]; omega
  have hr : List.replicate (N - q) (0 : UInt8) = 0 :: List.replicate (N - (q + 1)) 0 := by rw [show N - q = (N - (q + 1)) + 1 from by omega, List.replicate_succ]
  unfold outO
  rw [half_even (by omega), List.length_append, List.length_singleton, hl, hr]
  refine ⟨?_, ?_⟩
  · rw [List.getElem?_append_right (by omega), hl, Nat.sub_self]; rfl
  · rw [List.set_append_right _ _ (by omega), hl, Nat.sub_self]; simp
theorem outO_odd {ks : List Nat} {N q k : Nat} (h : ks.length = 2 * q + 1) (hk : ∀ x ∈ ks, x < 16) : ∃ a, a < 16 ∧ (outO ks N)[q]? = some (UInt8.ofNat (16 * a)) ∧ outO (ks ++ [k]) N = (outO ks N).set q (UInt8.ofNat (16 * a + k)) := by
  obtain ⟨h0, a, ha, e1, e2, e3⟩ := half_odd (show ks.length % 2 = 1 by omega) hk k
  have hl0 : h0.length = q := by omega
  refine ⟨a, ha, ?_, ?_⟩
  · unfold outO
    rw [e1, List.append_assoc, List.getElem?_append_right (by omega), hl0, Nat.sub_self]; rfl
  · unfold outO
    rw [e1, e2, List.length_append, List.length_append, List.length_singleton, List.length_singleton, List.append_assoc, List.append_assoc, List.set_append_right _ _ (by omega), hl0, Nat.sub_self]; simp
theorem front_of_word {l : List Int} (hr : Right l) {R : List Bool} {t x : Nat} (ht : t ≤ R.length) (hx : x < 16) (h0 : 0 < ln l x) (hq : (val (R.take t), t) = (wv l x, ln l x)) : frontP l R = some x := by
  obtain ⟨e1, e2⟩ := Prod.ext_iff.1 hq
  simp only at e1 e2
  have hw : wordB l x = R.take t := by
    unfold wordB
    rw [← e1, ← e2]
    have := bt_val (R.take t)
    rwa [List.length_take, Nat.min_eq_left ht] at this
  exact front_hit hr hx h0 (hw ▸ List.take_prefix t R)
theorem word_of_front {l : List Int} (hr : Right l) {R : List Bool} {x : Nat} (h : frontP l R = some x) : x < 16 ∧ 0 < ln l x ∧ ln l x ≤ R.length ∧ (val (R.take (ln l x)), ln l x) = (wv l x, ln l x) := by
  obtain ⟨h1, h2, h3⟩ := front_some h
  obtain ⟨t, ht⟩ := h3
  have e : R.take (ln l x) = wordB l x := by rw [← ht, List.take_append_of_le_length (by rw [wordB_len]; omega), List.take_of_length_le (by rw [wordB_len]; omega)]
  refine ⟨h1, h2, ?_, by rw [e, wordB_val hr h1 h2]⟩
  rw [← ht, List.length_append, wordB_len]; omega
theorem val_take_succ {R : List Bool} {s : Nat} {x : Bool} (h : R[s]? = some x) : val (R.take (s + 1)) = 2 * val (R.take s) + bvT x := by
  rw [List.take_add_one, h]; exact val_snoc _ _

end Pl
end Go.Proofs.Ytgfkkjcnnecefaa

/- The walk of the program's Read (code). -/
namespace Go.Proofs.Ytgfkkjcnnecefaa
open Go.RowKit Go.Lib Pl
attribute [local go_sem] ext_list app_list

theorem bitOf (c : UInt8) (r : Nat) (hr : r < 8) : bits .and .i64 ((c.toNat : Int) / 2 ^ (7 - r)) 1 = (bvT ((bt c.toNat 8)[r]'(by rw [bt_len]; exact hr)) : Int) := by
  have h : ∀ (y : Fin 256) (k : Fin 8), bits .and .i64 ((y.val : Int) / 2 ^ (7 - k.val)) 1 = (bvT ((bt y.val 8)[k.val]?.getD false) : Int) := by decide +kernel
  have := h ⟨c.toNat, c.toNat_lt⟩ ⟨r, hr⟩
  simp only at this
  rw [this, List.getElem?_eq_getElem (by rw [bt_len]; exact hr)]; rfl
theorem unpack_get : ∀ {b : Bytes} {q r : Nat} {c : UInt8}, b[q]? = some c → r < 8 → (unpackB b)[8 * q + r]? = (bt c.toNat 8)[r]?
  | [], q, r, c, h, _ => by simp at h
  | d :: b, 0, r, c, h, hr => by
    simp at h; subst h
    rw [unpackB_cons, Nat.mul_zero, Nat.zero_add, List.getElem?_append_left (by rw [bt_len]; exact hr)]
  | d :: b, q + 1, r, c, h, hr => by
    rw [unpackB_cons, List.getElem?_append_right (by rw [bt_len]; omega), bt_len, show 8 * (q + 1) + r - 8 = 8 * q + r from by omega]
    exact unpack_get (by simpa using h) hr
theorem read_arith {p q r t : Nat} (h : p = 8 * q + r) (hr : r < 8) (ht : t = 7 - r) (hb : p ≤ 2000000000000000) :
    (p : Int).tdiv 8 = (q : Int) ∧ (p : Int) / 8 = (q : Int) ∧ (p : Int).tmod 8 = (r : Int) ∧ IntKind.i64.wrap (7 - (r : Int)) = (t : Int) ∧ IntKind.i64.wrap ((p : Int) + 1) = ((p + 1 : Nat) : Int) := by
  refine ⟨by rw [Int.tdiv_eq_ediv_of_nonneg (by omega)]; omega, by omega, by rw [Int.tmod_eq_emod_of_nonneg (by omega)]; omega, ?_, ?_⟩
  · rw [show 7 - (r : Int) = (t : Int) from by omega]; exact IntWalk.i64_in _ ⟨by omega, by omega⟩
  · rw [show (p : Int) + 1 = ((p + 1 : Nat) : Int) from by omega]; exact IntWalk.i64_in _ ⟨by omega, by omega⟩

set_option maxHeartbeats 1000000 in
set_option maxRecDepth 100000 in
/-- the next bit -/
theorem readBit_any (Bs Ba : Nat) (b : Bytes) (p : Nat) (x : Bool) (w : World) (hs : w.cell? ⟨Bs, 0, none⟩ = some (S b)) (ha : w.cell? ⟨Ba, 0, none⟩ = some (I p)) (hf : w.frozen? ⟨Ba, 0, none⟩ = false)
    (hx : (unpackB b)[p]? = some x) (hp : p ≤ 2000000000000000) :
    Calls Try.prog 75 #[.pointer (some ⟨Bs, 0, none⟩), .pointer (some ⟨Ba, 0, none⟩)] w fun e w' => e = .returned (I (bvT x)) ∧ ∃ q, w' = (w.setCell ⟨Ba, 0, none⟩ (I ((p + 1 : Nat)))).drewN q := by
  obtain ⟨q, r, hpq, hr⟩ : ∃ q r, p = 8 * q + r ∧ r < 8 := ⟨p / 8, p % 8, by omega, by omega⟩
  have hpl := (List.getElem?_eq_some_iff.1 hx).1
  rw [unpackB_len] at hpl
  have hq : q < b.length := by omega
  obtain ⟨c, hcc⟩ : ∃ c, (⟨b.toArray⟩ : ByteArray)[q]'hq = c := ⟨_, rfl⟩
  have hbc : b[q]? = some c := by rw [List.getElem?_eq_getElem hq]; exact congrArg some hcc
  have hg := unpack_get hbc hr
  rw [← hpq, hx, List.getElem?_eq_getElem (by rw [bt_len]; exact hr)] at hg
  injection hg with hg
  have hbit := bitOf c r hr
  rw [← hg] at hbit
  obtain ⟨t, ht⟩ : ∃ t, t = 7 - r := ⟨_, rfl⟩
  rw [← ht] at hbit
  obtain ⟨a1, a2, a3, a4, a5⟩ := read_arith hpq hr ht hp
  have ht7 : t ≤ 7 := by omega
  obtain ⟨z, hz⟩ : ∃ z, z = bvT x := ⟨_, rfl⟩
  rw [← hz] at hbit ⊢
  have hc256 : c.toNat < 256 := c.toNat_lt
  clear hpq hbc hg ht hz hx hpl
  go_enter Try.func75, Try.ntmps75
  go_wp2_with fail
  go_quiet (fail)
  go_wp2_with fail
  go_ret
  exact ⟨rfl, _, rfl⟩

theorem take_two {α : Type} {L : List α} {i : Nat} {x y : α} (h1 : L[i]? = some x) (h2 : L[i + 1]? = some y) : (L.drop i).take 2 = [x, y] := by
  obtain ⟨a1, a2⟩ := List.getElem?_eq_some_iff.1 h1
  obtain ⟨b1, b2⟩ := List.getElem?_eq_some_iff.1 h2
  rw [List.drop_eq_getElem_cons a1, List.drop_eq_getElem_cons b1, a2, b2]; rfl
/-- an element of an array of words -/
theorem run_indexP (f : Nat → Nat × Nat) (k : Nat) (hk : k < 16) (w : World) : (Instr.index 123 (AP f) (.int .i64 k)).run Try.prog w = .ok (.agg #[I (f k).1, I (f k).2]) w := by
  unfold Instr.index
  simp [run_underlying Try.underlying123, asIntOf, Result.andThen, part, Try.isAgg122, Try.sizeOf122]
  rw [if_pos hk]
  have e := take_two (L := (cellsP f).toList) (i := k * 2) (x := I (f k).1) (y := I (f k).2) (by rw [Array.getElem?_toList]; exact cellsP_get0 f k hk) (by rw [Array.getElem?_toList]; exact cellsP_get1 f k hk)
  unfold cellsP at e
  simp only at e
  rw [e]

/-- the array, the text and the map, where they lie -/
structure MapAt (l : List Int) (b : Bytes) (w wr : World) (B M n : Nat) (g : Nat × Nat → Option Nat) : Prop where
  a : wr.heap[B]? = some (.cells (cells16 l) 64 (0, 0))
  s : wr.heap[B + 1]? = some (.cells #[S b] 9 (0, 0))
  m : WordMap wr M n g
  lt : B + 2 ≤ M
  bel : Below B w wr
theorem MapAt.below {l : List Int} {b : Bytes} {w wr w1 : World} {B M n : Nat} {g : Nat × Nat → Option Nat} (h : MapAt l b w wr B M n g) (hb : Below wr.heap.size wr w1) : MapAt l b w w1 B M n g := by
  have s3 := h.m.lt
  have s4 := h.lt
  exact ⟨(hb.block B (by omega)).trans h.a, (hb.block (B + 1) (by omega)).trans h.s, h.m.keep (hb.block M s3), s4, h.bel.trans (hb.mono (by omega))⟩
theorem MapAt.mono {l : List Int} {b : Bytes} {w wr : World} {B M n n' : Nat} {g : Nat × Nat → Option Nat} (h : MapAt l b w wr B M n g) (hn : n ≤ n') : MapAt l b w wr B M n' g := by
  obtain ⟨D, ho, r⟩ := h.m
  exact ⟨h.a, h.s, ⟨D, ho.mono hn, r⟩, h.lt, h.bel⟩
theorem MapAt.alloc {l : List Int} {b : Bytes} {w wr : World} {B M n : Nat} {g : Nat × Nat → Option Nat} (h : MapAt l b w wr B M n g) (o : Obj) : MapAt l b w (wr.alloc o) B M n g := h.below ((Below.refl _ _).alloc (Nat.le_refl _) _)
theorem MapAt.put {l : List Int} {b : Bytes} {w wr w1 : World} {B M n n' : Nat} {g g' : Nat × Nat → Option Nat} (h : MapAt l b w wr B M n g) (hm : WordMap w1 M n' g') (hg : wr.grownBy w1 (some M)) : MapAt l b w w1 B M n' g' := by
  have s3 := h.m.lt
  have s4 := h.lt
  refine ⟨(hg.block B (by omega) (by intro e; injection e with e; omega)).trans h.a, (hg.block (B + 1) (by omega) (by intro e; injection e with e; omega)).trans h.s, hm, s4, ?_⟩
  exact h.bel.grown hg (by have := h.bel.size; omega) (fun k hk => by injection hk with hk; omega)

/-- what lies in memory while it is read -/
structure RdSt (l : List Int) (b : Bytes) (w wr : World) (B0 M G p : Nat) (o : Bytes) : Prop where
  s : wr.heap[B0 + 1]? = some (.cells #[S b] 9 (0, 0))
  m : WordMap wr M 16 (signOf l 16)
  o : wr.heap[G]? = some (.cells (o.map B).toArray 5 (0, 0))
  c : wr.heap[G + 1]? = some (.cells #[I p] 3 (0, 0))
  bel : Below B0 w wr
  l1 : B0 + 2 ≤ M
  l2 : M < G
theorem RdSt.size {l : List Int} {b o : Bytes} {w wr : World} {B0 M G p : Nat} (h : RdSt l b w wr B0 M G p o) : G + 2 ≤ wr.heap.size := (Array.getElem?_eq_some_iff.1 h.c).1
theorem RdSt.keep {l : List Int} {b o : Bytes} {w wr w1 : World} {B0 M G p : Nat} (h : RdSt l b w wr B0 M G p o) (hb : Below (G + 2) wr w1) : RdSt l b w w1 B0 M G p o := by
  have h1 := h.l1
  have h2 := h.l2
  exact ⟨(hb.block _ (by omega)).trans h.s, h.m.keep (hb.block _ (by omega)), (hb.block _ (by omega)).trans h.o, (hb.block _ (by omega)).trans h.c, h.bel.trans (hb.mono (by omega)), h1, h2⟩
theorem RdSt.setAt {l : List Int} {b o : Bytes} {w wr : World} {B0 M G p : Nat} (h : RdSt l b w wr B0 M G p o) (p' : Nat) : RdSt l b w (wr.setCell ⟨G + 1, 0, none⟩ (I p')) B0 M G p' o := by
  have h1 := h.l1
  have h2 := h.l2
  refine ⟨(heap_setCell_other _ _ _ _ (by show B0 + 1 ≠ G + 1; omega)).trans h.s, h.m.keep (heap_setCell_other _ _ _ _ (by show M ≠ G + 1; omega)), (heap_setCell_other _ _ _ _ (by show G ≠ G + 1; omega)).trans h.o, ?_, h.bel.setCell (by show B0 ≤ G + 1; omega) _, h1, h2⟩
  rw [heap_setCell_same _ _ _ _ _ _ h.c]; rfl
theorem RdSt.setOut {l : List Int} {b o : Bytes} {w wr : World} {B0 M G p : Nat} (h : RdSt l b w wr B0 M G p o) (q : Nat) (c : UInt8) : RdSt l b w (wr.setCell ⟨G, q, none⟩ (.int .u8 (c.toNat : Int))) B0 M G p (o.set q c) := by
  have h1 := h.l1
  have h2 := h.l2
  refine ⟨(heap_setCell_other _ _ _ _ (by show B0 + 1 ≠ G; omega)).trans h.s, h.m.keep (heap_setCell_other _ _ _ _ (by show M ≠ G; omega)), ?_, (heap_setCell_other _ _ _ _ (by show G + 1 ≠ G; omega)).trans h.c, h.bel.setCell (by show B0 ≤ G; omega) _, h1, h2⟩
  rw [heap_setCell_same _ _ _ _ _ _ h.o]
  simp [B, List.map_set]
theorem RdSt.text {l : List Int} {b o : Bytes} {w wr : World} {B0 M G p : Nat} (h : RdSt l b w wr B0 M G p o) : wr.cell? ⟨B0 + 1, 0, none⟩ = some (S b) := by rw [cell_of_row _ _ _ _ _ _ h.s]; rfl
theorem RdSt.at_ {l : List Int} {b o : Bytes} {w wr : World} {B0 M G p : Nat} (h : RdSt l b w wr B0 M G p o) : wr.cell? ⟨G + 1, 0, none⟩ = some (I p) := by rw [cell_of_row _ _ _ _ _ _ h.c]; rfl
theorem RdSt.free {l : List Int} {b o : Bytes} {w wr : World} {B0 M G p : Nat} (h : RdSt l b w wr B0 M G p o) : wr.frozen? ⟨G + 1, 0, none⟩ = false := frozen_of_row _ _ 0 _ _ h.c
theorem RdSt.byte {l : List Int} {b o : Bytes} {w wr : World} {B0 M G p q : Nat} {c : UInt8} (h : RdSt l b w wr B0 M G p o) (hq : o[q]? = some c) : wr.cell? ⟨G, q, none⟩ = some (.int .u8 (c.toNat : Int)) := by rw [cell_of_row _ _ _ _ _ _ h.o]; simp [hq, B]
theorem made_zeros (n : Nat) : madeCells #[.int .u8 0] n = ((List.replicate n (0 : UInt8)).map B).toArray := by
  apply Array.ext_getElem?
  intro j
  by_cases hj : j < n
  · simp [madeCells, hj, B, Nat.mod_one]
  · simp [madeCells, hj]
/-- in the midst of a word: not yet found; or found, and written -/
def RdIn (l : List Int) (b : Bytes) (w wr : World) (B0 M G E N p : Nat) (ks : List Nat) (R : List Bool) (f : Value) : Prop :=
  (f = .bool false ∧ ∃ s, s ≤ 16 ∧ s ≤ R.length ∧ (∀ t, 1 ≤ t → t ≤ s → signOf l 16 (val (R.take t), t) = none) ∧ RdSt l b w wr B0 M G (p + s) (outO ks N) ∧ wr.heap[E]? = some (.cells #[I (val (R.take s)), I s] 122 (0, 0))) ∨
  (f = .bool true ∧ ∃ x, x < 16 ∧ frontP l R = some x ∧ RdSt l b w wr B0 M G (p + ln l x) (outO (ks ++ [x]) N) ∧ ∃ a s : Nat, wr.heap[E]? = some (.cells #[I a, I s] 122 (0, 0)))
def rdMea (E : Nat) (f : Value) (wr : World) : Nat :=
  match f with
  | .bool true => 0
  | _ => match wr.cell? ⟨E, 1, none⟩ with
    | some (.int _ n) => 100 - n.toNat
    | _ => 0

theorem rdMid {l : List Int} {b o : Bytes} {w wr W w7 : World} {B0 M G E p p' : Nat} {a c : Value} (h : RdSt l b w wr B0 M G p o) (hEG : G + 2 ≤ E) (hE : wr.heap[E]? = some (.cells #[a, c] 122 (0, 0))) (h7 : ∃ q, w7 = (W.setCell ⟨G + 1, 0, none⟩ (I p')).drewN q) (hW : Below wr.heap.size wr W) :
    RdSt l b w w7 B0 M G p' o ∧ w7.heap[E]? = some (.cells #[a, c] 122 (0, 0)) := by
  have hr := (h.keep (hW.mono h.size)).setAt p'
  have hlt := (Array.getElem?_eq_some_iff.1 hE).1
  obtain ⟨q, rfl⟩ := h7
  refine ⟨⟨hr.s, hr.m, hr.o, hr.c, below_drewN hr.bel _, hr.l1, hr.l2⟩, ?_⟩
  show (W.setCell ⟨G + 1, 0, none⟩ (I p')).heap[E]? = _
  rw [heap_setCell_other _ _ _ _ (by show E ≠ G + 1; omega), hW.block E hlt]; exact hE
theorem rdCells {w7 : World} {E : Nat} {a c : Value} (hh : w7.heap[E]? = some (.cells #[a, c] 122 (0, 0))) : w7.cell? ⟨E, 0, none⟩ = some a ∧ w7.cell? ⟨E, 1, none⟩ = some c ∧ w7.frozen? ⟨E, 0, none⟩ = false ∧ w7.frozen? ⟨E, 1, none⟩ = false :=
  ⟨by rw [cell_of_row _ _ _ _ _ _ hh]; rfl, by rw [cell_of_row _ _ _ _ _ _ hh]; rfl, frozen_of_row _ _ _ _ _ hh, frozen_of_row _ _ _ _ _ hh⟩
theorem rdEnd {l : List Int} {b o : Bytes} {w w7 : World} {B0 M G E p : Nat} {a c : Value} (h : RdSt l b w w7 B0 M G p o) (hEG : G + 2 ≤ E) (hE : w7.heap[E]? = some (.cells #[a, c] 122 (0, 0))) (x y : Value) :
    RdSt l b w ((w7.setCell ⟨E, 0, none⟩ x).setCell ⟨E, 1, none⟩ y) B0 M G p o ∧ ((w7.setCell ⟨E, 0, none⟩ x).setCell ⟨E, 1, none⟩ y).heap[E]? = some (.cells #[x, y] 122 (0, 0)) := by
  refine ⟨h.keep (((Below.refl _ _).setCell (by exact hEG) _).setCell (by exact hEG) _), ?_⟩
  rw [heap_setCell_same _ _ _ _ _ _ (heap_setCell_same _ _ _ _ _ _ hE)]; rfl
theorem addOne {s : Nat} (h : s ≤ 15) : IntKind.i64.wrap ((s : Int) + 1) = ((s + 1 : Nat) : Int) := IntWalk.i64_in _ ⟨by omega, by omega⟩
theorem readBound {p s r n : Nat} (h : p + r = 8 * n) (h2 : s < r) (h3 : n ≤ 140737488355328) : p + s ≤ 2000000000000000 := by omega
theorem readNe {p s r n : Nat} (h : p + r = 8 * n) (h2 : s < r) : (((p + s : Nat) : Int) == 8 * (n : Int)) = false := by rw [beq_eq_false_iff_ne]; omega
theorem valBound (R : List Bool) {s : Nat} (h : s ≤ 15) : val (R.take s) ≤ 32768 := by
  have h1 := val_lt (R.take s)
  have h2 : 2 ^ (R.take s).length ≤ 2 ^ 15 := Nat.pow_le_pow_right (by decide) (Nat.le_trans (by rw [List.length_take]; exact Nat.min_le_left _ _) h)
  exact Nat.le_of_lt (Nat.lt_of_lt_of_le h1 h2)
theorem RdIn.found {l : List Int} {b : Bytes} {w wc : World} {B0 M G E N p pp s s1 u i y : Nat} {ks : List Nat} {R : List Bool} {c1 : UInt8} (hEG : G + 2 ≤ E) (r9 : RdSt l b w wc B0 M G (pp + 1) (outO ks N)) (e9 : wc.heap[E]? = some (.cells #[I u, I s1] 122 (0, 0)))
    (hy : y < 16) (hf : frontP l R = some y) (hl : s1 = ln l y) (hpp : pp = p + s) (hs : s1 = s + 1) (ha : outO (ks ++ [y]) N = (outO ks N).set i c1) :
    RdIn l b w (wc.setCell ⟨G, i, none⟩ (.int .u8 (c1.toNat : Int))).drew B0 M G E N p ks R (.bool true) := by
  have h := r9.setOut i c1
  rw [← ha, show pp + 1 = p + ln l y from by omega] at h
  refine .inr ⟨rfl, y, hy, hf, ⟨h.s, h.m, h.o, h.c, h.bel.drew, h.l1, h.l2⟩, u, s1, ?_⟩
  show (wc.setCell ⟨G, i, none⟩ (.int .u8 (c1.toNat : Int))).heap[E]? = _
  rw [heap_setCell_other _ _ _ _ (by show E ≠ G; omega)]; exact e9
theorem run_str_row {w : World} {G N : Nat} {o : Bytes} {t : TypeId} (h : w.heap[G]? = some (.cells (o.map B).toArray t (0, 0))) (hN : o.length = N) : (convert 73 9 (.slice (some ⟨G, 0, none⟩) N N)).run Try.prog w = .ok (S o) w := by
  subst hN
  refine run_convert_bytes_back w 73 9 5 _ o.length o Try.underlying73 Try.underlying5 Try.underlying9 ?_
  intro j hj
  have e : (⟨G, 0, none⟩ : Addr).add j = ⟨G, j, none⟩ := by unfold Addr.add; split <;> simp_all
  rw [e, cell_of_row _ _ _ _ _ _ h]
  simp [hj, B]
theorem tailWrap {p r n : Nat} (h : p + r = 8 * n) (h2 : n ≤ 140737488355328) : wrap64 (8 * (n : Int) - (p : Int)) = 8 * (n : Int) - (p : Int) := IntWalk.wrap64_in _ ⟨by omega, by omega⟩
theorem tailMea {p n : Nat} (h : (p : Int) < 8 * (n : Int)) : 8 * n - (intOf ((some (I ((p + 1 : Nat)))).getD undef)).toNat < 8 * n - (intOf ((some (I p)).getD undef)).toNat := by
  simp [intOf]; omega
theorem frontNone {l : List Int} (hr : Right l) {R : List Bool} {s : Nat} (hno : ∀ t, 1 ≤ t → t ≤ s → signOf l 16 (val (R.take t), t) = none) (hs : R.length ≤ s ∨ 15 < s) : frontP l R = none := by
  cases h : frontP l R with
  | none => rfl
  | some x =>
    exfalso
    obtain ⟨h1, h2, h3, h4⟩ := word_of_front hr h
    have h5 := hr.one x
    exact signOf_none (hno (ln l x) h2 (by omega)) x h1 h2 h4
theorem outStep {ks : List Nat} {N k q : Nat} (hl : ks.length = q) (hq : q < 2 * N) (hk : ∀ x ∈ ks, x < 16) (hk16 : k < 16) :
    ∃ (i r : Nat) (c0 c1 : UInt8) (y : Nat), q = 2 * i + r ∧ i < N ∧ (outO ks N)[i]? = some c0 ∧ outO (ks ++ [k]) N = (outO ks N).set i c1 ∧ y < 256 ∧ bits .or .u8 (c0.toNat : Int) (y : Int) = (c1.toNat : Int) ∧ ((r = 0 ∧ y = k * 16) ∨ (r = 1 ∧ y = k)) := by
  have h1 : ∀ y : Fin 256, bits .or .u8 0 (y.val : Int) = (y.val : Int) := by decide +kernel
  have h2 : ∀ a k : Fin 16, bits .or .u8 ((16 * a.val : Nat) : Int) (k.val : Int) = ((16 * a.val + k.val : Nat) : Int) := by decide +kernel
  rcases (show q % 2 = 0 ∨ q % 2 = 1 by omega) with e | e
  · obtain ⟨e1, e2⟩ := outO_even (ks := ks) (N := N) (q := q / 2) (k := k) (by omega) (by omega)
    have e3 : (UInt8.ofNat (16 * k)).toNat = k * 16 := by rw [UInt8.toNat_ofNat']; omega
    refine ⟨q / 2, 0, 0, UInt8.ofNat (16 * k), k * 16, by omega, by omega, e1, e2, by omega, ?_, .inl ⟨rfl, rfl⟩⟩
    rw [e3]; exact h1 ⟨k * 16, by omega⟩
  · obtain ⟨a, ha, e1, e2⟩ := outO_odd (ks := ks) (N := N) (q := q / 2) (k := k) (by omega) hk
    have e3 : (UInt8.ofNat (16 * a + k)).toNat = 16 * a + k := by rw [UInt8.toNat_ofNat']; omega
    have e4 : (UInt8.ofNat (16 * a)).toNat = 16 * a := by rw [UInt8.toNat_ofNat']; omega
    refine ⟨q / 2, 1, UInt8.ofNat (16 * a), UInt8.ofNat (16 * a + k), k, by omega, by omega, e1, e2, by omega, ?_, .inr ⟨rfl, rfl⟩⟩
    rw [e3, e4]; exact h2 ⟨a, ha⟩ ⟨k, hk16⟩
theorem outArith {q i r k y : Nat} (h : q = 2 * i + r) (hr : (r = 0 ∧ y = k * 16) ∨ (r = 1 ∧ y = k)) (hk : k < 16) :
    (q : Int).tdiv 2 = (i : Int) ∧ (q : Int) / 2 = (i : Int) ∧ (q : Int).tmod 2 = (r : Int) ∧ IntKind.u8.wrap (y : Int) = (y : Int) ∧ (y : Int) % 256 = (y : Int) := by
  refine ⟨by rw [Int.tdiv_eq_ediv_of_nonneg (by omega)]; omega, by omega, by rw [Int.tmod_eq_emod_of_nonneg (by omega)]; omega, by rw [IntKind.wrap_u8]; omega, by omega⟩
theorem shlArith {k : Nat} (hk : k < 16) : IntKind.i64.wrap ((k : Int) * 16) = ((k * 16 : Nat) : Int) ∧ wrap64 ((k : Int) * 16) = ((k * 16 : Nat) : Int) ∧ IntKind.i64.wrap (k : Int) = (k : Int) ∧ wrap64 (k : Int) = (k : Int) := by
  have e : (k : Int) * 16 = ((k * 16 : Nat) : Int) := by omega
  exact ⟨by rw [e]; exact IntWalk.i64_in _ ⟨by omega, by omega⟩, by rw [e]; exact IntWalk.wrap64_in _ ⟨by omega, by omega⟩, IntWalk.i64_in _ ⟨by omega, by omega⟩, IntWalk.wrap64_in _ ⟨by omega, by omega⟩⟩
theorem rdMea_false {wr : World} {E s : Nat} (h : wr.cell? ⟨E, 1, none⟩ = some (I s)) : rdMea E (.bool false) wr = 100 - s := by unfold rdMea; simp [h]
theorem RdIn.less {wr w' : World} {E s : Nat} (h : wr.cell? ⟨E, 1, none⟩ = some (I s)) (hs : s ≤ 15) : rdMea E (.bool true) w' < rdMea E (.bool false) wr := by
  rw [rdMea_false h]
  show 0 < 100 - s
  omega
theorem valLe (R : List Bool) {s : Nat} (h : s ≤ 15) : val (R.take (s + 1)) ≤ 65536 := by
  have h1 := val_lt (R.take (s + 1))
  have h2 : 2 ^ (R.take (s + 1)).length ≤ 2 ^ 16 := Nat.pow_le_pow_right (by decide) (Nat.le_trans (by rw [List.length_take]; exact Nat.min_le_left _ _) (Nat.succ_le_succ h))
  exact Nat.le_of_lt (Nat.lt_of_lt_of_le h1 h2)
theorem readWord {v z : Nat} (h : v ≤ 32768) (hz : z ≤ 1) : ∃ v2 : Nat, IntKind.i64.wrap ((v : Int) * 2) = (v2 : Int) ∧ bits .or .i64 (v2 : Int) (z : Int) = ((2 * v + z : Nat) : Int) := by
  refine ⟨2 * v, ?_, ?_⟩
  · rw [show (v : Int) * 2 = ((2 * v : Nat) : Int) from by omega]
    exact IntWalk.i64_in _ ⟨by omega, by omega⟩
  · rw [i64_or_nat _ _ (by omega) (by omega)]
    congr 1
    have := Nat.shiftLeft_add_eq_or_of_lt (b := z) (i := 1) (by omega) v
    rw [Nat.shiftLeft_eq, show v * 2 ^ 1 = 2 * v from by omega] at this
    exact this.symm
theorem pow15 {v m : Nat} (h : v < 2 ^ m) (hm : m ≤ 15) : v ≤ 1000000000 := by
  have h2 : 2 ^ m ≤ 32768 := Nat.pow_le_pow_right (n := 2) (by decide) hm
  exact Nat.le_trans (Nat.le_of_lt (Nat.lt_of_lt_of_le h h2)) (by decide)

set_option maxHeartbeats 8000000 in
set_option maxRecDepth 100000 in
theorem codeRead_any (KW : WordsSpec) (l : List Int) (b : Bytes) (n : Int) (w : World) (hl : l.length = 16) (hb : b.length ≤ 140737488355328) (hn1 : -9223372036854775808 ≤ n) (hn2 : n ≤ 9223372036854775807) :
    Calls Try.prog 51 #[A16 l, S b, .int .i64 n] w fun e w' => e = .returned (.tuple #[S (readS l b n), I (readE l b n)]) ∧ Below w.heap.size w w' := by
  obtain ⟨i0, hi, hz0, hz1, hz2⟩ := info_parts info_u8
  obtain ⟨B0, hB⟩ : ∃ B0, B0 = w.heap.size := ⟨_, rfl⟩
  obtain ⟨w0, hw0⟩ : ∃ w0, w0 = (w.alloc (.cells (cells16 l) 64)).alloc (.cells #[S b] 9) := ⟨_, rfl⟩
  have h1 : w0.heap[B0]? = some (.cells (cells16 l) 64 (0, 0)) := by subst hB; rw [hw0]; exact heap_alloc2_old _ _ _
  have h2 : w0.heap[B0 + 1]? = some (.cells #[S b] 9 (0, 0)) := by subst hB; rw [hw0]; exact heap_alloc2_new _ _ _
  have h3 : Below B0 w w0 := by subst hB; rw [hw0]; exact ((Below.refl _ _).alloc (Nat.le_refl _) _).alloc (by simp) _
  have h4 : w0.heap.size = B0 + 2 := by subst hB; rw [hw0]; simp
  have CK := checkCode_any l w0 hl
  obtain ⟨e0, he0⟩ : ∃ e0, e0 = checkE l := ⟨_, rfl⟩
  rw [← he0] at CK
  have CK := hide CK
  have HE0 := hide he0
  have HB := hide hB
  have HW0 := hide hw0
  have H1 := hide h1
  have H2 := hide h2
  have H3 := hide h3
  have H4 := hide h4
  have HL := hide hl
  have KW := hide KW
  have hmm : ∀ (w : World), (Instr.makeMap 127 none).run Try.prog w = .ok (.map (some w.heap.size)) (w.alloc (.map #[] 0)) := fun _ => rfl
  clear he0 hB hw0 h1 h2 h3 h4 hl
  go_enter Try.func51, Try.ntmps51
  by_cases h0 : e0 = 0
  · subst h0
    have HR := hide (right_of (unhide HL) (unhide HE0).symm)
    by_cases hn : n < 0 ∨ 1024 < n
    · have HN := hide hn
      have hcs : (n < 0 ∧ decide (n < 0) = true) ∨ (¬ n < 0 ∧ decide (n < 0) = false ∧ 1024 < n) := by
        rcases Int.lt_or_le n 0 with h | h
        · exact .inl ⟨h, by simpa using h⟩
        · exact .inr ⟨by omega, by simpa using h, by omega⟩
      clear hn hn1 hn2
      rcases hcs with ⟨d1, d2⟩ | ⟨d1, d2, d3⟩
      all_goals
        go_wp2_with (first
          | (refine wpList_load16 rfl (.tmp 3) rfl B0 (by rw [unhide HB]; rfl) l (unhide HL) (by rw [← unhide HW0]; exact (unhide H1)) ?_; rw [← unhide HW0, ← unhide HB])
          | (go_at_call 47; refine (unhide CK).mono ?_; rintro e w1 ⟨rfl, hb1⟩; have HB1 := hide hb1; clear hb1))
        go_ret2
        obtain ⟨e1, e2⟩ := readE_range (b := b) (unhide HE0).symm (unhide HN)
        rw [e1, e2, ← unhide HB]
        exact ⟨rfl, (unhide H3).trans ((unhide HB1).mono (by rw [unhide H4]; omega))⟩
    · have HN := hide hn
      obtain ⟨N, rfl⟩ := Int.eq_ofNat_of_zero_le (show 0 ≤ n by omega)
      have hN : N ≤ 1024 := by omega
      have n1 : ¬ (N : Int) < 0 := by omega
      have n2 : ¬ (1024 : Int) < (N : Int) := by omega
      clear hn hn1 hn2
      go_wp2_with (first
        | (refine wpList_load16 rfl (.tmp 3) rfl B0 (by rw [unhide HB]; rfl) l (unhide HL) (by rw [← unhide HW0]; exact (unhide H1)) ?_; rw [← unhide HW0, ← unhide HB])
        | (go_at_call 47; refine (unhide CK).mono ?_; rintro e w1 ⟨rfl, hb1⟩; have HB1 := hide hb1; clear hb1)
        | (refine wpList_load16 rfl (.tmp 3) rfl B0 rfl l (unhide HL) (by exact (Below.heap_alloc _ _ _ (by have := unhide H4; have := (unhide HB1).size; omega)).trans (((unhide HB1).block B0 (by have := unhide H4; omega)).trans (unhide H1))) ?_)
        | (go_at_call 73; refine (unhide KW l _ (unhide HR)).mono ?_; rintro e w2 ⟨rfl, hb2⟩; have HB2 := hide hb2; clear hb2))
      obtain ⟨M, hM⟩ : ∃ M, M = w1.heap.size := ⟨_, rfl⟩
      have hs1 := (unhide HB1).size
      rw [unhide H4] at hs1
      have hma : MapAt l b w w2 B0 M 0 (signOf l 0) := by
        refine MapAt.below ?_ (unhide HB2)
        rw [hM]
        have hB1 := unhide HB1
        exact ⟨(Below.heap_alloc _ _ _ (by omega)).trans ((hB1.block B0 (by rw [unhide H4]; omega)).trans (unhide H1)), (Below.heap_alloc _ _ _ (by omega)).trans ((hB1.block (B0 + 1) (by rw [unhide H4]; omega)).trans (unhide H2)), WordMap.made w1, hs1, ((unhide H3).trans (hB1.mono (by rw [unhide H4]; omega))).alloc (by omega) _⟩
      rw [← hM]
      have HMA := hide hma
      have hMB : B0 + 2 ≤ M := by omega
      clear hs1 hM hma
      go_loopw [10, 11, 33] (fun _ _ i wr => ∃ k : Nat, k ≤ 16 ∧ i = .int .i64 k ∧ MapAt l b w wr B0 M k (signOf l k)) (fun _ _ i _ => 16 - (intOf i).toNat)
      case atStart => exact ⟨0, by omega, rfl, unhide HMA⟩
      case round =>
        obtain ⟨k, hk, rfl, hma⟩ := hrel
        have HMK := hide hma
        clear hma
        by_cases hk16 : k < 16
        · have hix := fun (W : World) => run_indexP (fun j => (wv l j, ln l j)) k hk16 W
          have hsg : signOf l (k + 1) = if 0 < ln l k then updW (signOf l k) (wv l k) (ln l k) k else signOf l k := by
            funext q
            rw [signOf]
            by_cases e : 0 < ln l k
            · rw [if_pos e, if_pos e]; rfl
            · rw [if_neg e, if_neg e]
          have hwvl : 0 < ln l k → wv l k < 2 ^ ln l k := fun h => wv_lt (unhide HR) hk16 h
          have hm15 := (unhide HR).one k
          simp only at hix
          obtain ⟨m, hm⟩ : ∃ m, m = ln l k := ⟨_, rfl⟩
          obtain ⟨v, hv⟩ : ∃ v, v = wv l k := ⟨_, rfl⟩
          rw [← hm, ← hv] at hix hsg hwvl
          rw [← hm] at hm15
          by_cases hm0 : 0 < m
          · rw [if_pos hm0] at hsg
            have hvb : v ≤ 1000000000 := pow15 (hwvl hm0) hm15
            have HSG := hide hsg
            clear hsg hwvl hm hv
            go_wp2_with (at_mapUpdate; refine wpList_putW rfl _ _ _ rfl M k (signOf l k) rfl (((unhide HMK).alloc _).m) v m k rfl hvb (by omega) rfl (by omega) (by omega) ?_; intro w' hm' hg')
            go_roundw
            case rel => exact ⟨k + 1, by omega, by go_num, by rw [unhide HSG]; exact ((unhide HMK).alloc _).put hm' hg'⟩
            case measure => exact meas_up hk16
          · rw [if_neg hm0] at hsg
            have HSG := hide hsg
            clear hsg hwvl hm hv
            go_wp2_with fail
            go_roundw
            case rel => exact ⟨k + 1, by omega, by go_num, by rw [unhide HSG]; exact ((unhide HMK).mono (by omega)).alloc _⟩
            case measure => exact meas_up hk16
        · have hk' : k = 16 := by omega
          rw [hk'] at HMK
          have hk17 : ¬ (k : Int) < 16 := by omega
          clear hk' hk hk16
          have hmk := fun (W : World) => run_make_row' (P := Try.prog) 73 5 (.int .u8 0) 1 Try.underlying73 info_u8 rfl .i64 .i64 N (by omega) (by omega) W
          have hmf : ∀ (fn : Fn) (first cap : Array Value) (w : World), (Instr.makeFunc fn first cap).run Try.prog w = .ok (.func fn first cap) w := fun _ _ _ _ => rfl
          go_wp2_with fail
          obtain ⟨G, hG⟩ : ∃ G, G = wr.heap.size := ⟨_, rfl⟩
          obtain ⟨w4, hw4⟩ : ∃ w4, w4 = (wr.alloc (.cells (madeCells #[.int .u8 0] N) 5)).alloc (.cells #[.int .i64 0] 3) := ⟨_, rfl⟩
          have hrd : RdSt l b w w4 B0 M G 0 (outO [] N) := by
            have hma := ((unhide HMK).alloc (.cells (madeCells #[.int .u8 0] N) 5)).alloc (.cells #[.int .i64 0] 3)
            have hlt := (unhide HMK).m.lt
            rw [← hw4] at hma
            refine ⟨hma.s, hma.m, ?_, ?_, hma.bel, hma.lt, by rw [hG]; exact hlt⟩
            · rw [hw4, hG, made_zeros, show outO [] N = List.replicate N 0 from by simp [outO, half]]; exact heap_alloc2_old _ _ _
            · rw [hw4, hG]; exact heap_alloc2_new _ _ _
          rw [← hw4, ← hG]
          have HRD := hide hrd
          clear hw4 hG hrd hmk
          go_loopw [15, 16, 17, 18, 49] (fun _ _ _ _ i wr => ∃ (q p : Nat) (ks : List Nat) (R : List Bool), i = .int .i64 q ∧ DecAt l (unpackB b) (2 * N) q ks R ∧ p + R.length = 8 * b.length ∧ (unpackB b).drop p = R ∧ RdSt l b w wr B0 M G p (outO ks N)) (fun _ _ _ _ i _ => 2 * N - (intOf i).toNat)
          case atStart => exact ⟨0, 0, [], unpackB b, rfl, DecAt.start l _ _, by rw [unpackB_len]; omega, rfl, unhide HRD⟩
          case round =>
            obtain ⟨q, p, ks, R, rfl, hdec, hpR, hdr, hrd⟩ := hrel
            have HDEC := hide hdec
            have hqN := hdec.le
            have HRK := hide hrd
            have HPR := hide hpR
            have HDR := hide hdr
            clear hdec hpR hdr hrd
            by_cases hq : q < 2 * N
            · have dq : decide ((q : Int) < 2 * (N : Int)) = true := by rw [decide_eq_true_eq]; omega
              go_wp2_with fail
              obtain ⟨E, hE⟩ : ∃ E, E = wr.heap.size := ⟨_, rfl⟩
              obtain ⟨w5, hw5⟩ : ∃ w5, w5 = wr.alloc (.cells #[.int .i64 0, .int .i64 0] 122) := ⟨_, rfl⟩
              have hin : RdIn l b w w5 B0 M G E N p ks R (.bool false) := by
                refine .inl ⟨rfl, 0, by omega, by omega, fun t h1 h2 => absurd h1 (by omega), ?_, ?_⟩
                · rw [hw5]; exact (unhide HRK).keep ((Below.refl _ _).alloc (unhide HRK).size _)
                · rw [hw5, hE, List.take_zero, val_nil]; exact heap_alloc_new _ _
              have hEG : G + 2 ≤ E := by rw [hE]; exact (unhide HRK).size
              rw [← hw5, ← hE]
              have HIN := hide hin
              clear hw5 hE hin
              go_loopw [17, 18] (fun f _ wr => RdIn l b w wr B0 M G E N p ks R f) (fun f _ wr => rdMea E f wr)
              case atStart => exact unhide HIN
              case round =>
                rcases hrel with ⟨rfl, s, hs16, hsR, hnone, hrd, hE⟩ | ⟨rfl, x, hx16, hfx, hrd, a, s, hE⟩
                · have cE1 : wr.cell? ⟨E, 1, none⟩ = some (I s) := by rw [cell_of_row _ _ _ _ _ _ hE]; rfl
                  have cE0 : wr.cell? ⟨E, 0, none⟩ = some (I (val (R.take s))) := by rw [cell_of_row _ _ _ _ _ _ hE]; rfl
                  have cA := hrd.at_
                  have cT := hrd.text
                  have HRD5 := hide hrd
                  have HE5 := hide hE
                  have HNO := hide hnone
                  clear hrd hE hnone
                  by_cases hs15 : s ≤ 15
                  · by_cases hse : s < R.length
                    · obtain ⟨x, hx⟩ : ∃ x, R[s]? = some x := ⟨_, List.getElem?_eq_getElem hse⟩
                      have hvs := val_take_succ hx
                      have hux : (unpackB b)[p + s]? = some x := by rw [← hx, ← unhide HDR, List.getElem?_drop]
                      obtain ⟨v, hv⟩ : ∃ v, v = val (R.take s) := ⟨_, rfl⟩
                      obtain ⟨z, hz⟩ : ∃ z, z = bvT x := ⟨_, rfl⟩
                      obtain ⟨u, hu⟩ : ∃ u, u = 2 * v + z := ⟨_, rfl⟩
                      obtain ⟨pp, hpp⟩ : ∃ pp, pp = p + s := ⟨_, rfl⟩
                      rw [← hv] at cE0
                      rw [← hpp] at cA hux
                      rw [← hv, ← hz, ← hu] at hvs
                      have hpb : pp ≤ 2000000000000000 := by
                        have := unhide HPR
                        rw [hpp]; exact readBound this hse hb
                      have hne : ((pp : Int) == 8 * (b.length : Int)) = false := by
                        have := unhide HPR
                        rw [hpp]; exact readNe this hse
                      obtain ⟨v2, f1, f2⟩ := readWord (v := v) (z := z) (by rw [hv]; exact valBound R hs15) (by rw [hz]; exact bvT_le x)
                      rw [← hu] at f2
                      have HVS := hide hvs
                      have HV := hide hv
                      have HPP := hide hpp
                      have HX := hide hx
                      have KB := hide (fun (W : World) (h1 : W.cell? ⟨B0 + 1, 0, none⟩ = some (S b)) (h2 : W.cell? ⟨G + 1, 0, none⟩ = some (I pp)) (h3 : W.frozen? ⟨G + 1, 0, none⟩ = false) => hz ▸ readBit_any (B0 + 1) (G + 1) b pp x W h1 h2 h3 hux hpb)
                      clear hvs hv hpp hx hz hu hux
                      have fA : wr.frozen? ⟨G + 1, 0, none⟩ = false := (unhide HRD5).free
                      have fE0 : wr.frozen? ⟨E, 0, none⟩ = false := frozen_of_row _ _ 0 _ _ (unhide HE5)
                      have fE1 : wr.frozen? ⟨E, 1, none⟩ = false := frozen_of_row _ _ 1 _ _ (unhide HE5)
                      have HADD := hide (addOne hs15)
                      have F1 := hide f1
                      have F2 := hide f2
                      have d15 : (s : Int) ≤ 15 := by omega
                      clear f1 f2
                      go_wp2_with fail
                      have hadd := unhide HADD
                      have f1 := unhide F1
                      have f2 := unhide F2
                      go_cut [] from 53 to 95 (fun wx => RdSt l b w wx B0 M G (pp + 1) (outO ks N) ∧ wx.heap[E]? = some (.cells #[I u, I (s + 1 : Nat)] 122 (0, 0)))
                      case first =>
                        go_region_with (refine (unhide KB _ (by exact cT) (by exact cA) (by exact fA)).mono ?_; rintro e w7 ⟨rfl, hw7⟩; obtain ⟨r7, e7⟩ := rdMid (unhide HRD5) hEG (unhide HE5) hw7 (by first | exact Below.refl _ _ | exact (Below.refl _ _).drew | exact below_drewN (Below.refl _ _) _); rw [← unhide HV] at e7; obtain ⟨c70, c71, f70, f71⟩ := rdCells e7; have R7 := hide r7; have E7 := hide e7; clear hw7 r7 e7)
                        all_goals
                          obtain ⟨r8, e8⟩ := rdEnd (unhide R7) hEG (unhide E7) (I u) (I (s + 1 : Nat))
                          go_wp2_with fail
                          go_meet
                          exact ⟨r8, e8⟩
                      case rest =>
                        obtain ⟨r9, e9⟩ := hcut
                        obtain ⟨s1, hs1⟩ : ∃ s1, s1 = s + 1 := ⟨_, rfl⟩
                        rw [← hs1] at e9
                        obtain ⟨c90, c91, f90, f91⟩ := rdCells e9
                        have R9 := hide r9
                        have E9 := hide e9
                        have hu9 : u ≤ 1000000000 := by
                          rw [← unhide HVS]
                          exact Nat.le_trans (valLe R hs15) (by decide)
                        have hs9 : s1 ≤ 1000000000 := by omega
                        have hs1R : s1 ≤ R.length := by omega
                        have HS1 := hide hs1
                        have CE1 := hide cE1
                        clear r9 e9 hs1 f1 f2 hadd fA fE0 fE1 cE0 cE1 cA cT hne hpb
                        cases hsg : signOf l 16 (u, s1) with
                        | none =>
                          have HSG := hide hsg
                          go_wp2_with (at_lookup; refine wpList_lookW rfl _ _ rfl M 16 (signOf l 16) rfl (unhide R9).m u s1 rfl hu9 hs9 ?_; rw [unhide HSG])
                          go_roundw
                          case rel =>
                            refine .inl ⟨rfl, s1, by have := unhide HS1; omega, hs1R, fun t h1 h2 => ?_, by rw [show p + s1 = pp + 1 from by have := unhide HS1; have := unhide HPP; omega]; exact unhide R9, ?_⟩
                            · by_cases e : t = s1
                              · rw [e, unhide HS1, unhide HVS, ← unhide HS1]; exact unhide HSG
                              · exact unhide HNO t h1 (by have := unhide HS1; omega)
                            · rw [unhide HS1, unhide HVS, ← unhide HS1]; exact unhide E9
                          case measure =>
                            rw [rdMea_false c91, rdMea_false (unhide CE1), unhide HS1]
                            omega
                        | some y =>
                          have HSG := hide hsg
                          obtain ⟨hy16, hy0, hyq⟩ := signOf_some hsg
                          have hfy : frontP l R = some y := front_of_word (unhide HR) (t := s1) hs1R hy16 hy0 (by rw [unhide HS1, unhide HVS, ← unhide HS1]; exact hyq)
                          have hly : s1 = ln l y := (Prod.ext_iff.1 hyq).2
                          obtain ⟨i, r, c0, c1, y8, a1, a2, a3, a4, a5, a6, a7⟩ := outStep (unhide HDEC).len hq (fun x hx => ((unhide HDEC).fine x hx).1) hy16
                          obtain ⟨b1, b2, b3, b4, b5⟩ := outArith a1 a7 hy16
                          obtain ⟨d1, d2, d3, d4⟩ := shlArith hy16
                          have cG := (unhide R9).byte a3
                          have fG : wc.frozen? ⟨G, i, none⟩ = false := frozen_of_row _ _ i _ _ (unhide R9).o
                          have hiN : (i : Int) < (N : Int) := by omega
                          have HFY := hide hfy
                          have HLY := hide hly
                          have HA4 := hide a4
                          have HY0 := hide hy0
                          clear hsg hyq hfy hly a1 a3 a4 hy0
                          rcases a7 with ⟨rfl, a7⟩ | ⟨rfl, a7⟩
                          · rw [← a7] at d1 d2
                            clear a7
                            go_wp2_with (at_lookup; refine wpList_lookW rfl _ _ rfl M 16 (signOf l 16) rfl (unhide R9).m u s1 rfl hu9 hs9 ?_; rw [unhide HSG])
                            go_region
                            go_roundw
                            case rel =>
                              have hrf := RdIn.found hEG (unhide R9) (unhide E9) hy16 (unhide HFY) (unhide HLY) (unhide HPP) (unhide HS1) (unhide HA4)
                              first
                                | exact hrf
                                | ((repeat apply Exists.intro); exact ⟨hrf, rfl⟩)
                            case measure => exact RdIn.less (unhide CE1) hs15
                          · subst a7
                            go_wp2_with (at_lookup; refine wpList_lookW rfl _ _ rfl M 16 (signOf l 16) rfl (unhide R9).m u s1 rfl hu9 hs9 ?_; rw [unhide HSG])
                            go_region
                            go_roundw
                            case rel =>
                              have hrf := RdIn.found hEG (unhide R9) (unhide E9) hy16 (unhide HFY) (unhide HLY) (unhide HPP) (unhide HS1) (unhide HA4)
                              first
                                | exact hrf
                                | ((repeat apply Exists.intro); exact ⟨hrf, rfl⟩)
                            case measure => exact RdIn.less (unhide CE1) hs15
                    · have hsl : s = R.length := by omega
                      have hfn := frontNone (unhide HR) (unhide HNO) (.inl (by omega))
                      obtain ⟨e1, e2⟩ := readE_none (b := b) (unhide HE0).symm (unhide HN) ((unhide HDEC).none hq hfn)
                      have heq : ((p + s : Nat) : Int) = 8 * (b.length : Int) := by have := unhide HPR; omega
                      obtain ⟨pp, hpp⟩ : ∃ pp, pp = p + s := ⟨_, rfl⟩
                      rw [← hpp] at cA heq
                      have hbq : ((pp : Int) == 8 * (b.length : Int)) = true := by rw [beq_iff_eq]; exact heq
                      have d15 : (s : Int) ≤ 15 := by omega
                      have HE1 := hide e1
                      have HE2 := hide e2
                      clear hpp heq hfn e1 e2
                      go_wp2_with fail
                      go_ret2
                      rw [unhide HE1, unhide HE2, ← unhide HB]
                      exact ⟨rfl, (unhide HRD5).bel⟩
                  · have hfn := frontNone (unhide HR) (unhide HNO) (.inr (by omega))
                    obtain ⟨e1, e2⟩ := readE_none (b := b) (unhide HE0).symm (unhide HN) ((unhide HDEC).none hq hfn)
                    have d15 : ¬ (s : Int) ≤ 15 := by omega
                    have HE1 := hide e1
                    have HE2 := hide e2
                    clear hfn e1 e2
                    go_wp2_with fail
                    go_ret2
                    rw [unhide HE1, unhide HE2, ← unhide HB]
                    exact ⟨rfl, (unhide HRD5).bel⟩
                · have cE1 : wr.cell? ⟨E, 1, none⟩ = some (I s) := by rw [cell_of_row _ _ _ _ _ _ hE]; rfl
                  have hst := (unhide HDEC).step hq hfx
                  obtain ⟨_, _, hlx, _⟩ := word_of_front (unhide HR) hfx
                  have HST := hide hst
                  have HRD6 := hide hrd
                  clear hst hrd hE hfx
                  go_wp2_with fail
                  go_roundw
                  case rel => exact ⟨q + 1, p + ln l x, ks ++ [x], R.drop (ln l x), by go_num, unhide HST, by have := unhide HPR; rw [List.length_drop]; omega, by rw [← unhide HDR, List.drop_drop], unhide HRD6⟩
                  case measure => exact meas_up hq
            · have hq' : q = 2 * N := by omega
              have dq : decide ((q : Int) < 2 * (N : Int)) = false := by rw [decide_eq_false_iff_not]; omega
              have hdone := unhide HDEC
              rw [hq'] at hdone
              have hdd := hdone.done
              have hof := outO_full (ks := ks) (N := N) hdone.len
              have hks : ks.length = 2 * N := hdone.len
              have cA := (unhide HRK).at_
              have cT := (unhide HRK).text
              have hst := run_str_row (unhide HRK).o (by rw [outO_len (by omega)])
              have HDD := hide hdd
              have HOF := hide hof
              clear hdone hdd hof hks hq' hq
              by_cases h8 : 8 ≤ R.length
              · have hbg : goodRest R = false := by
                  cases hg : goodRest R with
                  | false => rfl
                  | true => have := ((goodRest_iff R).1 hg).1; omega
                obtain ⟨e1, e2⟩ := readE_left (b := b) (n := (N : Int)) (unhide HE0).symm (unhide HN) (unhide HDD) hbg
                have d8 : (8 : Int) ≤ 8 * (b.length : Int) - (p : Int) := by have := unhide HPR; omega
                have dw : wrap64 (8 * (b.length : Int) - (p : Int)) = 8 * (b.length : Int) - (p : Int) := tailWrap (unhide HPR) hb
                have HE1 := hide e1
                have HE2 := hide e2
                clear hbg e1 e2 h8
                go_wp2_with fail
                go_ret2
                rw [unhide HE1, unhide HE2, ← unhide HB]
                exact ⟨rfl, (unhide HRK).bel⟩
              · have d8 : ¬ (8 : Int) ≤ 8 * (b.length : Int) - (p : Int) := by have := unhide HPR; omega
                have dw : wrap64 (8 * (b.length : Int) - (p : Int)) = 8 * (b.length : Int) - (p : Int) := tailWrap (unhide HPR) hb
                go_wp2_with fail
                go_loopw [] (fun wr => ∃ t, t ≤ R.length ∧ (R.take t).all (fun b => !b) = true ∧ RdSt l b w wr B0 M G (p + t) (outO ks N)) (fun wr => 8 * b.length - (intOf ((wr.cell? ⟨G + 1, 0, none⟩).getD undef)).toNat)
                case atStart => exact ⟨0, by omega, rfl, unhide HRK⟩
                case round =>
                  obtain ⟨t, htR, hall, hrd⟩ := hrel
                  have cA4 := hrd.at_
                  have cT4 := hrd.text
                  have fA4 := hrd.free
                  have hst4 := run_str_row hrd.o (by rw [outO_len (by have := (unhide HDEC).len; have := (unhide HDEC).le; omega)])
                  have HR4 := hide hrd
                  have HALL := hide hall
                  clear hrd hall
                  by_cases htr : t < R.length
                  · obtain ⟨x, hx⟩ : ∃ x, R[t]? = some x := ⟨_, List.getElem?_eq_getElem htr⟩
                    have hux : (unpackB b)[p + t]? = some x := by rw [← hx, ← unhide HDR, List.getElem?_drop]
                    have dl : ((p + t : Nat) : Int) < 8 * (b.length : Int) := by have := unhide HPR; omega
                    have hpb : p + t ≤ 2000000000000000 := by
                      have := unhide HPR
                      exact readBound this htr hb
                    obtain ⟨pt, hpt⟩ : ∃ pt, pt = p + t := ⟨_, rfl⟩
                    rw [← hpt] at cA4 dl hux hpb
                    have KB := hide (fun (W : World) (h1 : W.cell? ⟨B0 + 1, 0, none⟩ = some (S b)) (h2 : W.cell? ⟨G + 1, 0, none⟩ = some (I pt)) (h3 : W.frozen? ⟨G + 1, 0, none⟩ = false) => readBit_any (B0 + 1) (G + 1) b pt x W h1 h2 h3 hux hpb)
                    have hsn : (R.take (t + 1)).all (fun b => !b) = !x := by rw [List.take_add_one, hx, List.all_append, unhide HALL]; simp
                    have hgx : x = true → goodRest R = false := by
                      intro e
                      unfold goodRest
                      rw [Bool.and_eq_false_iff]
                      right
                      rw [List.all_eq_false]
                      exact ⟨x, List.mem_of_getElem? hx, by rw [e]; simp⟩
                    have HPT := hide hpt
                    have HSN := hide hsn
                    clear hux hx hpt hsn hpb
                    cases x with
                    | true =>
                      obtain ⟨e1, e2⟩ := readE_left (b := b) (n := (N : Int)) (unhide HE0).symm (unhide HN) (unhide HDD) (hgx rfl)
                      have HE1 := hide e1
                      have HE2 := hide e2
                      clear e1 e2 hgx
                      go_wp2_with (go_at_call 75; refine (unhide KB _ (by exact cT4) (by exact cA4) (by exact fA4)).mono ?_; rintro e w7 ⟨rfl, hw7⟩; have HW7 := hide hw7; clear hw7)
                      go_ret2
                      obtain ⟨q7, e7⟩ := unhide HW7
                      rw [unhide HE1, unhide HE2, ← unhide HB, e7]
                      exact ⟨rfl, below_drewN ((unhide HR4).setAt _).bel _⟩
                    | false =>
                      clear hgx
                      go_wp2_with (go_at_call 75; refine (unhide KB _ (by exact cT4) (by exact cA4) (by exact fA4)).mono ?_; rintro e w7 ⟨rfl, hw7⟩; have HW7 := hide hw7; clear hw7)
                      go_roundw
                      case rel =>
                        obtain ⟨q7, e7⟩ := unhide HW7
                        have r7 := (unhide HR4).setAt (pt + 1)
                        refine ⟨t + 1, htr, unhide HSN, ?_⟩
                        rw [e7, show p + (t + 1) = pt + 1 from by have := unhide HPT; omega]
                        exact ⟨r7.s, r7.m, r7.o, r7.c, below_drewN r7.bel _, r7.l1, r7.l2⟩
                      case measure =>
                        obtain ⟨q7, e7⟩ := unhide HW7
                        have r7 := ((unhide HR4).setAt (pt + 1)).at_
                        have c7 : w7.cell? ⟨G + 1, 0, none⟩ = some (I ((pt + 1 : Nat))) := by rw [e7]; exact r7
                        rw [c7, cA4]
                        exact tailMea dl
                  · have hg : goodRest R = true := by
                      unfold goodRest
                      have := unhide HALL
                      rw [List.take_of_length_le (by omega)] at this
                      rw [this]; simp; omega
                    obtain ⟨e1, e2⟩ := readE_ok (b := b) (n := (N : Int)) (unhide HE0).symm (unhide HN) (unhide HDD) hg
                    have dl : ¬ ((p + t : Nat) : Int) < 8 * (b.length : Int) := by have := unhide HPR; omega
                    obtain ⟨pt, hpt⟩ : ∃ pt, pt = p + t := ⟨_, rfl⟩
                    rw [← hpt] at cA4 dl
                    have HE1 := hide e1
                    have HE2 := hide e2
                    clear e1 e2 hg hpt
                    go_wp2_with fail
                    go_ret2
                    rw [unhide HE1, unhide HE2, ← unhide HOF, ← unhide HB]
                    exact ⟨rfl, (unhide HR4).bel⟩
  · have z1 : ((e0 : Int) == 0) = false := by rw [beq_eq_false_iff_ne]; omega
    have z2 : ((e0 : Int) != 0) = true := by rw [bne_iff_ne]; omega
    have H0 := hide h0
    clear h0
    go_wp2_with (first
      | (refine wpList_load16 rfl (.tmp 3) rfl B0 (by rw [unhide HB]; rfl) l (unhide HL) (by rw [← unhide HW0]; exact (unhide H1)) ?_; rw [← unhide HW0, ← unhide HB])
      | (go_at_call 47; refine (unhide CK).mono ?_; rintro e w1 ⟨rfl, hb1⟩; have HB1 := hide hb1; clear hb1))
    go_ret2
    obtain ⟨e1, e2⟩ := readE_code (l := l) (b := b) (n := n) (by rw [← unhide HE0]; exact unhide H0)
    rw [e1, e2, ← unhide HE0, ← unhide HB]
    exact ⟨rfl, (unhide H3).trans ((unhide HB1).mono (by rw [unhide H4]; omega))⟩

end Go.Proofs.Ytgfkkjcnnecefaa

/- Insertion sort of signs by the lengths of their words: stable, because the signs came in order. -/
namespace Go.Proofs.Ytgfkkjcnnecefaa
open Go.RowKit Go.Lib Go.Sort Pl

section
variable {α : Type} [Inhabited α]
theorem insInner_perm (lt : α → α → Bool) (b : Nat) : ∀ (j : Nat) (d : Array α), j < b → b ≤ d.size → PermIn 0 b d (insInner lt 0 j d)
  | 0, d, _, _ => by unfold insInner; exact permIn_refl _ _ _
  | j + 1, d, hj, hb => by
    unfold insInner
    split
    · exact permIn_trans _ _ _ _ _ (swp_permIn d 0 b (j + 1) j (by omega) hj (by omega) (by omega) hb) (insInner_perm lt b j _ (by omega) (by rw [size_swp]; exact hb))
    · exact permIn_refl _ _ _
theorem insInner_same (lt lt' : α → α → Bool) : ∀ (j : Nat) (d : Array α), j < d.size → (∀ t, t < j → lt d[j]! d[t]! = lt' d[j]! d[t]!) → insInner lt 0 j d = insInner lt' 0 j d
  | 0, _, _, _ => rfl
  | j + 1, d, hj, h => by
    unfold insInner
    rw [h j (by omega)]
    split
    · refine insInner_same lt lt' j _ (by rw [size_swp]; omega) fun t ht => ?_
      rw [swp_get d hj (by omega) j, if_pos rfl, swp_get d hj (by omega) t, if_neg (by omega), if_neg (by omega)]
      exact h t (by omega)
    · rfl
theorem insOuter_same (lt lt' : α → α → Bool) (d : Array α) (h : ∀ i t, t < i → i < d.size → lt d[i]! d[t]! = lt' d[i]! d[t]!) : ∀ (k i : Nat) (dk : Array α), d.size - i = k → i ≤ d.size → PermIn 0 i d dk → insOuter lt 0 d.size i dk = insOuter lt' 0 d.size i dk
  | 0, i, dk, hk, _, _ => by
    rw [insOuter, if_neg (by omega), insOuter, if_neg (by omega)]
  | k + 1, i, dk, hk, hi, hp => by
    have hlt : i < d.size := by omega
    rw [insOuter, if_pos hlt]
    conv => rhs; rw [insOuter, if_pos hlt]
    have e := insInner_same lt lt' i dk (by rw [hp.1]; exact hlt) fun t ht => by
      rw [hp.2.1 i (.inr (Nat.le_refl _))]
      exact permIn_all d dk 0 i (fun x => lt d[i]! x = lt' d[i]! x) (by omega) hp (fun u _ hu => h i u hu hlt) t (Nat.zero_le _) ht
    rw [e]
    exact insOuter_same lt lt' d h k (i + 1) _ (by omega) (by omega) (permIn_trans _ _ _ _ _ (permIn_mono d dk 0 i 0 (i + 1) (Nat.le_refl _) (by omega) (by omega) hp) (insInner_perm lt' (i + 1) i dk (by omega) (by rw [hp.1]; omega)))
theorem insertionSort_same (lt lt' : α → α → Bool) (d : Array α) (h : ∀ i t, t < i → i < d.size → lt d[i]! d[t]! = lt' d[i]! d[t]!) : insertionSort lt d 0 d.size = insertionSort lt' d 0 d.size := by
  unfold insertionSort
  by_cases h0 : 0 < d.size
  · exact insOuter_same lt lt' d h _ 1 d rfl (by omega) (permIn_refl _ _ _)
  · rw [insOuter, if_neg (by omega), insOuter, if_neg (by omega)]
end

/-- the signs in order -/
def lexB (l : List Int) (x y : Fin 16) : Bool := decide (ln l x < ln l y ∨ (ln l x = ln l y ∧ x < y))
def cfL (l : List Int) (x y : Fin 16) : Int := Lib.compareInt (ln l x) (ln l y)
theorem lexB_swo (l : List Int) : SWO (lexB l) where
  irrefl x := by simp [lexB]
  trans x y z := by simp only [lexB, decide_eq_true_eq, Fin.lt_def]; omega
  ntrans x y z := by simp only [lexB, decide_eq_false_iff_not, Fin.lt_def]; omega
theorem cf_neg (l : List Int) (x y : Fin 16) : ltOf (cfL l) x y = decide (ln l x < ln l y) := by
  unfold ltOf cfL Lib.compareInt
  by_cases h : ln l x < ln l y
  · rw [if_pos (by omega)]; simp [h]
  · rw [if_neg (by omega)]
    split <;> simp [h]
/-- what the sort lays: the signs that have words, in the order of the words -/
theorem sorted_lex (l : List Int) (o : List (Fin 16)) (ho : o.Pairwise (· < ·)) :
    ∃ p : List (Fin 16), (insertionSort (ltOf (cfL l)) o.toArray 0 o.length).toList = p ∧ p.Perm o ∧ p.Pairwise (fun a b : Fin 16 => ln l a < ln l b ∨ (ln l a = ln l b ∧ a < b)) := by
  refine ⟨_, rfl, ?_⟩
  have e : insertionSort (ltOf (cfL l)) o.toArray 0 o.length = insertionSort (lexB l) o.toArray 0 o.length := by
    refine insertionSort_same (ltOf (cfL l)) (lexB l) o.toArray fun i t ht hi => ?_
    have hi' : i < o.length := by simpa using hi
    have h1 := List.pairwise_iff_getElem.1 ho t i (by omega) hi' ht
    rw [getElem!_pos o.toArray i hi, getElem!_pos o.toArray t (by omega)]
    rw [cf_neg]
    simp only [List.getElem_toArray, lexB]
    congr 1
    simp only [Fin.lt_def] at h1 ⊢
    apply propext; omega
  rw [e]
  obtain ⟨h1, h2⟩ := insertionSort_holds (lexB_swo l) o.toArray 0 o.length (Nat.zero_le _) (by simp)
  obtain ⟨h3, h4⟩ := perm_of (o := o) (by simpa using h1)
  refine ⟨h3, ?_⟩
  have h5 := sorted_of (by simpa using h4) h2
  have hnd : (insertionSort (lexB l) o.toArray 0 o.length).toList.Nodup := h3.nodup_iff.2 (ho.imp fun h => by rw [Fin.lt_def] at h; intro e; subst e; omega)
  refine (h5.and hnd).imp fun {a b} ⟨h6, h7⟩ => ?_
  simp only [lexB, decide_eq_false_iff_not, Fin.lt_def] at h6
  have : a.val ≠ b.val := fun e => h7 (Fin.ext e)
  rw [Fin.lt_def]; omega

section
variable {α : Type} [Inhabited α] (enc : α → Value)
theorem holds_own1 {w : World} {base e n g cap : Nat} {o : List α} (h : w.ownsRow base e 1 (.slice (some ⟨g, 0, none⟩) n cap) n (o.map enc)) : Holds enc w g 0 o.toArray ∧ g < w.heap.size ∧ o.length = n ∧ base ≤ g := by
  have hl : o.length = n := by have := h.1; simpa using this
  obtain ⟨h1, h2⟩ := h.lt g rfl
  refine ⟨fun j hj => ?_, h2, hl, h1⟩
  have hj' : j < o.length := by simpa using hj
  rw [Nat.zero_add]
  refine ⟨?_, h.frozenAt j⟩
  rw [h.cellAt j (by omega), getElem!_pos o.toArray j hj]
  simp [hj']
theorem putRow_own1 {w : World} {base e n g cap : Nat} {o o' : List α} (h : w.ownsRow base e 1 (.slice (some ⟨g, 0, none⟩) n cap) n (o.map enc)) (hp : o'.length = o.length) :
    (putRow enc w g 0 o'.toArray).ownsRow base e 1 (.slice (some ⟨g, 0, none⟩) n cap) n (o'.map enc) ∧ Below base w (putRow enc w g 0 o'.toArray) := by
  obtain ⟨_, hgl, hlen, hbg⟩ := holds_own1 enc h
  rcases h.2 with ⟨hv, _⟩ | ⟨g', cap', cur, hv, hb, hg, hn, hc, hs, ht⟩
  · cases hv
  · injection hv with ha _ hcap
    injection ha with ha
    injection ha with ha
    subst ha
    subst hcap
    have hh : (putRow enc w g 0 o'.toArray).heap[g]? = some (.cells (putCells enc 0 o'.toArray cur) e (0, 0)) := by
      unfold putRow mapBlock
      simp only [Array.getElem?_modify]
      rw [if_pos trivial, hg]
      rfl
    refine ⟨⟨by simp [hp, hlen], .inr ⟨g, cap, _, rfl, hb, hh, hn, hc, by unfold putCells; simpa using hs, ?_⟩⟩, rfl, rfl, rfl, ?_, fun i hi => ?_⟩
    · apply List.ext_getElem?
      intro t
      rw [List.getElem?_take]
      by_cases htn : t < n * 1
      · have hto : t < o'.length := by omega
        rw [if_pos htn, Array.getElem?_toList]
        unfold putCells
        rw [Array.getElem?_mapIdx, Array.getElem?_eq_getElem (by rw [hs]; omega)]
        simp only [Option.map_some]
        rw [if_pos ⟨by omega, by simp; omega⟩, Nat.sub_zero, getElem!_pos o'.toArray t (by simpa using hto)]
        simp [hto]
      · rw [if_neg htn, List.getElem?_eq_none (by simp; omega)]
    · unfold putRow mapBlock; simp
    · unfold putRow mapBlock
      simp only [Array.getElem?_modify]
      rw [if_neg (by omega)]
end

def encF (x : Fin 16) : Value := .int .i64 (x.val : Int)
set_option maxHeartbeats 1000000 in
set_option maxRecDepth 100000 in
theorem wordsLess_any (l : List Int) (hr : Right l) (B : Nat) (x y : Fin 16) (w : World) (hg : w.heap[B]? = some (.cells (cells16 l) 64 (0, 0))) :
    Calls Try.prog 96 #[encF x, encF y, .pointer (some ⟨B, 0, none⟩)] w fun e w' => e = .returned (.int .i64 (cfL l x y)) ∧ ∃ q, w' = w.drewN q := by
  have c1 := cell16 hg (ln_get hr x.isLt)
  have c2 := cell16 hg (ln_get hr y.isLt)
  have K1 := fun (W : World) => Try.cmp_Compare_int (ln l x) (ln l y) W
  have hx := x.isLt
  have hy := y.isLt
  obtain ⟨c, hc⟩ : ∃ c, c = cfL l x y := ⟨_, rfl⟩
  rw [show Lib.compareInt (ln l x) (ln l y) = c from hc.symm] at K1
  rw [← hc]
  obtain ⟨a, ha⟩ : ∃ a, a = ln l x := ⟨_, rfl⟩
  obtain ⟨b, hb⟩ : ∃ b, b = ln l y := ⟨_, rfl⟩
  rw [← ha] at c1 K1
  rw [← hb] at c2 K1
  obtain ⟨i, hi⟩ : ∃ i, i = x.val := ⟨_, rfl⟩
  obtain ⟨j, hj⟩ : ∃ j, j = y.val := ⟨_, rfl⟩
  unfold encF
  rw [← hi] at c1 hx ⊢
  rw [← hj] at c2 hy ⊢
  have K1 := hide K1
  clear hc ha hb hi hj hg
  go_enter Try.func96, Try.ntmps96
  go_wp2_with fail
  go_quiet (first | (go_at_call 86; refine Calls.quiet_of_same (unhide K1 _)))
  go_wp2_with fail
  go_ret
  exact ⟨rfl, _, rfl⟩

theorem encF_one : Go.Proofs.OneCell encF := fun _ => rfl
/-- the signs, sorted in their row -/
theorem insInt_any (l : List Int) (hr : Right l) (Bx base n g cap : Nat) (o : List (Fin 16)) (ho : o.Pairwise (· < ·)) (w : World) (hn : n ≤ 1000)
    (hg : w.heap[Bx]? = some (.cells (cells16 l) 64 (0, 0))) (hB : Bx < base) (hown : w.ownsRow base 3 1 (.slice (some ⟨g, 0, none⟩) n cap) n (o.map encF)) :
    Calls Try.prog 143 #[.slice (some ⟨g, 0, none⟩) n cap, .int .i64 0, .int .i64 n, .func (.func 96) #[] #[.pointer (some ⟨Bx, 0, none⟩)]] w fun e w' =>
      e = .returned (.tuple #[]) ∧ ∃ p : List (Fin 16), p.Perm o ∧ p.Pairwise (fun a b : Fin 16 => ln l a < ln l b ∨ (ln l a = ln l b ∧ a < b)) ∧ w'.ownsRow base 3 1 (.slice (some ⟨g, 0, none⟩) n cap) n (p.map encF) ∧ Go.RowKit.Below base w w' := by
  obtain ⟨hH, hgl, hlen, hbg⟩ := holds_own1 encF hown
  have eg : ∀ args w, (callFunc 96 args).run Try.prog w = .ok (.enter 96 args) w := enters_of Try.func96 (by kernel_rfl) rfl
  have hsz : o.toArray.size = n := by simpa using hlen
  have hcmp : Go.Proofs.CmpReads Try.prog 96 #[.pointer (some ⟨Bx, 0, none⟩)] encF (cfL l) g 0 o.toArray.size w := fun m os dk _ x y => by
    refine wordsLess_any l hr Bx x y _ ?_
    have hlt := (Array.getElem?_eq_some_iff.1 hg).1
    unfold sortWorld
    rw [heap_grow_old _ _ (by unfold putRow mapBlock; simpa [Sort.ahead] using hlt)]
    unfold putRow mapBlock
    simp only [Array.getElem?_modify]
    rw [if_neg (by omega)]
    exact hg
  have hcon := Any.insertionSortCmpFunc_one Try.insInt encF encF_one (cfL l) 96 #[.pointer (some ⟨Bx, 0, none⟩)] g 0 cap 0 o.toArray.size o.toArray w eg hcmp hH (Nat.zero_le _) (Nat.le_refl _) (by omega)
  change Calls Try.prog 143 _ _ _ at hcon
  rw [hsz] at hcon
  refine hcon.mono ?_
  rintro e w' ⟨rfl, m, rfl⟩
  obtain ⟨p, h1, h2, h3⟩ := sorted_lex l o ho
  rw [hlen] at h1
  have hpa : insertionSort (Go.Proofs.ltOf (cfL l)) o.toArray 0 n = p.toArray := by rw [← h1]
  rw [hpa]
  obtain ⟨h4, h5⟩ := putRow_own1 (o' := p) encF hown h2.length_eq
  exact ⟨rfl, p, h2, h3, h4, below_drewN h5 _⟩

set_option maxHeartbeats 1000000 in
set_option maxRecDepth 100000 in
theorem stableCmp_any (l : List Int) (hr : Right l) (Bx base n g cap : Nat) (o : List (Fin 16)) (ho : o.Pairwise (· < ·)) (w : World) (hn : n ≤ 16)
    (hg : w.heap[Bx]? = some (.cells (cells16 l) 64 (0, 0))) (hB : Bx < base) (hown : w.ownsRow base 3 1 (.slice (some ⟨g, 0, none⟩) n cap) n (o.map encF)) :
    Calls Try.prog 122 #[.slice (some ⟨g, 0, none⟩) n cap, .int .i64 n, .func (.func 96) #[] #[.pointer (some ⟨Bx, 0, none⟩)]] w fun e w' =>
      e = .returned (.tuple #[]) ∧ ∃ p : List (Fin 16), p.Perm o ∧ p.Pairwise (fun a b : Fin 16 => ln l a < ln l b ∨ (ln l a = ln l b ∧ a < b)) ∧ w'.ownsRow base 3 1 (.slice (some ⟨g, 0, none⟩) n cap) n (p.map encF) ∧ Go.RowKit.Below base w w' := by
  have K := insInt_any l hr Bx base n g cap o ho w (by omega) hg hB hown
  have K := hide K
  clear hg hB hown ho hr
  have d1 : ¬ (20 : Int) ≤ (n : Int) := by omega
  have d2 : ¬ (20 : Int) < (n : Int) := by omega
  go_enter Try.func122, Try.ntmps122
  go_wp2_with fail
  go_loop [7, 8] (fun a b => a = .int .i64 0 ∧ b = .int .i64 20) (fun _ _ => 0)
  case atStart => exact ⟨rfl, rfl⟩
  case round =>
    obtain ⟨rfl, rfl⟩ := hrel
    go_wp2_with (go_at_call 143; refine (unhide K).mono ?_; rintro e w1 ⟨rfl, hres⟩)
    have HRES := hide hres
    clear hres
    go_loop [6, 7, 8, 9] (fun a _ _ _ => a = .int .i64 20) (fun _ _ _ _ => 0)
    case atStart => exact rfl
    case round =>
      subst hrel
      go_wp2_with fail
      go_end0
      exact ⟨rfl, unhide HRES⟩

set_option maxHeartbeats 1000000 in
set_option maxRecDepth 100000 in
theorem sortStable_any (l : List Int) (hr : Right l) (Bx base n g cap : Nat) (o : List (Fin 16)) (ho : o.Pairwise (· < ·)) (w : World) (hn : n ≤ 16)
    (hg : w.heap[Bx]? = some (.cells (cells16 l) 64 (0, 0))) (hB : Bx < base) (hown : w.ownsRow base 3 1 (.slice (some ⟨g, 0, none⟩) n cap) n (o.map encF)) :
    Calls Try.prog 95 #[.slice (some ⟨g, 0, none⟩) n cap, .func (.func 96) #[] #[.pointer (some ⟨Bx, 0, none⟩)]] w fun e w' =>
      e = .returned (.tuple #[]) ∧ ∃ p : List (Fin 16), p.Perm o ∧ p.Pairwise (fun a b : Fin 16 => ln l a < ln l b ∨ (ln l a = ln l b ∧ a < b)) ∧ w'.ownsRow base 3 1 (.slice (some ⟨g, 0, none⟩) n cap) n (p.map encF) ∧ Go.RowKit.Below base w w' := by
  have K := stableCmp_any l hr Bx base n g cap o ho w hn hg hB hown
  have K := hide K
  clear hg hB hown ho hr
  go_enter Try.func95, Try.ntmps95
  go_wp2_with (go_at_call 122; refine (unhide K).mono ?_; rintro e w1 ⟨rfl, hres⟩)
  have HRES := hide hres
  clear hres
  go_end0
  exact ⟨rfl, unhide HRES⟩

end Go.Proofs.Ytgfkkjcnnecefaa
