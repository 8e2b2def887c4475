/- The walk of toks.Write. -/
import Derived.Test.YtgfkkjcnnecefaaBuilder
import Derived.Test.YtgfkkjcnnecefaaShelf
import Derived.Test.YtgfkkjcnnecefaaPlay
import Derived.Test.YtgfkkjcnnecefaaTokBytes
import Derived.Test.YtgfkkjcnnecefaaToksOwn
import Derived.Test.YtgfkkjcnnecefaaNumsWalk
namespace Go.Proofs.Ytgfkkjcnnecefaa
open Go.RowKit Go.Lib Pl
attribute [local go_sem] ext_list app_list

theorem IsB.kept {B b : Nat} {l : List UInt8} {w w' : World} (h : IsB B b l w) (hk : Below w.heap.size w w') : IsB B b l w' := by
  have key : ∀ p, Lib.BuilderAt 92 5 B b p (Lib.byteCells l) w → Lib.BuilderAt 92 5 B b p (Lib.byteCells l) w' := by
    intro p h1
    have hlt := h1.lt
    obtain ⟨hB, v, hb, hown, hne⟩ := h1
    exact ⟨hB, v, (hk.block b hlt).trans hb, own_below hown hk, hne⟩
  exact h.elim (fun x => .inl (key _ x)) (fun x => .inr (key _ x))
theorem IsB.new (w : World) : IsB w.heap.size w.heap.size [] (w.alloc (.cells #[.pointer none, .slice none 0 0] 92)) := Lib.fresh_isBuilder _ _ w

set_option maxHeartbeats 1000000 in
/-- put: a number's bytes -/
theorem wput_any (B b : Nat) (l : List UInt8) (n : Int) (w : World) (h : IsB B b l w) (h0 : 0 ≤ n) (h1 : n ≤ 2147483647) (hlen : l.length ≤ 100000000) (hBw : B ≤ w.heap.size) :
    Calls Try.prog 58 #[I n, .pointer (some ⟨b, 0, none⟩)] w fun e w' => e = .returned (.tuple #[]) ∧ IsB B b (l ++ nb n.toNat) w' ∧ Below B w w' ∧ Keeps badB w w' := by
  have hnl : (nb n.toNat).length ≤ 5 := by
    have := nb_len 4 n.toNat (by omega)
    omega
  have C1 := hide (put_good n w h0 h1)
  have H := hide h
  clear h
  go_enter Try.func58, Try.ntmps58
  go_wp2_with fail
  refine (unhide C1).mono ?_
  rintro e w1 ⟨rfl, hb1⟩
  have C2 := hide (bld_write B b l (nb n.toNat) w1 (IsB.kept (unhide H) hb1) (by omega) (Nat.le_trans hBw hb1.size))
  go_wp2_with fail
  refine (unhide C2).mono ?_
  rintro e w2 ⟨rfl, h2, hb2, hk2⟩
  go_wp2_with fail
  go_end0
  exact ⟨rfl, h2, (hb1.mono hBw).trans hb2, (Keeps.of_below hb1).trans hk2⟩

set_option maxHeartbeats 2000000 in
set_option maxRecDepth 100000 in
theorem write_ok (dict : Bytes) (A : Option Addr) (n cap : Nat) (l : List Tok) (w : World) (hl : ToksAt w w.heap.size A n l) (hd : dict.length ≤ 9223372036854775807) (hn : n ≤ 4611686018427387904) (hp : (play dict l).2 = 0) :
    Calls Try.prog 31 #[S dict, .slice A n cap] w fun e w' => e = .returned (.tuple #[S (toksB l), I 0]) ∧ Below w.heap.size w w' := by
  have hln := hl.1
  have hn5 := play_room hp
  have hsm : ∀ t ∈ l, Small t := play_each hp
  have C1 := check_any dict A n cap l w hl hd hn
  rw [hp] at C1
  have C1 := hide C1
  have HSM := hide hsm
  have hn6 : n ≤ 512 := by omega
  clear hsm hp
  go_enter Try.func31, Try.ntmps31
  go_wp2_with fail
  refine (unhide C1).mono ?_
  rintro e w1 ⟨rfl, hb1⟩
  have hz := hb1.size
  go_wp2_with fail
  go_loopw [20] (fun i wr => ∃ k : Nat, k ≤ n ∧ i = .int .i64 k ∧ IsB w1.heap.size w1.heap.size (toksB (l.take k)) wr ∧ Below w1.heap.size w1 wr ∧ w1.heap.size < wr.heap.size) (fun i _ => n - (intOf i).toNat)
  case atStart => exact ⟨0, by omega, rfl, IsB.new w1, (Below.refl _ _).alloc (Nat.le_refl _) _, by simp⟩
  case round =>
    obtain ⟨k, hk, rfl, hB, hbel, hlt⟩ := hrel
    have haln := toksB_small (l.take k) (fun u hu => unhide HSM u (List.mem_of_mem_take hu))
    rw [List.length_take] at haln
    obtain ⟨acc0, hacc⟩ : ∃ a, a = toksB (l.take k) := ⟨_, rfl⟩
    rw [← hacc] at hB haln
    have HACC := hide hacc
    have HB := hide hB
    clear hacc hB
    by_cases hkn : k < n
    · obtain ⟨b, off, t, rfl, hb, ht, q0, q1, q2⟩ := ((hl.below hb1).below (hbel.mono hz)).at_ hkn
      obtain ⟨s1, s2, s3, s4, s5⟩ := unhide HSM t (List.mem_of_getElem? ht)
      obtain ⟨tl, tf, tn⟩ := t
      simp only at s1 s2 s3 s4 s5 q0 q1 q2
      have HT := hide ht
      clear ht
      by_cases hlit : tl = []
      · subst hlit
        have w2 : IntKind.i64.wrap (2 * tn) = 2 * tn := IntWalk.i64_in _ ⟨by omega, by omega⟩
        have w3 : IntKind.i64.wrap (2 * tn + 1) = 2 * tn + 1 := IntWalk.i64_in _ ⟨by omega, by omega⟩
        have w4 := nb_len5 (n := (2 * tn + 1).toNat) (by omega)
        have P1 := hide (fun (W : World) (h : IsB w1.heap.size w1.heap.size acc0 W) (hW : w1.heap.size ≤ W.heap.size) => wput_any w1.heap.size w1.heap.size acc0 (2 * tn + 1) W h (by omega) (by omega) (by omega) hW)
        have P2 := hide (fun (W : World) (h : IsB w1.heap.size w1.heap.size (acc0 ++ nb (2 * tn + 1).toNat) W) (hW : w1.heap.size ≤ W.heap.size) => wput_any w1.heap.size w1.heap.size (acc0 ++ nb (2 * tn + 1).toNat) tf W h (by omega) (by omega) (by rw [List.length_append]; omega) hW)
        go_wp2_with fail
        refine (unhide P1 _ (IsB.kept (unhide HB) ((Below.refl _ _).alloc (Nat.le_refl _) _)) (by simp; omega)).mono ?_
        rintro e w2 ⟨rfl, hB2, hb2, hk2⟩
        have HB2 := hide hB2
        have B0 := hk2.block wr.heap.size _ (heap_alloc_new wr _) rfl
        have K1 : w2.cell? ⟨wr.heap.size, 1, none⟩ = some (I tf) := by rw [cell_of_row w2 _ 1 _ _ _ B0]; rfl
        clear B0 hB2
        have hz2 := hb2.size
        have hz3 : w1.heap.size ≤ w2.heap.size := by simp at hz2; omega
        go_wp2_with fail
        refine (unhide P2 _ (unhide HB2) hz3).mono ?_
        rintro e w3 ⟨rfl, hB3, hb3, hk3⟩
        have HB3 := hide hB3
        have hz4 := hb3.size
        clear hB3
        go_wp2_with fail
        go_roundw
        case rel =>
          refine ⟨k + 1, by omega, by go_num, ?_, ((hbel.alloc (by omega) _).trans hb2).trans hb3, by simp at hz2; omega⟩
          rw [toksB_take (unhide HT), ← unhide HACC]
          have e1 : (2 * tn + 1).toNat = 2 * tn.toNat + 1 := by omega
          have := unhide HB3
          rw [e1] at this
          simpa [tokB] using this
        case measure => simp [intOf]; omega
      · have hl1 : tl.isEmpty = false := by simpa using hlit
        have hl2 : (tl == []) = false := by simpa using hlit
        have HL := hide hlit
        clear hlit
        have w2 : IntKind.i64.wrap (2 * (tl.length : Int)) = 2 * (tl.length : Int) := IntWalk.i64_in _ ⟨by omega, by omega⟩
        have w4 := nb_len5 (n := (2 * (tl.length : Int)).toNat) (by omega)
        have P1 := hide (fun (W : World) (h : IsB w1.heap.size w1.heap.size acc0 W) (hW : w1.heap.size ≤ W.heap.size) => wput_any w1.heap.size w1.heap.size acc0 (2 * (tl.length : Int)) W h (by omega) (by omega) (by omega) hW)
        have P2 := hide (fun (W : World) (h : IsB w1.heap.size w1.heap.size (acc0 ++ nb (2 * (tl.length : Int)).toNat) W) (hW : w1.heap.size ≤ W.heap.size) => bld_write w1.heap.size w1.heap.size (acc0 ++ nb (2 * (tl.length : Int)).toNat) tl W h (by rw [List.length_append]; omega) hW)
        go_wp2_with fail
        refine (unhide P1 _ (IsB.kept (unhide HB) ((Below.refl _ _).alloc (Nat.le_refl _) _)) (by simp; omega)).mono ?_
        rintro e w2 ⟨rfl, hB2, hb2, hk2⟩
        have HB2 := hide hB2
        have B0 := hk2.block wr.heap.size _ (heap_alloc_new wr _) rfl
        have K1 : w2.cell? ⟨wr.heap.size, 0, none⟩ = some (S tl) := by rw [cell_of_row w2 _ 0 _ _ _ B0]; rfl
        clear B0 hB2
        have hz2 := hb2.size
        have hz3 : w1.heap.size ≤ w2.heap.size := by simp at hz2; omega
        go_wp2_with fail
        refine (unhide P2 _ (unhide HB2) hz3).mono ?_
        rintro e w3 ⟨rfl, hB3, hb3, hk3⟩
        have HB3 := hide hB3
        have hz4 := hb3.size
        clear hB3
        go_wp2_with fail
        go_roundw
        case rel =>
          refine ⟨k + 1, by omega, by go_num, ?_, ((hbel.alloc (by omega) _).trans hb2).trans hb3, by simp at hz2; omega⟩
          rw [toksB_take (unhide HT), ← unhide HACC]
          have e1 : (2 * (tl.length : Int)).toNat = 2 * tl.length := by omega
          have := unhide HB3
          rw [e1] at this
          simpa [tokB, unhide HL] using this
        case measure => simp [intOf]; omega
    · have hfin : acc0 = toksB l := by rw [unhide HACC, List.take_of_length_le (by omega)]
      have C9 := Try.Builder_String_any w1.heap.size w1.heap.size acc0 wr (unhide HB) (by omega)
      have C9 := hide C9
      have HF := hide hfin
      have hk2 : decide ((k : Int) < (n : Int)) = false := by simp; omega
      clear hfin
      go_wp2_with fail
      refine (unhide C9).mono ?_
      rintro e w2 ⟨rfl, hb2⟩
      go_wp2_with fail
      go_ret2
      exact ⟨by rw [unhide HF]; rfl, hb1.trans ((hbel.trans hb2).mono hz)⟩

set_option maxHeartbeats 1000000 in
set_option maxRecDepth 100000 in
/-- B3 -/
theorem write_any (dict : Bytes) (A : Option Addr) (n cap : Nat) (l : List Tok) (w : World) (hl : ToksAt w w.heap.size A n l) (hd : dict.length ≤ 9223372036854775807) (hn : n ≤ 4611686018427387904) :
    Calls Try.prog 31 #[S dict, .slice A n cap] w fun e w' => e = .returned (.tuple #[S (write dict l).1, I (write dict l).2]) ∧ Below w.heap.size w w' := by
  by_cases hp : (play dict l).2 = 0
  · have e : write dict l = (toksB l, 0) := by unfold write; exact if_neg (by omega)
    rw [e]; exact write_ok dict A n cap l w hl hd hn hp
  · have e : write dict l = ([], (play dict l).2) := by unfold write; exact if_pos hp
    rw [e]
    have C1 := hide (check_any dict A n cap l w hl hd hn)
    have e1 : (((play dict l).2 : Int) == 0) = false := by rw [beq_eq_false_iff_ne]; omega
    have e2 : (((play dict l).2 : Int) != 0) = true := by rw [bne_iff_ne]; omega
    clear hp e
    go_enter Try.func31, Try.ntmps31
    go_wp2_with fail
    refine (unhide C1).mono ?_
    rintro e w1 ⟨rfl, hb1⟩
    go_wp2_with fail
    go_ret2
    exact ⟨rfl, hb1⟩

end Go.Proofs.Ytgfkkjcnnecefaa
