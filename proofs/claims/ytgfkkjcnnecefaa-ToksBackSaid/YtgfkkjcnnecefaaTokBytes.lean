/- The walk of the reference's TokBytes. -/
import Derived.Test.YtgfkkjcnnecefaaToksAt
import Derived.Test.YtgfkkjcnnecefaaRefNums
import Derived.Test.YtgfkkjcnnecefaaPureRead
import Derived.Deep.RegionHeld3
namespace Go.Proofs.Ytgfkkjcnnecefaa
open Go.RowKit Go.Lib Pl
attribute [local go_sem] ext_list app_list

theorem concat_list (x y : List UInt8) (h : x.length + y.length ≤ 9223372036854775807) : Op.stringOp .add ⟨x.toArray⟩ ⟨y.toArray⟩ = (pure (S (x ++ y)) : Sem Value) := by
  unfold Op.stringOp
  have hx : (⟨x.toArray⟩ : ByteArray).size = x.length := rfl
  have hy : (⟨y.toArray⟩ : ByteArray).size = y.length := rfl
  have hm : IntKind.i64.max = 9223372036854775807 := rfl
  simp only [hx, hy, hm]
  rw [if_neg (by omega), app_list]

theorem numBytes_i (n : Int) (w : World) (h0 : 0 ≤ n) (h1 : n ≤ 9223372036854775807) :
    Calls Try.prog 14 #[I n] w fun e w' => e = .returned (S (nb n.toNat)) ∧ Below w.heap.size w w' :=
  numBytes_k n.toNat n w (Nat.le_refl _) h0 h1

theorem toksB_snoc (l : List Tok) (t : Tok) : toksB (l ++ [t]) = toksB l ++ tokB t := by
  induction l with
  | nil => simp [toksB]
  | cons u l ih => simp [toksB, ih]
theorem toksB_take {l : List Tok} {k : Nat} {t : Tok} (h : l[k]? = some t) : toksB (l.take (k + 1)) = toksB (l.take k) ++ tokB t := by
  rw [List.take_add_one, h]; exact toksB_snoc _ _

/-- a tok of some sizes -/
def Small (t : Tok) : Prop := t.lit.length ≤ 512 ∧ 0 ≤ t.len ∧ t.len ≤ 64 ∧ 0 ≤ t.far ∧ t.far ≤ 1000

theorem nb_len5 {n : Nat} (h : n ≤ 2000) : (nb n).length ≤ 5 := by
  have := nb_len 4 n (by omega)
  omega
theorem tokB_small {t : Tok} (h : Small t) : (tokB t).length ≤ 1000 := by
  obtain ⟨h1, h2, h3, h4, h5⟩ := h
  have a := nb_len5 (n := 2 * t.lit.length) (by omega)
  have b := nb_len5 (n := 2 * t.len.toNat + 1) (by omega)
  have c := nb_len5 (n := t.far.toNat) (by omega)
  unfold tokB
  split <;> simp <;> omega
theorem toksB_small : ∀ (l : List Tok), (∀ t ∈ l, Small t) → (toksB l).length ≤ 1000 * l.length
  | [], _ => by simp [toksB]
  | t :: l, h => by
    have a := tokB_small (h t (by simp))
    have b := toksB_small l (fun u hu => h u (by simp [hu]))
    simp [toksB]; omega

attribute [local go_sem ↓] concat_list in
set_option maxHeartbeats 1000000 in
set_option maxRecDepth 100000 in
theorem tokBytes_any (A : Option Addr) (n cap : Nat) (l : List Tok) (w : World) (hl : ToksAt w w.heap.size A n l) (hn : n ≤ 1000000) (hsm : ∀ t ∈ l, Small t) :
    Calls Try.prog 32 #[.slice A n cap] w fun e w' => e = .returned (S (toksB l)) ∧ Below w.heap.size w w' := by
  have HSM := hide hsm
  clear hsm
  go_enter Try.func32, Try.ntmps32
  go_wp2_with fail
  go_loopw [3, 4] (fun sv i wr => ∃ k : Nat, k ≤ n ∧ i = .int .i64 k ∧ sv = S (toksB (l.take k)) ∧ Below w.heap.size w wr) (fun _ i _ => n - (intOf i).toNat)
  case atStart => exact ⟨0, by omega, rfl, rfl, Below.refl _ _⟩
  case round =>
    obtain ⟨k, hk, rfl, rfl, hbel⟩ := hrel
    obtain ⟨acc0, hacc⟩ : ∃ a, a = toksB (l.take k) := ⟨_, rfl⟩
    have haln : acc0.length ≤ 1000000000 := by
      have h1 := toksB_small (l.take k) (fun u hu => unhide HSM u (List.mem_of_mem_take hu))
      rw [← hacc, List.length_take] at h1
      omega
    rw [← hacc]
    have HACC := hide hacc
    clear hacc
    by_cases hkn : k < n
    · obtain ⟨b, off, t, rfl, hb, ht, q0, q1, q2⟩ := (hl.below hbel).at_ hkn
      obtain ⟨s1, s2, s3, s4, s5⟩ := unhide HSM t (List.mem_of_getElem? ht)
      obtain ⟨tl, tf, tn⟩ := t
      simp only at s1 s2 s3 s4 s5 q0 q1 q2
      have hbw : b < wr.heap.size := Nat.lt_of_lt_of_le hb hbel.size
      have HT := hide ht
      clear ht
      have hb0 := Below.refl wr.heap.size wr
      by_cases hlit : tl = []
      · subst hlit
        have w1 : IntKind.i64.wrap (2 * tn) = 2 * tn := IntWalk.i64_in _ ⟨by omega, by omega⟩
        have w2 : IntKind.i64.wrap (2 * tn + 1) = 2 * tn + 1 := IntWalk.i64_in _ ⟨by omega, by omega⟩
        have w3 := nb_len5 (n := (2 * tn + 1).toNat) (by omega)
        have w4 := nb_len5 (n := tf.toNat) (by omega)
        have w5 : acc0.length + (nb (2 * tn + 1).toNat).length ≤ 9223372036854775807 := by omega
        have w6 : acc0.length + (nb (2 * tn + 1).toNat).length + (nb tf.toNat).length ≤ 9223372036854775807 := by omega
        have w7 : acc0.length + ((nb (2 * tn + 1).toNat).length + (nb tf.toNat).length) ≤ 9223372036854775807 := by omega
        have w8 : (acc0 ++ nb (2 * tn + 1).toNat).length + (nb tf.toNat).length ≤ 9223372036854775807 := by simp; omega
        go_wp2_with fail
        go_region_held3 (fun w' => w'.cell? ⟨b, off + k * 3 + 1, none⟩ = some (I tf) ∧ w'.cell? ⟨b, off + k * 3 + 2, none⟩ = some (I tn)) (first | go_keep)
          ((first | (go_at_call 14; refine (acc (numBytes_i _ _ (by omega) (by omega)) (w0 := wr) (by first | assumption | exact Below.drew (by assumption) | exact below_drewN (by assumption) _)).mono ?_; rintro e w1 ⟨rfl, hb1⟩; have K1 := (hb1.cell (p := ⟨b, off + k * 3 + 1, none⟩) hbw).trans q1; have K2 := (hb1.cell (p := ⟨b, off + k * 3 + 2, none⟩) hbw).trans q2)))
        all_goals
          go_wp2_with fail
          go_roundw
          case rel =>
            refine ⟨k + 1, by omega, by go_num, ?_, hbel.trans ((by assumption : Below wr.heap.size wr _).mono hbel.size)⟩
            rw [toksB_take (unhide HT), ← unhide HACC]
            have e1 : (2 * tn + 1).toNat = 2 * tn.toNat + 1 := by omega
            simp [tokB, e1]
          case measure => simp [intOf]; omega
      · have hl1 : tl.isEmpty = false := by simpa using hlit
        have hl2 : (tl == []) = false := by simpa using hlit
        have HL := hide hlit
        clear hlit
        have w1 : IntKind.i64.wrap (2 * (tl.length : Int)) = 2 * (tl.length : Int) := IntWalk.i64_in _ ⟨by omega, by omega⟩
        have w3 := nb_len5 (n := (2 * (tl.length : Int)).toNat) (by omega)
        have w5 : acc0.length + (nb (2 * (tl.length : Int)).toNat).length ≤ 9223372036854775807 := by omega
        have w6 : acc0.length + (nb (2 * (tl.length : Int)).toNat).length + tl.length ≤ 9223372036854775807 := by omega
        have w7 : acc0.length + ((nb (2 * (tl.length : Int)).toNat).length + tl.length) ≤ 9223372036854775807 := by omega
        have w8 : (acc0 ++ nb (2 * (tl.length : Int)).toNat).length + tl.length ≤ 9223372036854775807 := by simp; omega
        go_wp2_with fail
        go_region_held3 (fun w' => w'.cell? ⟨b, off + k * 3, none⟩ = some (S tl)) (first | go_keep)
          ((first | (go_at_call 14; refine (acc (numBytes_i _ _ (by omega) (by omega)) (w0 := wr) (by first | assumption | exact Below.drew (by assumption) | exact below_drewN (by assumption) _)).mono ?_; rintro e w1 ⟨rfl, hb1⟩; have K1 := (hb1.cell (p := ⟨b, off + k * 3, none⟩) hbw).trans q0)))
        all_goals
          go_wp2_with fail
          go_roundw
          case rel =>
            refine ⟨k + 1, by omega, by go_num, ?_, hbel.trans ((by assumption : Below wr.heap.size wr _).mono hbel.size)⟩
            rw [toksB_take (unhide HT), ← unhide HACC]
            have e1 : (2 * (tl.length : Int)).toNat = 2 * tl.length := by omega
            simp [tokB, e1, unhide HL]
          case measure => simp [intOf]; omega
    · have hfin : acc0 = toksB l := by rw [unhide HACC, List.take_of_length_le (by have := hl.1; omega)]
      have HF := hide hfin
      have hk2 : decide ((k : Int) < (n : Int)) = false := by simp; omega
      clear hfin
      go_wp2_with fail
      go_ret
      exact ⟨by rw [unhide HF]; rfl, hbel⟩

end Go.Proofs.Ytgfkkjcnnecefaa
