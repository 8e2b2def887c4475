/- NumsBack: the walk. -/
import Derived.Test.YtgfkkjcnnecefaaNumsBegun
import Derived.Deep.DeepCutAuto
namespace Go.Proofs.Ytgfkkjcnnecefaa
open Go.RowKit Pl
attribute [local go_sem] ext_list app_list

set_option maxHeartbeats 2000000 in
set_option maxRecDepth 100000 in
theorem numsBack_walk (n : Int) (t rest s : Bytes) (w : World) (hr : rest.length ≤ 140737488351232) (hs : s.length ≤ 140737488351232)
    (b : Bytes) (e : Int) (cPut : ∀ W, Calls Try.prog 13 #[I n] W fun e' w' => e' = .returned (.tuple #[S b, I e]) ∧ Below W.heap.size W w')
    (hN : (0 ≤ n ∧ n ≤ 2147483647 ∧ b = nb n.toNat ∧ e = 0) ∨ ((n < 0 ∨ 2147483647 < n) ∧ b = [] ∧ e = 3))
    (c : Bytes) (g : Int) (cText : ∀ W, Calls Try.prog 17 #[S t] W fun e' w' => e' = .returned (.tuple #[S c, I g]) ∧ Below W.heap.size W w')
    (hT : (t.length ≤ 512 ∧ c = textB t ∧ g = 0) ∨ (512 < t.length ∧ c = [] ∧ g = 2)) :
    Calls Try.prog 4 #[I n, S t, S rest, S s] w fun e' w' => e' = .returned (.bool true) ∧ Below w.heap.size w w' := by
  have cBeg := hide (fun W => numsBegun_any W)
  have HcPut := hide cPut
  have HcText := hide cText
  have HhN := hide hN
  have HhT := hide hT
  have hb0 := Below.refl w.heap.size w
  clear cPut cText hN hT
  go_enter Try.func4, Try.ntmps4
  go_upto_if 30 with ((go_at_call 13; refine (acc (unhide HcPut _) (by first | assumption | exact Below.drew (by assumption) | exact below_drewN (by assumption) _)).mono ?_; rintro e w1 ⟨rfl, hb1⟩))
  go_cut [9] (fun s9 wx => s9 = S b ∧ Below w.heap.size w wx)
  case first =>
    rcases unhide HhN with ⟨h0, h1, rfl, rfl⟩ | ⟨h1, rfl, rfl⟩
    · obtain ⟨q, rfl⟩ := Int.eq_ofNat_of_zero_le h0
      have hl := nb_len 9 q (by omega)
      have cTake := hide (fun W => take_ok (take_nb (n := q) (by unfold maxNum; omega) rest) W (by rw [List.length_append]; omega))
      clear HhN HhT
      go_wp2_with ((go_at_call 15; refine (acc (unhide cTake _) (by first | assumption | exact Below.drew (by assumption) | exact below_drewN (by assumption) _)).mono ?_; rintro e w1 ⟨rfl, hb1⟩))
      go_meet
      exact ⟨rfl, by assumption⟩
    · clear HhN HhT
      go_wp2_with fail
      go_meet
      exact ⟨rfl, by assumption⟩
  case rest =>
  obtain ⟨rfl, hb1⟩ := hcut
  clear HhN
  go_upto_if 57 with ((go_at_call 17; refine (acc (unhide HcText _) (by first | assumption | exact Below.drew (by assumption) | exact below_drewN (by assumption) _)).mono ?_; rintro e w1 ⟨rfl, hb1⟩))
  go_cut [14] (fun s9 wx => s9 = S c ∧ Below w.heap.size w wx)
  case first =>
    rcases unhide HhT with ⟨h1, rfl, rfl⟩ | ⟨h1, rfl, rfl⟩
    · have hl := nb_len 9 t.length (by omega)
      have hl2 : (textB t).length = (nb t.length).length + t.length := by unfold textB; rw [List.length_append]
      have hl3 : (textB t).length ≤ 600 := by omega
      have cTT := hide (fun W => takeText_any_ok (takeText_textB (t := t) (by unfold maxText; omega) rest) W (by rw [List.length_append]; omega))
      clear HhT hl2
      go_wp2_with ((go_at_call 19; refine (acc (unhide cTT _) (by first | assumption | exact Below.drew (by assumption) | exact below_drewN (by assumption) _)).mono ?_; rintro e w1 ⟨rfl, hb1⟩))
      go_meet
      exact ⟨rfl, by assumption⟩
    · clear HhT
      go_wp2_with fail
      go_meet
      exact ⟨rfl, by assumption⟩
  case rest =>
  obtain ⟨rfl, hb2⟩ := hcut
  clear HhT
  cases hk : take s with
  | none =>
    have cTake := hide (fun W => take_no hk W (by omega))
    clear hk
    go_wp2_with (first | (go_at_call 15; refine (acc (unhide cTake _) (by first | assumption | exact Below.drew (by assumption) | exact below_drewN (by assumption) _)).mono ?_; rintro e w1 ⟨rfl, hb1⟩) | (go_at_call 21; refine (acc (unhide cBeg _) (by first | assumption | exact Below.drew (by assumption) | exact below_drewN (by assumption) _)).mono ?_; rintro e w1 ⟨rfl, hb1⟩))
    go_ret
    exact ⟨rfl, by assumption⟩
  | some p =>
    obtain ⟨k, r⟩ := p
    obtain ⟨h1, h2⟩ := take_some hk
    unfold maxNum at h2
    have hl := nb_len 9 k (by omega)
    have hr2 := (take_len hk).1
    have heq : (nb k ++ r == s) = true := by rw [beq_iff_eq, h1]
    have cTake := hide (fun W => take_ok hk W (by omega))
    have cPut := hide (fun W => put_ok k W (by omega))
    clear hk h1
    go_wp2_with (first | (go_at_call 15; refine (acc (unhide cTake _) (by first | assumption | exact Below.drew (by assumption) | exact below_drewN (by assumption) _)).mono ?_; rintro e w1 ⟨rfl, hb1⟩) | (go_at_call 13; refine (acc (unhide cPut _) (by first | assumption | exact Below.drew (by assumption) | exact below_drewN (by assumption) _)).mono ?_; rintro e w1 ⟨rfl, hb1⟩) | (go_at_call 21; refine (acc (unhide cBeg _) (by first | assumption | exact Below.drew (by assumption) | exact below_drewN (by assumption) _)).mono ?_; rintro e w1 ⟨rfl, hb1⟩))
    go_ret
    exact ⟨rfl, by assumption⟩

theorem numsBack_any (n : Int) (t rest s : Bytes) (w : World) (ht : t.length ≤ 140737488351232) (hr : rest.length ≤ 140737488351232) (hs : s.length ≤ 140737488351232) :
    Calls Try.prog 4 #[I n, S t, S rest, S s] w fun e w' => e = .returned (.bool true) ∧ Below w.heap.size w w' := by
  have hN : ∃ (b : Bytes) (e : Int), (∀ W, Calls Try.prog 13 #[I n] W fun e' w' => e' = .returned (.tuple #[S b, I e]) ∧ Below W.heap.size W w') ∧
      ((0 ≤ n ∧ n ≤ 2147483647 ∧ b = nb n.toNat ∧ e = 0) ∨ ((n < 0 ∨ 2147483647 < n) ∧ b = [] ∧ e = 3)) := by
    by_cases h : 0 ≤ n ∧ n ≤ 2147483647
    · exact ⟨_, _, fun W => put_good n W h.1 h.2, .inl ⟨h.1, h.2, rfl, rfl⟩⟩
    · have h2 : n < 0 ∨ 2147483647 < n := by omega
      exact ⟨_, _, fun W => still (put_bad n W h2), .inr ⟨h2, rfl, rfl⟩⟩
  have hT : ∃ (c : Bytes) (g : Int), (∀ W, Calls Try.prog 17 #[S t] W fun e' w' => e' = .returned (.tuple #[S c, I g]) ∧ Below W.heap.size W w') ∧
      ((t.length ≤ 512 ∧ c = textB t ∧ g = 0) ∨ (512 < t.length ∧ c = [] ∧ g = 2)) := by
    by_cases h : t.length ≤ 512
    · exact ⟨_, _, fun W => text_ok t W h, .inl ⟨h, rfl, rfl⟩⟩
    · exact ⟨_, _, fun W => text_many t W (by omega) (by omega), .inr ⟨by omega, rfl, rfl⟩⟩
  obtain ⟨b, e, cPut, hN⟩ := hN
  obtain ⟨c, g, cText, hT⟩ := hT
  exact numsBack_walk n t rest s w hr hs b e cPut hN c g cText hT

end Go.Proofs.Ytgfkkjcnnecefaa
