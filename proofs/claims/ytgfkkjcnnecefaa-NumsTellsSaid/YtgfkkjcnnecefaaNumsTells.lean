/- NumsTells: the walk. -/
import Derived.Test.YtgfkkjcnnecefaaNumsBegun
import Derived.Deep.DeepCutAuto
namespace Go.Proofs.Ytgfkkjcnnecefaa
open Go.RowKit Pl
attribute [local go_sem] ext_list app_list

theorem still_below {P : Program} {f : FuncId} {args : Array Value} {v : Value} (h : ∀ W, Calls P f args W fun e w' => e = .returned v ∧ W = w') (W : World) :
    Calls P f args W fun e w' => e = .returned v ∧ Below W.heap.size W w' := still (h W)

set_option maxHeartbeats 2000000 in
set_option maxRecDepth 100000 in
theorem numsTells_walk (n : Int) (s t : Bytes) (w : World) (htl : t.length ≤ 9223372036854775807)
    (b : Bytes) (e : Int) (cPut : ∀ W, Calls Try.prog 13 #[I n] W fun e' w' => e' = .returned (.tuple #[S b, I e]) ∧ Below W.heap.size W w')
    (hN : (0 ≤ n ∧ n ≤ 2147483647 ∧ b = nb n.toNat ∧ e = 0) ∨ ((n < 0 ∨ 2147483647 < n) ∧ b = [] ∧ e = 3))
    (c : Bytes) (g : Int) (cText : ∀ W, Calls Try.prog 17 #[S t] W fun e' w' => e' = .returned (.tuple #[S c, I g]) ∧ Below W.heap.size W w')
    (hT : (t.length ≤ 512 ∧ c = textB t ∧ g = 0) ∨ (512 < t.length ∧ c = [] ∧ g = 2))
    (k : Int) (r : Bytes) (fe : Int) (is : Bool) (hf : (fe = 0 ∧ is = true) ∨ (fe = 1 ∧ is = false))
    (cTake : ∀ W, Calls Try.prog 15 #[S s] W fun e' w' => e' = .returned (.tuple #[I k, S r, I fe]) ∧ Below W.heap.size W w')
    (cFrom : ∀ W, Calls Try.prog 16 #[S s] W fun e' w' => e' = .returned (.tuple #[I k, S r, .bool is]) ∧ Below W.heap.size W w')
    (d m : Bytes) (he : Int) (has : Bool) (hh : (he = 0 ∧ has = true) ∨ (he = 1 ∧ has = false))
    (cTT : ∀ W, Calls Try.prog 19 #[S s] W fun e' w' => e' = .returned (.tuple #[S d, S m, I he]) ∧ Below W.heap.size W w')
    (cTF : ∀ W, Calls Try.prog 20 #[S s] W fun e' w' => e' = .returned (.tuple #[S d, S m, .bool has]) ∧ Below W.heap.size W w') :
    Calls Try.prog 3 #[I n, S s, S t] w fun e' w' => e' = .returned (.bool true) ∧ Below w.heap.size w w' := by
  have cSum := hide (fun W => still (sum_any t W htl))
  have cSumOf := hide (fun W => still (sumOf_any t W htl))
  have cBeg := hide (fun W => numsBegun_any W)
  have HcPut := hide cPut
  clear cPut
  have HcText := hide cText
  clear cText
  have HcTake := hide cTake
  clear cTake
  have HcFrom := hide cFrom
  clear cFrom
  have HcTT := hide cTT
  clear cTT
  have HcTF := hide cTF
  clear cTF
  have HhN := hide hN
  clear hN
  have HhT := hide hT
  clear hT
  have Hhf := hide hf
  clear hf
  have Hhh := hide hh
  clear hh
  have hb0 := Below.refl w.heap.size w
  go_enter Try.func3, Try.ntmps3
  go_upto_region 4 with ((go_at_call 13; refine (acc (unhide HcPut _) (by first | assumption | exact Below.drew (by assumption) | exact below_drewN (by assumption) _)).mono ?_; rintro e w1 ⟨rfl, hb1⟩))
  go_cut [37] (fun s9 wx => s9 = .bool (decide (0 ≤ n ∧ n ≤ 2147483647)) ∧ Below w.heap.size w wx)
  case first =>
    by_cases h0 : 0 ≤ n
    · by_cases h1 : n ≤ 2147483647
      · go_wp2_with fail
        go_meet
        exact ⟨by rw [decide_eq_true ⟨h0, h1⟩], by assumption⟩
      · go_wp2_with fail
        go_meet
        exact ⟨by rw [decide_eq_false (by omega)], by assumption⟩
    · go_wp2_with fail
      go_meet
      exact ⟨by rw [decide_eq_false (by omega)], by assumption⟩
  case rest =>
  obtain ⟨rfl, hb1⟩ := hcut
  go_upto_if 37 with fail
  go_cut [9, 10] (fun s9 s10 wx => s9 = I e ∧ s10 = S b ∧ Below w.heap.size w wx)
  case first =>
    rcases unhide HhN with ⟨h0, h1, h2, h3⟩ | ⟨h1, h2, h3⟩
    · rw [decide_eq_true ⟨h0, h1⟩]
      obtain ⟨q, rfl⟩ := Int.eq_ofNat_of_zero_le h0
      have cNB := hide (fun W => numBytes_any q W (by omega))
      have H2 := hide h2
      have H3 := hide h3
      clear h2 h3
      go_wp2_with ((go_at_call 14; refine (acc (unhide cNB _) (by first | assumption | exact Below.drew (by assumption) | exact below_drewN (by assumption) _)).mono ?_; rintro e w1 ⟨rfl, hb1⟩))
      go_meet
      exact ⟨by rw [unhide H3], by rw [unhide H2, Int.toNat_natCast], by assumption⟩
    · rw [decide_eq_false (by omega)]
      have H2 := hide h2
      have H3 := hide h3
      clear h2 h3
      go_wp2_with fail
      go_meet
      exact ⟨by rw [unhide H3], by rw [unhide H2], by assumption⟩
  case rest =>
    obtain ⟨rfl, rfl, hb1⟩ := hcut
    go_upto_if 59 with (first | (go_at_call 15; refine (acc (unhide HcTake _) (by first | assumption | exact Below.drew (by assumption) | exact below_drewN (by assumption) _)).mono ?_; rintro e w1 ⟨rfl, hb1⟩) | (go_at_call 16; refine (acc (unhide HcFrom _) (by first | assumption | exact Below.drew (by assumption) | exact below_drewN (by assumption) _)).mono ?_; rintro e w1 ⟨rfl, hb1⟩) | (go_at_call 17; refine (acc (unhide HcText _) (by first | assumption | exact Below.drew (by assumption) | exact below_drewN (by assumption) _)).mono ?_; rintro e w1 ⟨rfl, hb1⟩) | (go_at_call 19; refine (acc (unhide HcTT _) (by first | assumption | exact Below.drew (by assumption) | exact below_drewN (by assumption) _)).mono ?_; rintro e w1 ⟨rfl, hb1⟩) | (go_at_call 20; refine (acc (unhide HcTF _) (by first | assumption | exact Below.drew (by assumption) | exact below_drewN (by assumption) _)).mono ?_; rintro e w1 ⟨rfl, hb1⟩) | (go_at_call 21; refine (acc (unhide cBeg _) (by first | assumption | exact Below.drew (by assumption) | exact below_drewN (by assumption) _)).mono ?_; rintro e w1 ⟨rfl, hb1⟩) | (go_at_call 22; refine (acc (unhide cSum _) (by first | assumption | exact Below.drew (by assumption) | exact below_drewN (by assumption) _)).mono ?_; rintro e w1 ⟨rfl, hb1⟩) | (go_at_call 23; refine (acc (unhide cSumOf _) (by first | assumption | exact Below.drew (by assumption) | exact below_drewN (by assumption) _)).mono ?_; rintro e w1 ⟨rfl, hb1⟩))
    go_cut [19, 20] (fun s9 s10 wx => s9 = I g ∧ s10 = S c ∧ Below w.heap.size w wx)
    case first =>
      rcases unhide HhT with ⟨h1, h2, h3⟩ | ⟨h1, h2, h3⟩
      · have cTB := hide (fun W => textBytes_any t W (by omega))
        have H2 := hide h2
        have H3 := hide h3
        clear h2 h3
        go_wp2_with ((go_at_call 18; refine (acc (unhide cTB _) (by first | assumption | exact Below.drew (by assumption) | exact below_drewN (by assumption) _)).mono ?_; rintro e w1 ⟨rfl, hb1⟩))
        go_meet
        exact ⟨by rw [unhide H3], by rw [unhide H2], by assumption⟩
      · have H2 := hide h2
        have H3 := hide h3
        clear h2 h3
        go_wp2_with fail
        go_meet
        exact ⟨by rw [unhide H3], by rw [unhide H2], by assumption⟩
    case rest =>
      obtain ⟨rfl, rfl, hb2⟩ := hcut
      clear hb1
      rcases unhide Hhf with ⟨rfl, rfl⟩ | ⟨rfl, rfl⟩ <;> rcases unhide Hhh with ⟨rfl, rfl⟩ | ⟨rfl, rfl⟩
      all_goals
        clear Hhf Hhh HhN HhT
        go_wp2_with (first | (go_at_call 15; refine (acc (unhide HcTake _) (by first | assumption | exact Below.drew (by assumption) | exact below_drewN (by assumption) _)).mono ?_; rintro e w1 ⟨rfl, hb1⟩) | (go_at_call 16; refine (acc (unhide HcFrom _) (by first | assumption | exact Below.drew (by assumption) | exact below_drewN (by assumption) _)).mono ?_; rintro e w1 ⟨rfl, hb1⟩) | (go_at_call 17; refine (acc (unhide HcText _) (by first | assumption | exact Below.drew (by assumption) | exact below_drewN (by assumption) _)).mono ?_; rintro e w1 ⟨rfl, hb1⟩) | (go_at_call 19; refine (acc (unhide HcTT _) (by first | assumption | exact Below.drew (by assumption) | exact below_drewN (by assumption) _)).mono ?_; rintro e w1 ⟨rfl, hb1⟩) | (go_at_call 20; refine (acc (unhide HcTF _) (by first | assumption | exact Below.drew (by assumption) | exact below_drewN (by assumption) _)).mono ?_; rintro e w1 ⟨rfl, hb1⟩) | (go_at_call 21; refine (acc (unhide cBeg _) (by first | assumption | exact Below.drew (by assumption) | exact below_drewN (by assumption) _)).mono ?_; rintro e w1 ⟨rfl, hb1⟩) | (go_at_call 22; refine (acc (unhide cSum _) (by first | assumption | exact Below.drew (by assumption) | exact below_drewN (by assumption) _)).mono ?_; rintro e w1 ⟨rfl, hb1⟩) | (go_at_call 23; refine (acc (unhide cSumOf _) (by first | assumption | exact Below.drew (by assumption) | exact below_drewN (by assumption) _)).mono ?_; rintro e w1 ⟨rfl, hb1⟩))
        go_ret
        exact ⟨rfl, by assumption⟩

theorem numsTells_any (n : Int) (s t : Bytes) (w : World) (hs : s.length ≤ 9223372036854775807) (htl : t.length ≤ 9223372036854775807) :
    Calls Try.prog 3 #[I n, S s, S t] w fun e w' => e = .returned (.bool true) ∧ Below w.heap.size w w' := by
  have hs2 : s.length ≤ 9223372036854775807 := by omega
  have hN : ∃ (b : Bytes) (e : Int), (∀ W, Calls Try.prog 13 #[I n] W fun e' w' => e' = .returned (.tuple #[S b, I e]) ∧ Below W.heap.size W w') ∧
      ((0 ≤ n ∧ n ≤ 2147483647 ∧ b = nb n.toNat ∧ e = 0) ∨ ((n < 0 ∨ 2147483647 < n) ∧ b = [] ∧ e = 3)) := by
    by_cases h : 0 ≤ n ∧ n ≤ 2147483647
    · exact ⟨_, _, fun W => put_good n W h.1 h.2, .inl ⟨h.1, h.2, rfl, rfl⟩⟩
    · have h2 : n < 0 ∨ 2147483647 < n := by omega
      exact ⟨_, _, fun W => still (put_bad n W h2), .inr ⟨h2, rfl, rfl⟩⟩
  have hT : ∃ (c : Bytes) (g : Int), (∀ W, Calls Try.prog 17 #[S t] W fun e' w' => e' = .returned (.tuple #[S c, I g]) ∧ Below W.heap.size W w') ∧
      ((t.length ≤ 512 ∧ c = textB t ∧ g = 0) ∨ (512 < t.length ∧ c = [] ∧ g = 2)) := by
    by_cases h : t.length ≤ 512
    · exact ⟨_, _, fun W => text_ok t W h, .inl ⟨h, rfl, rfl⟩⟩
    · exact ⟨_, _, fun W => text_many t W (by omega) (by omega), .inr ⟨by omega, rfl, rfl⟩⟩
  have hF : ∃ (k : Int) (r : Bytes) (fe : Int) (is : Bool), ((fe = 0 ∧ is = true) ∨ (fe = 1 ∧ is = false)) ∧
      (∀ W, Calls Try.prog 15 #[S s] W fun e' w' => e' = .returned (.tuple #[I k, S r, I fe]) ∧ Below W.heap.size W w') ∧
      (∀ W, Calls Try.prog 16 #[S s] W fun e' w' => e' = .returned (.tuple #[I k, S r, .bool is]) ∧ Below W.heap.size W w') := by
    cases hk : take s with
    | none => exact ⟨_, _, _, _, .inr ⟨rfl, rfl⟩, fun W => take_no hk W hs2, fun W => numFrom_no hk W hs2⟩
    | some p => exact ⟨_, _, _, _, .inl ⟨rfl, rfl⟩, fun W => take_ok hk W hs2, fun W => numFrom_ok hk W hs2⟩
  have hH : ∃ (d m : Bytes) (fe : Int) (is : Bool), ((fe = 0 ∧ is = true) ∨ (fe = 1 ∧ is = false)) ∧
      (∀ W, Calls Try.prog 19 #[S s] W fun e' w' => e' = .returned (.tuple #[S d, S m, I fe]) ∧ Below W.heap.size W w') ∧
      (∀ W, Calls Try.prog 20 #[S s] W fun e' w' => e' = .returned (.tuple #[S d, S m, .bool is]) ∧ Below W.heap.size W w') := by
    cases hk : takeText s with
    | none => exact ⟨_, _, _, _, .inr ⟨rfl, rfl⟩, fun W => takeText_any_no hk W hs2, fun W => textFrom_any_no hk W hs2⟩
    | some p => exact ⟨_, _, _, _, .inl ⟨rfl, rfl⟩, fun W => takeText_any_ok hk W hs2, fun W => textFrom_any_ok hk W hs2⟩
  obtain ⟨b, e, cPut, hN⟩ := hN
  obtain ⟨c, g, cText, hT⟩ := hT
  obtain ⟨k, r, fe, is, hf, cTake, cFrom⟩ := hF
  obtain ⟨d, m, he, has, hh, cTT, cTF⟩ := hH
  exact numsTells_walk n s t w htl b e cPut hN c g cText hT k r fe is hf cTake cFrom d m he has hh cTT cTF

end Go.Proofs.Ytgfkkjcnnecefaa
