/- numsBegun: what must be in any case. -/
import Derived.Test.YtgfkkjcnnecefaaNumsSum
namespace Go.Proofs.Ytgfkkjcnnecefaa
open Go.RowKit Pl
attribute [local go_sem] ext_list app_list

set_option maxHeartbeats 1000000 in
set_option maxRecDepth 100000 in
theorem numsBegun_any (w : World) : Calls Try.prog 21 #[] w fun e w' => e = .returned (.bool true) ∧ Below w.heap.size w w' := by
  have c1 := hide (fun W => put_ok 300 W (by omega))
  rw [show nb 300 = [172, 2] from by decide] at c1
  have c2 := hide (fun W => take_ok (l := [172, 2, 120]) (n := 300) (r := [120]) (by decide) W (by decide))
  have c3 := hide (fun W => text_ok [97, 98] W (by decide))
  rw [show textB [97, 98] = [2, 97, 98] from by decide] at c3
  have c4 := hide (fun W => takeText_any_ok (l := [1, 121, 122]) (t := [121]) (r := [122]) (by decide) W (by decide))
  have c5 := hide (fun W => still (sum_any [97, 98] W (by decide)))
  rw [show sumOf [97, 98] = 293 from by decide] at c5
  have hb0 := Below.refl w.heap.size w
  go_enter Try.func21, Try.ntmps21
  go_wp2_with (first | (go_at_call 13; refine (acc (unhide c1 _) (by first | assumption | exact Below.drew (by assumption) | exact below_drewN (by assumption) _)).mono ?_; rintro e w1 ⟨rfl, hb1⟩) | (go_at_call 15; refine (acc (unhide c2 _) (by first | assumption | exact Below.drew (by assumption) | exact below_drewN (by assumption) _)).mono ?_; rintro e w1 ⟨rfl, hb1⟩) | (go_at_call 17; refine (acc (unhide c3 _) (by first | assumption | exact Below.drew (by assumption) | exact below_drewN (by assumption) _)).mono ?_; rintro e w1 ⟨rfl, hb1⟩) | (go_at_call 19; refine (acc (unhide c4 _) (by first | assumption | exact Below.drew (by assumption) | exact below_drewN (by assumption) _)).mono ?_; rintro e w1 ⟨rfl, hb1⟩) | (go_at_call 22; refine (acc (unhide c5 _) (by first | assumption | exact Below.drew (by assumption) | exact below_drewN (by assumption) _)).mono ?_; rintro e w1 ⟨rfl, hb1⟩))
  go_ret
  exact ⟨rfl, by assumption⟩

end Go.Proofs.Ytgfkkjcnnecefaa
