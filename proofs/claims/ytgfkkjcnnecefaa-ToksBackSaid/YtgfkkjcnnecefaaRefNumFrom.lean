/- The walk of the reference's NumFrom. -/
import Derived.Test.YtgfkkjcnnecefaaRefNums
import Derived.Deep.RegionHeld3
namespace Go.Proofs.Ytgfkkjcnnecefaa
open Go.RowKit Pl
attribute [local go_sem] ext_list app_list

def FromV (l : Bytes) : Value := match take l with
  | some (n, r) => .tuple #[I n, S r, .bool true]
  | none => .tuple #[I 0, S [], .bool false]

set_option maxHeartbeats 2000000 in
set_option maxRecDepth 100000 in
theorem numFrom_any (l : Bytes) (w : World) (hs : l.length ≤ 9223372036854775807) :
    Calls Try.prog 16 #[S l] w fun e w' => e = .returned (FromV l) ∧ Below w.heap.size w w' := by
  go_enter Try.func16, Try.ntmps16
  go_wp2_with fail
  go_loop [5, 6, 7] (fun n p i => ∃ (k acc : Nat), k ≤ l.length ∧ k ≤ 5 ∧ acc < 128 ^ k ∧ take l = takeF (5 - k) k acc (l.drop k) ∧ Canon l k acc ∧ i = .int .i64 k ∧ n = .int .i64 acc ∧ p = .int .i64 (128 ^ k : Nat))
    (fun _ _ i => 5 - (intOf i).toNat)
  case atStart => exact ⟨0, 0, by omega, by omega, by omega, rfl, canon_zero l, rfl, rfl, rfl⟩
  case round =>
    obtain ⟨k, acc, hk, hk5, hacc, hx, hcan, rfl, rfl, rfl⟩ := hrel
    have HX := hide hx
    have HC := hide hcan
    clear hx hcan
    obtain ⟨p, hp⟩ : ∃ p, p = 128 ^ k := ⟨_, rfl⟩
    have hpb : p ≤ 34359738368 := by rw [hp]; exact Nat.pow_le_pow_right (by omega) (by omega : k ≤ 5)
    rw [← hp]
    by_cases hlt : k < l.length ∧ k < 5
    · obtain ⟨hl, h5⟩ := hlt
      obtain ⟨c, hc⟩ : ∃ c, (⟨l.toArray⟩ : ByteArray)[k]'hl = c := ⟨_, rfl⟩
      have hcb := c.toNat_lt
      obtain ⟨r, hr⟩ : ∃ r, r = c.toNat % 128 := ⟨_, rfl⟩
      obtain ⟨acc2, hA⟩ : ∃ acc2, acc2 = acc + c.toNat % 128 * 128 ^ k := ⟨_, rfl⟩
      have hdrop : l.drop k = c :: l.drop (k + 1) := by rw [← hc]; exact List.drop_eq_getElem_cons hl
      have hbd : acc2 < 128 ^ (k + 1) := by
        rw [hA, Nat.pow_succ]
        have : (c.toNat % 128) * 128 ^ k ≤ 127 * 128 ^ k := Nat.mul_le_mul_right _ (by omega)
        omega
      have hbd2 : acc2 < 34359738368 := Nat.lt_of_lt_of_le hbd (Nat.pow_le_pow_right (by omega) (by omega : k + 1 ≤ 5))
      have h5k : 5 - k = (4 - k) + 1 := by omega
      have h6 := unhide HX
      rw [hdrop, h5k, takeF, ← hA] at h6
      have hacp : acc < p := by rw [hp]; exact hacc
      obtain ⟨t, htt⟩ : ∃ t, t = p * r := ⟨_, rfl⟩
      have hmul : (p : Int) * (r : Int) = (t : Int) := by rw [htt, Int.natCast_mul]
      have hadd : (acc : Int) + (t : Int) = (acc2 : Int) := by
        rw [hA, htt, ← hr, ← hp, Int.natCast_add, Nat.mul_comm]
      clear htt
      have hp1 : 128 ^ (k + 1) = p * 128 := by rw [hp, Nat.pow_succ]
      have hce := canon_end (unhide HC) hdrop
      have hcs := canon_step (unhide HC) hdrop
      rw [← hA] at hce hcs
      have hrr : (c.toNat : Int) % 128 = (r : Int) := by omega
      have hr1 : r < 128 := by omega
      have HA := hide hA
      have HD := hide hdrop
      have HK := hide h5k
      have HX6 := hide h6
      have HP := hide hp
      have HP1 := hide hp1
      have HR := hide hr
      have HCE := hide hce
      have HCS := hide hcs
      have hgt : acc ≤ acc2 := by omega
      clear hA hdrop h5k h6 HX hp hp1 hr hce hcs HC
      by_cases hge : 128 ≤ c.toNat
      · go_wp2_with fail
        go_round
        case rel =>
          have h6 := unhide HX6
          rw [if_pos hge] at h6
          exact ⟨k + 1, acc2, by omega, by omega, hbd, by rw [h6, show 5 - (k + 1) = 4 - k from by omega], unhide HCS hge, by go_num, by go_num, by rw [unhide HP1]; go_num⟩
        case measure => simp [intOf]; omega
      · have hge2 : c.toNat < 128 := by omega
        have hce := unhide HCE hge2 hacc
        have h6 := unhide HX6
        rw [if_neg hge] at h6
        clear HX6 HCE HCS
        by_cases hm : 2147483647 < acc2
        · rw [if_pos (.inr (by unfold maxNum; exact hm))] at h6
          have H6 := hide h6
          clear h6 hce
          have hd : decide ((2147483647 : Int) < (acc2 : Int)) = true := by simp; omega
          go_wp2_with fail
          go_quiet (fail)
          go_wp2_with fail
          go_ret3
          unfold FromV
          rw [unhide H6]
          exact ⟨rfl, below_drewN (Below.refl _ _) _⟩
        · have hd : decide ((2147483647 : Int) < (acc2 : Int)) = false := by simp; omega
          have c1 := fun (W : World) => numBytes_k acc2 (acc2 : Int) W (by omega) (by omega) (by omega)
          have C1 := hide c1
          have hk1 : IntKind.i64.wrap ((k : Int) + 1) = (k : Int) + 1 := IntWalk.i64_in _ ⟨by omega, by omega⟩
          have hk2 : (0 : Int) ≤ (k : Int) + 1 := by omega
          have hk3 : ((k : Int) + 1).toNat = k + 1 := by omega
          have hk4 : (k : Int) + 1 ≤ (l.length : Int) := by omega
          by_cases hz : 0 < k ∧ c.toNat = 0
          · rw [if_pos (.inl hz)] at h6
            have hq : (nb acc2 == slice l 0 (k + 1)) = false := by
              rw [slice_head, beq_eq_false_iff_ne]; intro h; exact (hce.1 h) hz
            have H6 := hide h6
            clear c1 h6 hce hz
            go_wp2_with fail
            go_region_held3 (fun _ => True) (first | exact trivial) ((first | (refine (unhide C1 _).mono ?_; rintro e w1 ⟨rfl, hb⟩)))
            clear hk1 hk2 hk3 hk4
            go_wp2_with fail
            go_ret3
            unfold FromV
            rw [unhide H6]
            exact ⟨rfl, (Below.refl _ _).drew.trans hb⟩
          · rw [if_neg (by unfold maxNum; omega)] at h6
            have hq : (nb acc2 == slice l 0 (k + 1)) = true := by
              rw [slice_head, beq_iff_eq]; exact hce.2 hz
            have H6 := hide h6
            clear c1 h6 hce hz
            go_wp2_with fail
            go_region_held3 (fun _ => True) (first | exact trivial) ((first | (refine (unhide C1 _).mono ?_; rintro e w1 ⟨rfl, hb⟩)))
            clear hk1 hk2 hk3 hk4
            go_wp2_with fail
            go_quiet (fail)
            go_wp2_with fail
            go_ret3
            unfold FromV
            rw [unhide H6, ← slice_end]
            exact ⟨rfl, below_drewN ((Below.refl _ _).drew.trans hb) _⟩
    · have h9 : ¬ (k < l.length ∧ k < 5) := hlt
      have h6 := unhide HX
      have h7 : take l = none := by
        rw [h6]
        by_cases h8 : k < l.length
        · rw [show 5 - k = 0 from by omega]; rfl
        · rw [List.drop_of_length_le (by omega)]
          cases 5 - k <;> rfl
      have H7 := hide h7
      clear h6 h7 HX
      by_cases h8 : k < l.length
      all_goals
        go_wp2_with fail
        go_ret3
        unfold FromV
        rw [unhide H7]
        exact ⟨rfl, Below.refl _ _⟩

end Go.Proofs.Ytgfkkjcnnecefaa
