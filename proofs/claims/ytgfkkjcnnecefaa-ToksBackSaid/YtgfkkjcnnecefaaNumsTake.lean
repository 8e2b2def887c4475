/- The walk of nums.Take. -/
import Derived.Test.YtgfkkjcnnecefaaWords
import Derived.Test.YtgfkkjcnnecefaaPureNums
import Derived.RegionTactic
import Derived.Deep.QuietTactic
import Derived.BigQuiet
namespace Go.Proofs.Ytgfkkjcnnecefaa
open Go.RowKit Pl

attribute [local go_sem] ext_list

def TakeV (l : Bytes) : Value := match take l with
  | some (n, r) => .tuple #[I n, S r, I 0]
  | none => .tuple #[I 0, S [], I 1]

set_option maxHeartbeats 400000 in
set_option maxRecDepth 100000 in
theorem take_any (l : Bytes) (w : World) (hs : l.length ≤ 9223372036854775807) :
    Calls Try.prog 15 #[S l] w fun e w' => e = .returned (TakeV l) ∧ ∃ k, w' = w.drewN k := by
  go_enter Try.func15, Try.ntmps15
  go_wp2_with fail
  all_goals
    go_loop [5, 10, 6] (fun n i _ => ∃ (k acc : Nat), k ≤ l.length ∧ k ≤ 5 ∧ acc < 128 ^ k ∧ take l = takeF (5 - k) k acc (l.drop k) ∧ i = .int .i64 k ∧ n = .int .i64 acc)
      (fun _ i _ => 5 - (intOf i).toNat)
    case atStart => exact ⟨0, 0, by omega, by omega, by omega, rfl, rfl, rfl⟩
    case round =>
      obtain ⟨k, acc, hk, hk5, hacc, hx, rfl, rfl⟩ := hrel
      have HX := hide hx
      clear hx
      by_cases hlt : k < l.length ∧ k < 5
      · obtain ⟨hl, h5⟩ := hlt
        obtain ⟨c, hc⟩ : ∃ c, (⟨l.toArray⟩ : ByteArray)[k]'hl = c := ⟨_, rfl⟩
        have ha := and127 c
        have hcb := c.toNat_lt
        obtain ⟨acc2, hA⟩ : ∃ acc2, acc2 = acc + c.toNat % 128 * 128 ^ k := ⟨_, rfl⟩
        have hor : bits .or .i64 (acc : Int) (wrap64 ((c.toNat : Int) % 128 * 2 ^ (7 * k))) = (acc2 : Int) := by
          rw [hA]; exact or7 acc (c.toNat % 128) k hacc (by omega) h5
        have hdrop : l.drop k = c :: l.drop (k + 1) := by rw [← hc]; exact List.drop_eq_getElem_cons hl
        have hbd : acc2 < 128 ^ (k + 1) := by
          rw [hA, Nat.pow_succ]
          have : (c.toNat % 128) * 128 ^ k ≤ 127 * 128 ^ k := Nat.mul_le_mul_right _ (by omega)
          omega
        have hbd2 : acc2 < 34359738368 := Nat.lt_of_lt_of_le hbd (Nat.pow_le_pow_right (by omega) (by omega : k + 1 ≤ 5))
        have h5k : 5 - k = (4 - k) + 1 := by omega
        have h6 := unhide HX
        rw [hdrop, h5k, takeF, ← hA] at h6
        have HA := hide hA
        have HD := hide hdrop
        have HK := hide h5k
        have HX6 := hide h6
        clear hA hdrop h5k h6 HX
        by_cases hge : 128 ≤ c.toNat
        · go_wp2_with fail
          go_round
          case rel =>
            have h6 := unhide HX6
            rw [if_pos hge] at h6
            exact ⟨k + 1, acc2, by omega, by omega, hbd, by rw [h6, show 5 - (k + 1) = 4 - k from by omega], by go_num, rfl⟩
          case measure => simp [intOf]; omega
        · by_cases h0 : 0 < k ∧ c.toNat = 0
          · obtain ⟨h01, h02⟩ := h0
            go_wp2_with fail
            go_ret3
            have h6 := unhide HX6
            rw [if_neg hge, if_pos (.inl ⟨h01, h02⟩)] at h6
            unfold TakeV
            rw [h6]
            exact ⟨rfl, 0, rfl⟩
          · have hz : k < 1 ∨ (0 < k ∧ ((c.toNat : Int) == 0) = false) := by
              by_cases h1 : k < 1
              · exact .inl h1
              · exact .inr ⟨by omega, beq_eq_false_iff_ne.2 (by omega)⟩
            by_cases hm : 2147483647 < acc2
            · have h6 := unhide HX6
              rw [if_neg hge, if_pos (.inr (by unfold maxNum; exact hm))] at h6
              have H6 := hide h6
              clear h6 HX6
              rcases hz with hz | ⟨hz1, hz2⟩
              all_goals
                go_wp2_with fail
                go_ret3
                unfold TakeV
                rw [unhide H6]
                exact ⟨rfl, 0, rfl⟩
            · have h6 := unhide HX6
              rw [if_neg hge, if_neg (by unfold maxNum; omega)] at h6
              have H6 := hide h6
              clear h6 HX6
              rcases hz with hz | ⟨hz1, hz2⟩
              all_goals
                go_wp2_with fail
                go_quiet (fail)
                go_wp2
                go_ret3
                unfold TakeV
                rw [unhide H6, ← slice_end]
                exact ⟨rfl, _, rfl⟩
      · have h9 : ¬ (k < l.length ∧ k < 5) := hlt
        have h6 := unhide HX
        have h7 : take l = none := by
          rw [h6]
          by_cases h8 : k < l.length
          · rw [show 5 - k = 0 from by omega]; rfl
          · rw [List.drop_of_length_le (by omega)]
            cases 5 - k <;> rfl
        have H7 := hide h7
        clear h6 h7 HX
        go_wp2_with fail
        go_ret3
        unfold TakeV
        rw [unhide H7]
        exact ⟨rfl, 0, rfl⟩

end Go.Proofs.Ytgfkkjcnnecefaa
