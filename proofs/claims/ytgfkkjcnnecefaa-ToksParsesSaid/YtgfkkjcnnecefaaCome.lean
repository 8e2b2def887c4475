/- The walk of the reference's come. -/
import Derived.Test.YtgfkkjcnnecefaaToksAt
namespace Go.Proofs.Ytgfkkjcnnecefaa
open Go.RowKit Go.Lib Pl
attribute [local go_sem] ext_list app_list

set_option maxHeartbeats 1000000 in
set_option maxRecDepth 100000 in
theorem come_any (l : Bytes) (p far : Nat) (w : World) (hl : l.length ≤ 4611686018427387904) (hp : p ≤ l.length) (hf : far ≤ p) :
    Calls Try.prog 57 #[S l, I p, I far] w fun e w' => e = .returned (I (come l p far)) ∧ Below w.heap.size w w' := by
  go_enter Try.func57, Try.ntmps57
  go_wp2_with fail
  go_loopw [7] (fun i wr => ∃ k : Nat, k ≤ 64 ∧ i = .int .i64 k ∧ come l p far = comeF l p far (64 - k) k ∧ Below w.heap.size w wr) (fun i _ => 64 - (intOf i).toNat)
  case atStart => exact ⟨0, by omega, rfl, rfl, Below.refl _ _⟩
  case round =>
    obtain ⟨k, hk, rfl, hc, hbel⟩ := hrel
    by_cases hk64 : k < 64
    · have d1 : decide ((k : Int) < 64) = true := by simp; omega
      have hpk : IntKind.i64.wrap ((p : Int) + (k : Int)) = (p : Int) + (k : Int) := IntWalk.i64_in _ ⟨by omega, by omega⟩
      by_cases hpl : p + k < l.length
      · have d2 : decide ((p : Int) + (k : Int) < (l.length : Int)) = true := by simp; omega
        have hsub : IntKind.i64.wrap ((p : Int) + (k : Int) - (far : Int)) = (p : Int) + (k : Int) - (far : Int) := IntWalk.i64_in _ ⟨by omega, by omega⟩
        have n1 : (0 : Int) ≤ (p : Int) + (k : Int) := by omega
        have n2 : ((p : Int) + (k : Int)).toNat = p + k := by omega
        have n3 : (p : Int) + (k : Int) < (l.length : Int) := by omega
        obtain ⟨q, hq⟩ : ∃ q, q = p + k - far := ⟨_, rfl⟩
        have hql : q < l.length := by omega
        have m1 : (0 : Int) ≤ (p : Int) + (k : Int) - (far : Int) := by omega
        have m2 : ((p : Int) + (k : Int) - (far : Int)).toNat = q := by omega
        have m3 : (p : Int) + (k : Int) - (far : Int) < (l.length : Int) := by omega
        obtain ⟨a, ha⟩ : ∃ a, (⟨l.toArray⟩ : ByteArray)[p + k]'hpl = a := ⟨_, rfl⟩
        obtain ⟨b, hb⟩ : ∃ b, (⟨l.toArray⟩ : ByteArray)[q]'hql = b := ⟨_, rfl⟩
        have hga : l.getD (p + k) 0 = a := by rw [List.getD_eq_getElem?_getD, List.getElem?_eq_getElem hpl]; exact ha
        have hgb : l.getD (p + k - far) 0 = b := by rw [← hq, List.getD_eq_getElem?_getD, List.getElem?_eq_getElem hql]; exact hb
        have h64 : 64 - k = (63 - k) + 1 := by omega
        rw [h64, comeF, hga, hgb] at hc
        have HC := hide hc
        have HQ := hide hq
        clear hc hq hga hgb h64
        by_cases hab : a = b
        · subst hab
          have e1 : ((a.toNat : Int) == (a.toNat : Int)) = true := by simp
          go_wp2_with fail
          go_quiet (fail)
          go_wp2_with fail
          go_roundw
          case rel =>
            refine ⟨k + 1, by omega, by go_num, ?_, below_drewN hbel _⟩
            rw [unhide HC, if_pos ⟨hpl, by first | trivial | rfl⟩, show 64 - (k + 1) = 63 - k from by omega]
          case measure => simp [intOf]; omega
        · have e1 : ((a.toNat : Int) == (b.toNat : Int)) = false := by
            rw [beq_eq_false_iff_ne]; intro h
            exact hab (UInt8.toNat_inj.1 (by omega))
          have hfin : come l p far = k := by rw [unhide HC, if_neg (fun h => hab h.2)]
          have HF := hide hfin
          clear hfin hab
          go_wp2_with fail
          go_quiet (fail)
          go_wp2_with fail
          go_ret
          rw [unhide HF]
          exact ⟨rfl, below_drewN hbel _⟩
      · have d2 : decide ((p : Int) + (k : Int) < (l.length : Int)) = false := by simp; omega
        have hfin : come l p far = k := by rw [hc, show 64 - k = (63 - k) + 1 from by omega, comeF, if_neg (fun h => hpl h.1)]
        have HF := hide hfin
        clear hfin hc
        go_wp2_with fail
        go_quiet (fail)
        go_wp2_with fail
        go_ret
        rw [unhide HF]
        exact ⟨rfl, below_drewN hbel _⟩
    · have d1 : decide ((k : Int) < 64) = false := by simp; omega
      have hfin : come l p far = k := by rw [hc, show 64 - k = 0 from by omega, comeF]
      have HF := hide hfin
      clear hfin hc
      go_wp2_with fail
      go_quiet (fail)
      go_wp2_with fail
      go_ret
      rw [unhide HF]
      exact ⟨rfl, below_drewN hbel _⟩

end Go.Proofs.Ytgfkkjcnnecefaa
