/- The walks of the references of chapter 1. -/
import Derived.Test.YtgfkkjcnnecefaaWords
import Derived.RegionTactic
import Derived.Deep.RegionWith
import Derived.Deep.QuietTactic
import Derived.BigQuiet
namespace Go.Proofs.Ytgfkkjcnnecefaa
open Go.RowKit Pl
attribute [local go_sem] ext_list app_list

set_option maxHeartbeats 400000 in
set_option maxRecDepth 100000 in
theorem numBytes_small (n : Int) (w : World) (h0 : 0 ≤ n) (hn : n < 128) :
    Calls Try.prog 14 #[I n] w fun e w' => e = .returned (S (nb n.toNat)) ∧ Below w.heap.size w w' := by
  obtain ⟨m, rfl⟩ := Int.eq_ofNat_of_zero_le h0
  obtain ⟨b, hb, hx⟩ := byte_of m (by omega)
  have HB := hide hb
  clear hb
  have hcv := fun (W : World) => run_conv1_new (P := Try.prog) W b hx 5 73 9 5 Try.underlying73 Try.underlying5 Try.underlying9
  have HX := hide hx
  clear hx
  go_enter Try.func14, Try.ntmps14
  go_wp2_with fail
  go_ret
  refine ⟨?_, (Below.refl _ _).alloc (Nat.le_refl _) _⟩
  rw [Int.toNat_natCast, nb_small (by omega), ← unhide HB]
  rfl

set_option maxHeartbeats 400000 in
set_option maxRecDepth 100000 in
theorem numBytes_k (k : Nat) : ∀ (n : Int) (w : World), n.toNat ≤ k → 0 ≤ n → n ≤ 9223372036854775807 →
    Calls Try.prog 14 #[I n] w fun e w' => e = .returned (S (nb n.toNat)) ∧ Below w.heap.size w w' := by
  induction k with
  | zero => intro n w hk h0 h1; exact numBytes_small n w h0 (by omega)
  | succ k ih =>
    intro n w hk h0 h1
    obtain ⟨m, rfl⟩ := Int.eq_ofNat_of_zero_le h0
    by_cases hn : (m : Int) < 128
    · exact numBytes_small m w h0 hn
    · obtain ⟨r, hr⟩ : ∃ r, r = m % 128 := ⟨_, rfl⟩
      obtain ⟨q, hq⟩ : ∃ q, q = m / 128 := ⟨_, rfl⟩
      have ht : (m : Int).tmod 128 = (r : Int) := by rw [Int.tmod_eq_emod_of_nonneg h0]; omega
      have hw1 : IntKind.i64.wrap (128 + (r : Int)) = 128 + (r : Int) := IntWalk.i64_in _ ⟨by omega, by omega⟩
      have hw2 : IntKind.u8.wrap (128 + (r : Int)) = 128 + (r : Int) := by rw [IntKind.wrap_u8]; omega
      have hw3 : IntKind.i64.wrap ((m : Int) / 128) = (q : Int) := by
        have e : (m : Int) / 128 = (q : Int) := by omega
        rw [e]; exact IntWalk.i64_in _ ⟨by omega, by omega⟩
      obtain ⟨b, hbb, hx⟩ := byte_of (128 + r) (by omega)
      rw [Int.natCast_add] at hx
      have hx : (b.toNat : Int) = 128 + (r : Int) := hx
      have HX := hide hx
      have hcv := fun (W : World) => run_conv1_new (P := Try.prog) W b hx 5 73 9 5 Try.underlying73 Try.underlying5 Try.underlying9
      have hcw := fun (W : World) => run_conv1_drew (P := Try.prog) W b hx 5 73 9 5 Try.underlying73 Try.underlying5 Try.underlying9
      clear hx
      have c1 := fun (W : World) => ih (q : Int) W (by omega) (by omega) (by omega)
      have hr1 : r < 128 := by omega
      have hlen := nb_len 9 q (by omega)
      have HR := hide hr
      have HQ := hide hq
      have C1 := hide c1
      clear c1 ih hr hq
      have hnb : nb m = b :: nb q := by rw [hbb, unhide HR, unhide HQ]; exact nb_big (by omega)
      have HN := hide hnb
      clear hnb hbb
      go_enter Try.func14, Try.ntmps14
      go_wp2_with fail
      go_region_with (refine (unhide C1 _).mono ?_; rintro e w' ⟨rfl, hb⟩; try (have hcl := run_conv1_later_drew (P := Try.prog) b (unhide HX) hb 73 9 5 Try.underlying73 Try.underlying5 Try.underlying9))
      all_goals
        go_wp2
        go_ret
        refine ⟨?_, ?_⟩
        · rw [Int.toNat_natCast, unhide HN]
          rfl
        · first
            | exact (((Below.refl _ _).alloc (Nat.le_refl _) _).drew).trans (hb.mono (by simp))
            | exact ((Below.refl _ _).drew.trans hb).alloc hb.size _

end Go.Proofs.Ytgfkkjcnnecefaa
