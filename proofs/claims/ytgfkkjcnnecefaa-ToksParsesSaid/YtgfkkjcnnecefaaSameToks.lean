/- The walk of the reference's SameToks. -/
import Derived.Test.YtgfkkjcnnecefaaToksAt
import Derived.Test.YtgfkkjcnnecefaaTokEq
namespace Go.Proofs.Ytgfkkjcnnecefaa
open Go.RowKit Go.Lib Pl
attribute [local go_sem] ext_list app_list

set_option maxHeartbeats 1000000 in
set_option maxRecDepth 100000 in
theorem sameToks_any (A A2 : Option Addr) (n cap n2 cap2 : Nat) (l l2 : List Tok) (w : World) (hl : ToksAt w w.heap.size A n l) (hl2 : ToksAt w w.heap.size A2 n2 l2) (hn : n ≤ 4611686018427387904) :
    Calls Try.prog 29 #[.slice A n cap, .slice A2 n2 cap2] w fun e w' => e = .returned (.bool (decide (l = l2))) ∧ Below w.heap.size w w' := by
  by_cases hlen : n = n2
  · subst hlen
    go_enter Try.func29, Try.ntmps29
    go_wp2_with fail
    go_loopw [5] (fun i wr => ∃ k : Nat, k ≤ n ∧ i = .int .i64 k ∧ l.take k = l2.take k ∧ Below w.heap.size w wr) (fun i _ => n - (intOf i).toNat)
    case atStart => exact ⟨0, by omega, rfl, rfl, Below.refl _ _⟩
    case round =>
      obtain ⟨k, hk, rfl, htk, hbel⟩ := hrel
      have HT := hide htk
      clear htk
      by_cases hkn : k < n
      · obtain ⟨b, off, t, rfl, hb, ht, q0, q1, q2⟩ := (hl.below hbel).at_ hkn
        obtain ⟨b', off', t', rfl, hb', ht', r0, r1, r2⟩ := (hl2.below hbel).at_ hkn
        have hk0 : (0 : Int) ≤ (k : Int) := by omega
        have hk1 : (k : Int) < (n : Int) := by omega
        have H1 := hide ht
        have H2 := hide ht'
        clear ht ht'
        obtain ⟨tl, tf, tn⟩ := t
        obtain ⟨ul, uf, un⟩ := t'
        have hg := tok_guard
        by_cases he : (⟨tl, tf, tn⟩ : Tok) = ⟨ul, uf, un⟩
        · have hq := fun W => run_neq_tok W tl ul tf uf tn un
          rw [decide_eq_true he] at hq
          have HE := hide he
          clear he
          go_wp2_with fail
          go_quiet (fail)
          go_wp2_with fail
          go_roundw
          case rel =>
            refine ⟨k + 1, by omega, by go_num, ?_, below_drewN hbel _⟩
            rw [List.take_add_one, List.take_add_one, unhide HT, unhide H1, unhide H2, unhide HE]
          case measure => simp [intOf]; omega
        · have hq := fun W => run_neq_tok W tl ul tf uf tn un
          rw [decide_eq_false he] at hq
          have hne : decide (l = l2) = false := by
            rw [decide_eq_false]; intro e; subst e
            have h1 := unhide H1
            rw [unhide H2] at h1
            injection h1 with h1
            exact he h1.symm
          have HN := hide hne
          clear he hne
          go_wp2_with fail
          go_quiet (fail)
          go_wp2_with fail
          go_ret
          rw [unhide HN]
          exact ⟨rfl, below_drewN hbel _⟩
      · have hkn2 : k = n := by omega
        have hy : decide (l = l2) = true := by
          rw [decide_eq_true]
          have h1 := unhide HT
          rw [hkn2, List.take_of_length_le (by have := hl.1; omega), List.take_of_length_le (by have := hl2.1; omega)] at h1
          exact h1
        have HY := hide hy
        clear hkn2 hy
        go_wp2_with fail
        go_ret
        rw [unhide HY]
        exact ⟨rfl, hbel⟩
  · have h1 : ((n : Int) == (n2 : Int)) = false := beq_eq_false_iff_ne.2 (by omega)
    have h2 : ((n : Int) != (n2 : Int)) = true := by rw [bne_iff_ne]; omega
    have hne : decide (l = l2) = false := by
      rw [decide_eq_false]; intro e; subst e; exact hlen (hl.1.symm.trans hl2.1)
    have HN := hide hne
    clear hne hlen
    go_enter Try.func29, Try.ntmps29
    go_wp2_with fail
    go_ret
    rw [unhide HN]
    exact ⟨rfl, Below.refl _ _⟩

end Go.Proofs.Ytgfkkjcnnecefaa
