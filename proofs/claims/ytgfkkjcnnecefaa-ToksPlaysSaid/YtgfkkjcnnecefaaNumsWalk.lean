/- The walks of chapter 1's functions. -/
import Derived.Test.YtgfkkjcnnecefaaWords
import Derived.Test.YtgfkkjcnnecefaaPureNums
namespace Go.Proofs.Ytgfkkjcnnecefaa
open Go.RowKit Pl

set_option maxHeartbeats 400000 in
theorem put_bad (n : Int) (w : World) (h : n < 0 ∨ 2147483647 < n) :
    Calls Try.prog 13 #[I n] w fun e w' => e = .returned (.tuple #[S [], I 3]) ∧ w = w' := by
  rcases h with h | h
  · go_enter Try.func13, Try.ntmps13
    go_wp2
    go_ret2
    exact ⟨rfl, rfl⟩
  · have h0 : ¬ n < 0 := by omega
    go_enter Try.func13, Try.ntmps13
    go_wp2
    go_ret2
    exact ⟨rfl, rfl⟩

set_option maxHeartbeats 400000 in
set_option maxRecDepth 100000 in
theorem put_good (n : Int) (w : World) (h0 : 0 ≤ n) (h1 : n ≤ 2147483647) :
    Calls Try.prog 13 #[I n] w fun e w' => e = .returned (.tuple #[S (nb n.toNat), I 0]) ∧ Below w.heap.size w w' := by
  obtain ⟨m, rfl⟩ := Int.eq_ofNat_of_zero_le h0
  obtain ⟨i0, hi, hz0, hz1, hz2⟩ := info_parts info_u8
  go_enter Try.func13, Try.ntmps13
  go_wp2_with fail
  go_loopw [0, 4] (fun i v wr => ∃ (k : Nat) (xs : Bytes), k ≤ m ∧ xs ++ nb k = nb m ∧ i = .int .i64 k ∧ wr.ownsRow w.heap.size 5 1 v xs.length (xs.map B) ∧ Below w.heap.size w wr)
    (fun i _ _ => (intOf i).toNat)
  case atStart => exact ⟨m, [], by omega, rfl, rfl, World.ownsRow_nil _ _ _ _, Below.refl _ _⟩
  case round =>
    obtain ⟨k, xs, hk, hx, rfl, hown, hnx⟩ := hrel
    have HX := hide hx
    clear hx
    have hl : xs.length ≤ 10 := by
      have h2 := nb_len 4 m (by omega)
      rw [← unhide HX, List.length_append] at h2; omega
    by_cases hlt : k < 128
    · have hsz := hnx.size
      go_wp2_with (at_builtin; refine wpList_push rfl _ _ _ rfl w.heap.size 5 i0 _ 1 Try.underlying73 hi hz0 hz1 hz2 rfl _ _ _ rfl hown _ _ rfl rfl ?_ ?_ hsz ?_; (unfold maxLen; omega); omega; intro v' w' hown' hb hg; have hst := run_str_own (P := Try.prog) (own_byte (UInt8.ofNat k) hown' (ofNat_toNat (by omega))) 73 9 Try.underlying73 Try.underlying5 Try.underlying9; clear hown')
      go_ret2
      rw [Int.toNat_natCast, ← unhide HX, nb_small hlt]
      exact ⟨rfl, hnx.trans hb⟩
    · have hsz := hnx.size
      go_wp2_with (at_builtin; refine wpList_push rfl _ _ _ rfl w.heap.size 5 i0 _ 1 Try.underlying73 hi hz0 hz1 hz2 rfl _ _ _ rfl hown _ _ rfl rfl ?_ ?_ hsz ?_; (unfold maxLen; omega); omega; intro v' w' hown' hb hg; have hown2 := own_byte (UInt8.ofNat (128 + k % 128)) hown' (by rw [or128 _ (by omega) (by omega), ofNat_toNat (by omega)]; omega); clear hown')
      clear hown hg
      go_roundw
      case rel =>
        refine ⟨k / 128, xs ++ [UInt8.ofNat (128 + k % 128)], by omega, ?_, by go_num, by simpa using hown2, hnx.trans hb⟩
        rw [← unhide HX, nb_big (by omega : 128 ≤ k)]; simp
      case measure => simp [intOf]; omega

end Go.Proofs.Ytgfkkjcnnecefaa
