/- The walks of Sum and SumOf. -/
import Derived.Test.YtgfkkjcnnecefaaNumsText
namespace Go.Proofs.Ytgfkkjcnnecefaa
open Go.RowKit Pl
attribute [local go_sem] ext_list app_list

theorem sumF_snoc : ∀ (xs : Bytes) (i : Nat) (c : UInt8), sumF i (xs ++ [c]) = sumF i xs + (i + xs.length + 1) * c.toNat
  | [], i, c => by simp [sumF]
  | x :: xs, i, c => by
    rw [List.cons_append, sumF, sumF, sumF_snoc xs (i + 1) c, List.length_cons]
    have : i + 1 + xs.length + 1 = i + (xs.length + 1) + 1 := by omega
    rw [this]; omega

theorem sum_step {l : Bytes} {k : Nat} {c : UInt8} {s : Nat} (hk : k < l.length) (hc : (⟨l.toArray⟩ : ByteArray)[k]'hk = c) (hs : s = sumOf (l.take k)) :
    sumOf (l.take (k + 1)) = (s + (k + 1) * c.toNat) % 65536 := by
  have h : l.take (k + 1) = l.take k ++ [c] := by
    rw [List.take_succ_eq_append_getElem hk]; congr 2
  have hl : (l.take k).length = k := by simp; omega
  rw [h, hs]
  unfold sumOf
  rw [sumF_snoc, hl, Nat.zero_add, Nat.mod_add_mod]
theorem sum_u16 (s k c : Nat) : IntKind.u16.wrap ((s : Int) + IntKind.u16.wrap (IntKind.u16.wrap ((k : Int) + 1) * (c : Int))) = (((s + (k + 1) * c) % 65536 : Nat) : Int) := by
  simp only [IntKind.wrap_u16]
  have e : ((((s + (k + 1) * c) % 65536 : Nat)) : Int) = ((s : Int) + ((k : Int) + 1) * (c : Int)) % 65536 := by
    rw [Int.natCast_emod, Int.natCast_add, Int.natCast_mul, Int.natCast_add]; rfl
  rw [e, Int.add_emod_emod]
  rw [Int.add_emod, Int.mul_emod, Int.emod_emod, ← Int.mul_emod, ← Int.add_emod]
theorem sum_i64 (s k c : Nat) (hs : s < 65536) (hc : c < 256) : (wrap64 ((s : Int) + wrap64 (((k : Int) % 65536 + 1) * (c : Int)))).tmod 65536 = (((s + (k + 1) * c) % 65536 : Nat) : Int) := by
  have h1 : ((k : Int) % 65536 + 1) * (c : Int) = (((k % 65536 + 1) * c : Nat) : Int) := by
    rw [Int.natCast_mul, Int.natCast_add, Int.natCast_emod]; rfl
  have h2 : (k % 65536 + 1) * c ≤ 65536 * 255 := Nat.mul_le_mul (by omega) (by omega)
  have w1 : wrap64 (((k % 65536 + 1) * c : Nat) : Int) = (((k % 65536 + 1) * c : Nat) : Int) := IntWalk.wrap64_in _ ⟨by omega, by omega⟩
  have w2 : wrap64 ((s + (k % 65536 + 1) * c : Nat) : Int) = ((s + (k % 65536 + 1) * c : Nat) : Int) := IntWalk.wrap64_in _ ⟨by omega, by omega⟩
  rw [h1, w1, ← Int.natCast_add, w2, Int.tmod_eq_emod_of_nonneg (by omega)]
  have h3 : (s + (k % 65536 + 1) * c) % 65536 = (s + (k + 1) * c) % 65536 := by
    rw [Nat.add_mod, Nat.mul_mod, Nat.add_mod (k % 65536), Nat.mod_mod, ← Nat.add_mod k, ← Nat.mul_mod, ← Nat.add_mod]
  rw [← h3, Int.natCast_emod]; rfl

set_option maxHeartbeats 400000 in
set_option maxRecDepth 100000 in
theorem sum_any (l : Bytes) (w : World) (hs : l.length ≤ 9223372036854775807) :
    Calls Try.prog 22 #[S l] w fun e w' => e = .returned (I (sumOf l)) ∧ w = w' := by
  go_enter Try.func22, Try.ntmps22
  go_wp2_with fail
  go_loop [3, 7, 4] (fun n i _ => ∃ (k : Nat), k ≤ l.length ∧ i = .int .i64 k ∧ n = .int .u16 (sumOf (l.take k) : Nat))
    (fun _ i _ => l.length - (intOf i).toNat)
  case atStart => exact ⟨0, by omega, rfl, rfl⟩
  case round =>
    obtain ⟨k, hk, rfl, rfl⟩ := hrel
    obtain ⟨s, hs1⟩ : ∃ s, s = sumOf (l.take k) := ⟨_, rfl⟩
    have hsb : s < 65536 := by rw [hs1]; exact Nat.mod_lt _ (by omega)
    rw [← hs1]
    have HS := hide hs1
    clear hs1
    by_cases hl : k < l.length
    · obtain ⟨c, hc⟩ : ∃ c, (⟨l.toArray⟩ : ByteArray)[k]'hl = c := ⟨_, rfl⟩
      have hcb := c.toNat_lt
      go_wp2_with fail
      go_round
      case rel => exact ⟨k + 1, by omega, by go_num, by rw [sum_step hl hc (unhide HS), sum_u16]⟩
      case measure => simp [intOf]; omega
    · go_wp2_with fail
      go_ret
      have hk2 : k = l.length := by omega
      have h3 := unhide HS
      rw [hk2, List.take_length] at h3
      exact ⟨by rw [← h3]; rfl, rfl⟩

set_option maxHeartbeats 400000 in
set_option maxRecDepth 100000 in
theorem sumOf_any (l : Bytes) (w : World) (hs : l.length ≤ 9223372036854775807) :
    Calls Try.prog 23 #[S l] w fun e w' => e = .returned (I (sumOf l)) ∧ w = w' := by
  go_enter Try.func23, Try.ntmps23
  go_wp2_with fail
  go_loop [3, 4] (fun n i => ∃ (k : Nat), k ≤ l.length ∧ i = .int .i64 k ∧ n = .int .i64 (sumOf (l.take k) : Nat))
    (fun _ i => l.length - (intOf i).toNat)
  case atStart => exact ⟨0, by omega, rfl, rfl⟩
  case round =>
    obtain ⟨k, hk, rfl, rfl⟩ := hrel
    obtain ⟨s, hs1⟩ : ∃ s, s = sumOf (l.take k) := ⟨_, rfl⟩
    have hsb : s < 65536 := by rw [hs1]; exact Nat.mod_lt _ (by omega)
    rw [← hs1]
    have HS := hide hs1
    clear hs1
    by_cases hl : k < l.length
    · obtain ⟨c, hc⟩ : ∃ c, (⟨l.toArray⟩ : ByteArray)[k]'hl = c := ⟨_, rfl⟩
      have hcb := c.toNat_lt
      go_wp2_with fail
      go_round
      case rel => exact ⟨k + 1, by omega, by go_num, by rw [sum_step hl hc (unhide HS), sum_i64 s k _ hsb hcb]⟩
      case measure => simp [intOf]; omega
    · go_wp2_with fail
      go_ret
      have hk2 : k = l.length := by omega
      have h3 := unhide HS
      rw [hk2, List.take_length] at h3
      exact ⟨by rw [← h3]; rfl, rfl⟩

end Go.Proofs.Ytgfkkjcnnecefaa
