/- The walks of Text, TakeText, Sum, and of their references. -/
import Derived.Test.YtgfkkjcnnecefaaNumsWalk
import Derived.Test.YtgfkkjcnnecefaaNumsTake
import Derived.Test.YtgfkkjcnnecefaaRefNumFrom
namespace Go.Proofs.Ytgfkkjcnnecefaa
open Go.RowKit Pl
attribute [local go_sem] ext_list app_list

theorem take_ok {l : Bytes} {n : Nat} {r : Bytes} (h : take l = some (n, r)) (w : World) (hs : l.length ≤ 9223372036854775807) :
    Calls Try.prog 15 #[S l] w fun e w' => e = .returned (.tuple #[I n, S r, I 0]) ∧ Below w.heap.size w w' :=
  (take_any l w hs).mono fun e w' ⟨he, k, hk⟩ => ⟨by rw [he]; unfold TakeV; rw [h], by rw [hk]; exact below_drewN (Below.refl _ _) _⟩
theorem take_no {l : Bytes} (h : take l = none) (w : World) (hs : l.length ≤ 9223372036854775807) :
    Calls Try.prog 15 #[S l] w fun e w' => e = .returned (.tuple #[I 0, S [], I 1]) ∧ Below w.heap.size w w' :=
  (take_any l w hs).mono fun e w' ⟨he, k, hk⟩ => ⟨by rw [he]; unfold TakeV; rw [h], by rw [hk]; exact below_drewN (Below.refl _ _) _⟩
theorem numFrom_ok {l : Bytes} {n : Nat} {r : Bytes} (h : take l = some (n, r)) (w : World) (hs : l.length ≤ 9223372036854775807) :
    Calls Try.prog 16 #[S l] w fun e w' => e = .returned (.tuple #[I n, S r, .bool true]) ∧ Below w.heap.size w w' :=
  (numFrom_any l w hs).mono fun e w' ⟨he, hk⟩ => ⟨by rw [he]; unfold FromV; rw [h], hk⟩
theorem numFrom_no {l : Bytes} (h : take l = none) (w : World) (hs : l.length ≤ 9223372036854775807) :
    Calls Try.prog 16 #[S l] w fun e w' => e = .returned (.tuple #[I 0, S [], .bool false]) ∧ Below w.heap.size w w' :=
  (numFrom_any l w hs).mono fun e w' ⟨he, hk⟩ => ⟨by rw [he]; unfold FromV; rw [h], hk⟩
theorem numBytes_any (n : Nat) (w : World) (h : n ≤ 9223372036854775807) :
    Calls Try.prog 14 #[I n] w fun e w' => e = .returned (S (nb n)) ∧ Below w.heap.size w w' :=
  (numBytes_k n (n : Int) w (by omega) (by omega) (by omega)).mono fun e w' ⟨he, hk⟩ => ⟨by rw [he, Int.toNat_natCast], hk⟩
theorem put_ok (n : Nat) (w : World) (h : n ≤ 2147483647) :
    Calls Try.prog 13 #[I n] w fun e w' => e = .returned (.tuple #[S (nb n), I 0]) ∧ Below w.heap.size w w' :=
  (put_good (n : Int) w (by omega) (by omega)).mono fun e w' ⟨he, hk⟩ => ⟨by rw [he, Int.toNat_natCast], hk⟩
theorem take_len {l : Bytes} {n : Nat} {r : Bytes} (h : take l = some (n, r)) : r.length ≤ l.length ∧ n ≤ 2147483647 := by
  obtain ⟨h1, h2⟩ := take_some h
  rw [h1, List.length_append]; unfold maxNum at h2; omega

set_option maxHeartbeats 400000 in
set_option maxRecDepth 100000 in
theorem text_many (t : Bytes) (w : World) (hs : t.length ≤ 9223372036854775807) (h : 512 < t.length) :
    Calls Try.prog 17 #[S t] w fun e w' => e = .returned (.tuple #[S [], I 2]) ∧ Below w.heap.size w w' := by
  go_enter Try.func17, Try.ntmps17
  go_wp2_with fail
  go_ret2
  exact ⟨rfl, Below.refl _ _⟩

set_option maxHeartbeats 400000 in
set_option maxRecDepth 100000 in
theorem text_ok (t : Bytes) (w : World) (h : t.length ≤ 512) :
    Calls Try.prog 17 #[S t] w fun e w' => e = .returned (.tuple #[S (textB t), I 0]) ∧ Below w.heap.size w w' := by
  have hl := nb_len 9 t.length (by omega)
  go_enter Try.func17, Try.ntmps17
  go_wp2_with fail
  refine (put_ok t.length _ (by omega)).mono ?_
  rintro e w1 ⟨rfl, hb⟩
  go_wp2_with fail
  go_ret2
  exact ⟨rfl, hb⟩

set_option maxHeartbeats 400000 in
set_option maxRecDepth 100000 in
theorem textBytes_any (t : Bytes) (w : World) (h : t.length ≤ 4611686018427387904) :
    Calls Try.prog 18 #[S t] w fun e w' => e = .returned (S (textB t)) ∧ Below w.heap.size w w' := by
  have hl := nb_len 9 t.length (by omega)
  go_enter Try.func18, Try.ntmps18
  go_wp2_with fail
  refine (numBytes_any t.length _ (by omega)).mono ?_
  rintro e w1 ⟨rfl, hb⟩
  go_wp2_with fail
  go_ret
  exact ⟨rfl, hb⟩

def TakeTextV (l : Bytes) : Value := match takeText l with
  | some (t, r) => .tuple #[S t, S r, I 0]
  | none => .tuple #[S [], S [], I 1]

set_option maxHeartbeats 1000000 in
set_option maxRecDepth 100000 in
theorem takeText_any (l : Bytes) (w : World) (hs : l.length ≤ 9223372036854775807) :
    Calls Try.prog 19 #[S l] w fun e w' => e = .returned (TakeTextV l) ∧ Below w.heap.size w w' := by
  cases ht : take l with
  | none =>
    have c1 := hide (fun W => take_no ht W hs)
    have hv : TakeTextV l = .tuple #[S [], S [], I 1] := by unfold TakeTextV; rw [takeText_none ht]
    have HV := hide hv
    clear ht hv
    go_enter Try.func19, Try.ntmps19
    go_wp2_with fail
    refine (unhide c1 _).mono ?_
    rintro e w1 ⟨rfl, hb⟩
    go_wp2_with fail
    go_ret3
    rw [unhide HV]
    exact ⟨rfl, hb⟩
  | some p =>
    obtain ⟨n, r⟩ := p
    have c1 := hide (fun W => take_ok ht W hs)
    obtain ⟨hr, hn⟩ := take_len ht
    by_cases hbad : 512 < n ∨ r.length < n
    · have hv : TakeTextV l = .tuple #[S [], S [], I 1] := by unfold TakeTextV; rw [takeText_bad ht hbad]
      have HV := hide hv
      clear ht hv
      have hbad2 : 512 < n ∨ (n ≤ 512 ∧ r.length < n) := by omega
      clear hbad
      rcases hbad2 with hbad | ⟨hb1, hb2⟩
      all_goals
        go_enter Try.func19, Try.ntmps19
        go_wp2_with fail
        refine (unhide c1 _).mono ?_
        rintro e w1 ⟨rfl, hb⟩
        go_wp2_with fail
        go_ret3
        rw [unhide HV]
        exact ⟨rfl, hb⟩
    · have hv : TakeTextV l = .tuple #[S (slice r 0 n), S (slice r n r.length), I 0] := by unfold TakeTextV; rw [takeText_good ht hbad]
      have HV := hide hv
      have h1 : n ≤ 512 := by omega
      have h2 : n ≤ r.length := by omega
      have h3 : (n : Int) ≤ (r.length : Int) := by omega
      have h4 : (0 : Int) ≤ (n : Int) := by omega
      clear ht hv hbad
      go_enter Try.func19, Try.ntmps19
      go_wp2_with fail
      refine (unhide c1 _).mono ?_
      rintro e w1 ⟨rfl, hb⟩
      go_wp2_with fail
      go_quiet (fail)
      go_wp2_with fail
      go_ret3
      rw [unhide HV]
      exact ⟨rfl, below_drewN hb _⟩

theorem takeText_any_ok {l t r : Bytes} (h : takeText l = some (t, r)) (w : World) (hs : l.length ≤ 9223372036854775807) :
    Calls Try.prog 19 #[S l] w fun e w' => e = .returned (.tuple #[S t, S r, I 0]) ∧ Below w.heap.size w w' :=
  (takeText_any l w hs).mono fun e w' ⟨he, hk⟩ => ⟨by rw [he]; unfold TakeTextV; rw [h], hk⟩
theorem takeText_any_no {l : Bytes} (h : takeText l = none) (w : World) (hs : l.length ≤ 9223372036854775807) :
    Calls Try.prog 19 #[S l] w fun e w' => e = .returned (.tuple #[S [], S [], I 1]) ∧ Below w.heap.size w w' :=
  (takeText_any l w hs).mono fun e w' ⟨he, hk⟩ => ⟨by rw [he]; unfold TakeTextV; rw [h], hk⟩

def TextFromV (l : Bytes) : Value := match takeText l with
  | some (t, r) => .tuple #[S t, S r, .bool true]
  | none => .tuple #[S [], S [], .bool false]

set_option maxHeartbeats 1000000 in
set_option maxRecDepth 100000 in
theorem textFrom_any (l : Bytes) (w : World) (hs : l.length ≤ 9223372036854775807) :
    Calls Try.prog 20 #[S l] w fun e w' => e = .returned (TextFromV l) ∧ Below w.heap.size w w' := by
  cases ht : take l with
  | none =>
    have c1 := hide (fun W => numFrom_no ht W hs)
    have hv : TextFromV l = .tuple #[S [], S [], .bool false] := by unfold TextFromV; rw [takeText_none ht]
    have HV := hide hv
    clear ht hv
    go_enter Try.func20, Try.ntmps20
    go_wp2_with fail
    refine (unhide c1 _).mono ?_
    rintro e w1 ⟨rfl, hb⟩
    go_wp2_with fail
    go_ret3
    rw [unhide HV]
    exact ⟨rfl, hb⟩
  | some p =>
    obtain ⟨n, r⟩ := p
    have c1 := hide (fun W => numFrom_ok ht W hs)
    obtain ⟨hr, hn⟩ := take_len ht
    by_cases hbad : 512 < n ∨ r.length < n
    · have hv : TextFromV l = .tuple #[S [], S [], .bool false] := by unfold TextFromV; rw [takeText_bad ht hbad]
      have HV := hide hv
      clear ht hv
      have hbad2 : 512 < n ∨ (n ≤ 512 ∧ r.length < n) := by omega
      clear hbad
      rcases hbad2 with hbad | ⟨hb1, hb2⟩
      all_goals
        go_enter Try.func20, Try.ntmps20
        go_wp2_with fail
        refine (unhide c1 _).mono ?_
        rintro e w1 ⟨rfl, hb⟩
        go_wp2_with fail
        go_ret3
        rw [unhide HV]
        exact ⟨rfl, hb⟩
    · have hv : TextFromV l = .tuple #[S (slice r 0 n), S (slice r n r.length), .bool true] := by unfold TextFromV; rw [takeText_good ht hbad]
      have HV := hide hv
      have h1 : n ≤ 512 := by omega
      have h2 : n ≤ r.length := by omega
      have h3 : (n : Int) ≤ (r.length : Int) := by omega
      have h4 : (0 : Int) ≤ (n : Int) := by omega
      clear ht hv hbad
      go_enter Try.func20, Try.ntmps20
      go_wp2_with fail
      refine (unhide c1 _).mono ?_
      rintro e w1 ⟨rfl, hb⟩
      go_wp2_with fail
      go_quiet (fail)
      go_wp2_with fail
      go_ret3
      rw [unhide HV]
      exact ⟨rfl, below_drewN hb _⟩

theorem textFrom_any_ok {l t r : Bytes} (h : takeText l = some (t, r)) (w : World) (hs : l.length ≤ 9223372036854775807) :
    Calls Try.prog 20 #[S l] w fun e w' => e = .returned (.tuple #[S t, S r, .bool true]) ∧ Below w.heap.size w w' :=
  (textFrom_any l w hs).mono fun e w' ⟨he, hk⟩ => ⟨by rw [he]; unfold TextFromV; rw [h], hk⟩
theorem textFrom_any_no {l : Bytes} (h : takeText l = none) (w : World) (hs : l.length ≤ 9223372036854775807) :
    Calls Try.prog 20 #[S l] w fun e w' => e = .returned (.tuple #[S [], S [], .bool false]) ∧ Below w.heap.size w w' :=
  (textFrom_any l w hs).mono fun e w' ⟨he, hk⟩ => ⟨by rw [he]; unfold TextFromV; rw [h], hk⟩

end Go.Proofs.Ytgfkkjcnnecefaa
