/- The walks of train.many, train.Count, and the reference's TextsError and CountOf. -/
import Derived.Test.YtgfkkjcnnecefaaStrs
namespace Go.Proofs.Ytgfkkjcnnecefaa
open Go.RowKit Go.Lib Pl
attribute [local go_sem] ext_list app_list

def big (t : Bytes) : Bool := decide (512 < t.length)
def manyB (l : List Bytes) : Bool := decide (12 < l.length) || l.any big

theorem many1_any (t : Bytes) (w : World) (ht : t.length ≤ 9223372036854775807) : Calls Try.prog 81 #[S t] w fun e w' => e = .returned (.bool (big t)) ∧ w = w' := by
  by_cases h : 512 < t.length
  · have e1 : decide ((t.length : Int) > 512) = true := by simp; omega
    have hb : big t = true := by unfold big; simpa using h
    rw [hb]
    clear h hb
    go_enter Try.func81, Try.ntmps81
    go_wp2_with fail
    go_ret
    exact ⟨rfl, rfl⟩
  · have e1 : decide ((t.length : Int) > 512) = false := by simp; omega
    have hb : big t = false := by unfold big; simpa using h
    rw [hb]
    clear h hb
    go_enter Try.func81, Try.ntmps81
    go_wp2_with fail
    go_ret
    exact ⟨rfl, rfl⟩

def IdxRes (l : List Bytes) (e : Ending) : Prop := ∃ r : Int, e = .returned (.int .i64 r) ∧ ((0 ≤ r ∧ l.any big = true) ∨ (r = -1 ∧ l.any big = false))

theorem any_drop {l : List Bytes} {k : Nat} {t : Bytes} (h : l[k]? = some t) : (l.drop k).any big = (big t || (l.drop (k + 1)).any big) := by
  have hk : k < l.length := (List.getElem?_eq_some_iff.1 h).1
  rw [List.drop_eq_getElem_cons hk, List.any_cons]
  rw [List.getElem?_eq_getElem hk] at h
  injection h with h
  rw [h]

set_option maxHeartbeats 1000000 in
set_option maxRecDepth 100000 in
theorem indexFunc_any (A : Option Addr) (n cap : Nat) (l : List Bytes) (w : World) (hl : StrsAt w w.heap.size A n l) (hn : n ≤ 4611686018427387904) (hs : ∀ t ∈ l, t.length ≤ 9223372036854775807) :
    Calls Try.prog 98 #[.slice A n cap, .func (.func 81) #[] #[]] w fun e w' => IdxRes l e ∧ w = w' := by
  have HS := hide hs
  clear hs
  go_enter Try.func98, Try.ntmps98
  go_wp2_with fail
  go_loop [5, 8] (fun _ i => ∃ k : Nat, k ≤ n ∧ i = .int .i64 k ∧ l.any big = (l.drop k).any big) (fun _ i => n - (intOf i).toNat)
  case atStart => exact ⟨0, Nat.zero_le _, rfl, by simp⟩
  case round =>
    obtain ⟨k, hk, rfl, hs⟩ := hrel
    have HA := hide hs
    clear hs
    by_cases hkn : k < n
    · obtain ⟨b, off, t, rfl, hb, ht, q0⟩ := hl.at_ hkn
      have C1 := many1_any t w (unhide HS t (List.mem_of_getElem? ht))
      have hd := any_drop ht
      have HD := hide hd
      clear ht hd
      cases hbt : big t with
      | true =>
        rw [hbt] at C1
        have C1 := hide C1
        have HB := hide hbt
        clear hbt
        go_wp2_with fail
        refine (unhide C1).mono ?_
        rintro e w1 ⟨rfl, rfl⟩
        go_wp2_with fail
        go_ret
        exact ⟨⟨_, rfl, .inl ⟨by omega, by rw [unhide HA, unhide HD, unhide HB]; rfl⟩⟩, rfl⟩
      | false =>
        rw [hbt] at C1
        have C1 := hide C1
        have HB := hide hbt
        clear hbt
        go_wp2_with fail
        refine (unhide C1).mono ?_
        rintro e w1 ⟨rfl, rfl⟩
        go_wp2_with fail
        go_round
        case rel => exact ⟨k + 1, by omega, by go_num, by rw [unhide HA, unhide HD, unhide HB]; rfl⟩
        case measure => simp [intOf]; omega
    · have hz : l.any big = false := by rw [unhide HA, List.drop_of_length_le (by have := hl.1; omega)]; rfl
      have hk2 : decide ((k : Int) < (n : Int)) = false := by simp; omega
      have HZ := hide hz
      clear hz
      go_wp2_with fail
      go_ret
      exact ⟨⟨_, rfl, .inr ⟨rfl, unhide HZ⟩⟩, rfl⟩

set_option maxHeartbeats 1000000 in
set_option maxRecDepth 100000 in
theorem containsFunc_any (A : Option Addr) (n cap : Nat) (l : List Bytes) (w : World) (hl : StrsAt w w.heap.size A n l) (hn : n ≤ 4611686018427387904) (hs : ∀ t ∈ l, t.length ≤ 9223372036854775807) :
    Calls Try.prog 80 #[.slice A n cap, .func (.func 81) #[] #[]] w fun e w' => e = .returned (.bool (l.any big)) ∧ w = w' := by
  have C1 := hide (indexFunc_any A n cap l w hl hn hs)
  obtain ⟨x, hx⟩ : ∃ x, x = l.any big := ⟨_, rfl⟩
  rw [← hx]
  have HX := hide hx
  clear hx hs
  go_enter Try.func80, Try.ntmps80
  go_wp2_with fail
  refine (unhide C1).mono ?_
  rintro e w1 ⟨⟨r, rfl, hr⟩, rfl⟩
  rcases hr with ⟨h0, h1⟩ | ⟨rfl, h1⟩
  · have hx : x = true := by rw [unhide HX, h1]
    subst hx
    clear h1
    go_wp2_with fail
    go_ret
    exact ⟨rfl, rfl⟩
  · have hx : x = false := by rw [unhide HX, h1]
    subst hx
    clear h1
    go_wp2_with fail
    go_ret
    exact ⟨rfl, rfl⟩

set_option maxHeartbeats 1000000 in
set_option maxRecDepth 100000 in
theorem many_any (A : Option Addr) (n cap : Nat) (l : List Bytes) (w : World) (hl : StrsAt w w.heap.size A n l) (hn : n ≤ 4611686018427387904) (hs : ∀ t ∈ l, t.length ≤ 9223372036854775807) :
    Calls Try.prog 61 #[.slice A n cap] w fun e w' => e = .returned (.bool (manyB l)) ∧ w = w' := by
  by_cases h : 12 < n
  · have hb : manyB l = true := by unfold manyB; rw [hl.1]; simp [h]
    have e1 : decide ((n : Int) > 12) = true := by simp; omega
    rw [hb]
    clear hb h
    go_enter Try.func61, Try.ntmps61
    go_wp2_with fail
    go_ret
    exact ⟨rfl, rfl⟩
  · have hb : manyB l = l.any big := by unfold manyB; rw [hl.1]; simp [h]
    have e1 : decide ((n : Int) > 12) = false := by simp; omega
    rw [hb]
    have C1 := hide (containsFunc_any A n cap l w hl hn hs)
    clear hb h
    go_enter Try.func61, Try.ntmps61
    go_wp2_with fail
    refine (unhide C1).mono ?_
    rintro e w1 ⟨rfl, rfl⟩
    go_wp2_with fail
    go_ret
    exact ⟨rfl, rfl⟩

/-- E1: the error of the texts -/
def textsE (l : List Bytes) : Nat := if manyB l = true then 2 else 0
theorem manyB_no {l : List Bytes} (h : manyB l = false) : l.length ≤ 12 ∧ ∀ t ∈ l, t.length ≤ 512 := by
  simp only [manyB, Bool.or_eq_false_iff, decide_eq_false_iff_not, List.any_eq_false] at h
  refine ⟨by omega, fun t ht => ?_⟩
  have := h.2 t ht
  simp only [big, decide_eq_true_eq] at this
  omega

set_option maxHeartbeats 1000000 in
set_option maxRecDepth 100000 in
theorem textsError_any (A : Option Addr) (n cap : Nat) (l : List Bytes) (w : World) (hl : StrsAt w w.heap.size A n l) (hn : n ≤ 4611686018427387904) (hs : ∀ t ∈ l, t.length ≤ 9223372036854775807) :
    Calls Try.prog 37 #[.slice A n cap] w fun e w' => e = .returned (I (textsE l)) ∧ w = w' := by
  have HS := hide hs
  clear hs
  by_cases h : 12 < n
  · have hb : textsE l = 2 := by unfold textsE manyB; rw [hl.1]; simp [h]
    have e1 : decide ((n : Int) > 12) = true := by simp; omega
    rw [hb]
    clear hb h
    go_enter Try.func37, Try.ntmps37
    go_wp2_with fail
    go_ret
    exact ⟨rfl, rfl⟩
  · have hb : manyB l = l.any big := by unfold manyB; rw [hl.1]; simp [h]
    have e1 : decide ((n : Int) > 12) = false := by simp; omega
    have HB := hide hb
    clear hb h
    go_enter Try.func37, Try.ntmps37
    go_wp2_with fail
    go_loop [3] (fun i => ∃ k : Nat, k ≤ n ∧ i = .int .i64 k ∧ l.any big = (l.drop k).any big) (fun i => n - (intOf i).toNat)
    case atStart => exact ⟨0, Nat.zero_le _, rfl, by simp⟩
    case round =>
      obtain ⟨k, hk, rfl, hs⟩ := hrel
      have HA := hide hs
      clear hs
      by_cases hkn : k < n
      · obtain ⟨b, off, t, rfl, hb, ht, q0⟩ := hl.at_ hkn
        have htl := unhide HS t (List.mem_of_getElem? ht)
        have hd := any_drop ht
        have HD := hide hd
        clear ht hd
        by_cases hbt : 512 < t.length
        · have hb2 : big t = true := by unfold big; simpa using hbt
          have e2 : decide ((t.length : Int) > 512) = true := by simp; omega
          have HB2 := hide hb2
          clear hbt hb2
          go_wp2_with fail
          go_ret
          exact ⟨by unfold textsE; rw [unhide HB, unhide HA, unhide HD, unhide HB2]; rfl, rfl⟩
        · have hb2 : big t = false := by unfold big; simpa using hbt
          have e2 : decide ((t.length : Int) > 512) = false := by simp; omega
          have HB2 := hide hb2
          clear hbt hb2
          go_wp2_with fail
          go_round
          case rel => exact ⟨k + 1, by omega, by go_num, by rw [unhide HA, unhide HD, unhide HB2]; rfl⟩
          case measure => simp [intOf]; omega
      · have hz : l.any big = false := by rw [unhide HA, List.drop_of_length_le (by have := hl.1; omega)]; rfl
        have hk2 : decide ((k : Int) < (n : Int)) = false := by simp; omega
        have HZ := hide hz
        clear hz
        go_wp2_with fail
        go_ret
        exact ⟨by unfold textsE; rw [unhide HB, unhide HZ]; rfl, rfl⟩

theorem cnt_take {l : List Bytes} {k : Nat} {t p : Bytes} (h : l[k]? = some t) : cnt (l.take (k + 1)) p = cnt (l.take k) p + (if stands p t = true then 1 else 0) := by
  unfold cnt
  rw [List.take_add_one, h, List.filter_append, List.length_append]
  by_cases hs : stands p t = true
  · simp [hs]
  · simp [hs]

set_option maxHeartbeats 1000000 in
set_option maxRecDepth 100000 in
theorem countOf_any (A : Option Addr) (n cap : Nat) (l : List Bytes) (p : Bytes) (w : World) (hl : StrsAt w w.heap.size A n l) (hn : n ≤ 12) (hs : ∀ t ∈ l, t.length ≤ 512) (hp : p.length ≤ 1000) :
    Calls Try.prog 38 #[.slice A n cap, S p] w fun e w' => e = .returned (I (cnt l p)) ∧ w = w' := by
  have HS := hide hs
  clear hs
  go_enter Try.func38, Try.ntmps38
  go_wp2_with fail
  go_loop [5, 6] (fun c i => ∃ k : Nat, k ≤ n ∧ i = .int .i64 k ∧ c = I (cnt (l.take k) p)) (fun _ i => n - (intOf i).toNat)
  case atStart => exact ⟨0, Nat.zero_le _, rfl, rfl⟩
  case round =>
    obtain ⟨k, hk, rfl, rfl⟩ := hrel
    have hcl := cnt_le (l.take k) p
    rw [List.length_take] at hcl
    by_cases hkn : k < n
    · obtain ⟨b, off, t, rfl, hb, ht, q0⟩ := hl.at_ hkn
      have C1 := standsR_any p t w (by omega) (by have := unhide HS t (List.mem_of_getElem? ht); omega)
      have hc2 := cnt_take (p := p) ht
      obtain ⟨c, hc⟩ : ∃ c, c = cnt (l.take k) p := ⟨_, rfl⟩
      rw [← hc] at hc2 hcl ⊢
      have HC := hide hc2
      clear ht hc hc2
      cases hst : stands p t with
      | true =>
        rw [hst] at C1
        have C1 := hide C1
        have HT := hide hst
        clear hst
        go_wp2_with fail
        refine (unhide C1).mono ?_
        rintro e w1 ⟨rfl, rfl⟩
        go_wp2_with fail
        go_round
        case rel => exact ⟨k + 1, by omega, by go_num, by rw [unhide HC, if_pos (unhide HT)]; go_num⟩
        case measure => simp [intOf]; omega
      | false =>
        rw [hst] at C1
        have C1 := hide C1
        have HT := hide hst
        clear hst
        go_wp2_with fail
        refine (unhide C1).mono ?_
        rintro e w1 ⟨rfl, rfl⟩
        go_wp2_with fail
        go_round
        case rel => exact ⟨k + 1, by omega, by go_num, by rw [unhide HC, if_neg (by rw [unhide HT]; simp)]; rfl⟩
        case measure => simp [intOf]; omega
    · have hz : l.take k = l := List.take_of_length_le (by have := hl.1; omega)
      have hk2 : decide ((k : Int) < (n : Int)) = false := by simp; omega
      rw [hz]
      clear hz hcl
      go_wp2_with fail
      go_ret
      exact ⟨rfl, rfl⟩

/-- Count: the number, and the error -/
def countE (l : List Bytes) (p : Bytes) : Nat := if manyB l = true then 2 else if p.length = 4 then 0 else 3
def countN (l : List Bytes) (p : Bytes) : Nat := if manyB l = true then 0 else if p.length = 4 then cnt l p else 0

set_option maxHeartbeats 1000000 in
set_option maxRecDepth 100000 in
theorem count_any (A : Option Addr) (n cap : Nat) (l : List Bytes) (p : Bytes) (w : World) (hm : MaxLenIs w) (hl : StrsAt w w.heap.size A n l) (hn : n ≤ 4611686018427387904) (hs : ∀ t ∈ l, t.length ≤ 9223372036854775807) :
    Calls Try.prog 35 #[.slice A n cap, S p] w fun e w' => e = .returned (.tuple #[I (countN l p), I (countE l p)]) ∧ w = w' := by
  have C0 := many_any A n cap l w hl hn hs
  by_cases h : manyB l = true
  · have e1 : countE l p = 2 := by unfold countE; rw [if_pos h]
    have e2 : countN l p = 0 := by unfold countN; rw [if_pos h]
    rw [e1, e2]
    rw [h] at C0
    have C0 := hide C0
    clear e1 e2 h
    go_enter Try.func35, Try.ntmps35
    go_wp2_with fail
    refine (unhide C0).mono ?_
    rintro e w1 ⟨rfl, rfl⟩
    go_wp2_with fail
    go_ret2
    exact ⟨rfl, rfl⟩
  · have h : manyB l = false := by simpa using h
    obtain ⟨h12, hs2⟩ := manyB_no h
    have hn12 : n ≤ 12 := by have := hl.1; omega
    rw [h] at C0
    have C0 := hide C0
    have HS := hide hs2
    by_cases hp4 : p.length = 4
    · have e1 : countE l p = 0 := by unfold countE; rw [h, if_neg (by simp), if_pos hp4]
      have e2 : countN l p = cnt l p := by unfold countN; rw [h, if_neg (by simp), if_pos hp4]
      rw [e1, e2]
      have e3 : ((p.length : Int) == 4) = true := by rw [hp4]; rfl
      have e4 : ((p.length : Int) != 4) = false := by rw [hp4]; rfl
      clear e1 e2 h hs2 hp4 hs
      go_enter Try.func35, Try.ntmps35
      go_wp2_with fail
      refine (unhide C0).mono ?_
      rintro e w1 ⟨rfl, rfl⟩
      go_wp2_with fail
      go_loop [6, 8, 16] (fun c _ i => ∃ k : Nat, k ≤ n ∧ i = .int .i64 k ∧ c = I (cnt (l.take k) p)) (fun _ _ i => n - (intOf i).toNat)
      case atStart => exact ⟨0, Nat.zero_le _, rfl, rfl⟩
      case round =>
        obtain ⟨k, hk, rfl, rfl⟩ := hrel
        have hcl := cnt_le (l.take k) p
        rw [List.length_take] at hcl
        by_cases hkn : k < n
        · obtain ⟨b, off, t, rfl, hb, ht, q0⟩ := hl.at_ hkn
          have C1 := contains_any t p w hm (by have := unhide HS t (List.mem_of_getElem? ht); omega)
          have hc2 := cnt_take (p := p) ht
          obtain ⟨c, hc⟩ : ∃ c, c = cnt (l.take k) p := ⟨_, rfl⟩
          rw [← hc] at hc2 hcl ⊢
          have HC := hide hc2
          clear ht hc hc2
          cases hst : stands p t with
          | true =>
            rw [hst] at C1
            have C1 := hide C1
            have HT := hide hst
            clear hst
            go_wp2_with fail
            refine (unhide C1).mono ?_
            rintro e w1 ⟨rfl, rfl⟩
            go_wp2_with fail
            go_round
            case rel => exact ⟨k + 1, by omega, by go_num, by rw [unhide HC, if_pos (unhide HT)]; go_num⟩
            case measure => simp [intOf]; omega
          | false =>
            rw [hst] at C1
            have C1 := hide C1
            have HT := hide hst
            clear hst
            go_wp2_with fail
            refine (unhide C1).mono ?_
            rintro e w1 ⟨rfl, rfl⟩
            go_wp2_with fail
            go_round
            case rel => exact ⟨k + 1, by omega, by go_num, by rw [unhide HC, if_neg (by rw [unhide HT]; simp)]; rfl⟩
            case measure => simp [intOf]; omega
        · have hz : l.take k = l := List.take_of_length_le (by have := hl.1; omega)
          have hk2 : decide ((k : Int) < (n : Int)) = false := by simp; omega
          rw [hz]
          clear hz hcl
          go_wp2_with fail
          go_ret2
          exact ⟨rfl, rfl⟩
    · have e1 : countE l p = 3 := by unfold countE; rw [h, if_neg (by simp), if_neg hp4]
      have e2 : countN l p = 0 := by unfold countN; rw [h, if_neg (by simp), if_neg hp4]
      rw [e1, e2]
      have e3 : ((p.length : Int) == 4) = false := by rw [beq_eq_false_iff_ne]; omega
      have e4 : ((p.length : Int) != 4) = true := by rw [bne_iff_ne]; omega
      clear e1 e2 h hs2 hp4 hs
      go_enter Try.func35, Try.ntmps35
      go_wp2_with fail
      refine (unhide C0).mono ?_
      rintro e w1 ⟨rfl, rfl⟩
      go_wp2_with fail
      go_ret2
      exact ⟨rfl, rfl⟩

end Go.Proofs.Ytgfkkjcnnecefaa
