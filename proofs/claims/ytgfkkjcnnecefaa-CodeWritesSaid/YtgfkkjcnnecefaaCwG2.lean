/- The walks of train.many, train.Count, and the reference's TextsError and CountOf. -/
import Derived.Test.YtgfkkjcnnecefaaCwG1
import Derived.Shelf.SlSortCmp.WholeK
import Derived.Test.YtgfkkjcnnecefaaShelfB
import Derived.Deep.RegionHeld3
import Derived.Shelf.SlSortCmp.NoneTotal

namespace Go.Proofs.Ytgfkkjcnnecefaa
open Go.RowKit Go.Lib Pl
attribute [local go_sem] ext_list app_list


theorem many1_any (t : Bytes) (w : World) (ht : t.length ≤ 9223372036854775807) : Calls Try.prog 81 #[S t] w fun e w' => e = .returned (.bool (big t)) ∧ w = w' := by
  by_cases h : 512 < t.length
  · have e1 : decide ((t.length : Int) > 512) = true := by simp; omega
    have hb : big t = true := by unfold big; simpa using h
    rw [hb]
    clear h hb
    go_enter Try.func81, Try.ntmps81
    go_wp2_with fail
    go_ret
    exact ⟨rfl, rfl⟩
  · have e1 : decide ((t.length : Int) > 512) = false := by simp; omega
    have hb : big t = false := by unfold big; simpa using h
    rw [hb]
    clear h hb
    go_enter Try.func81, Try.ntmps81
    go_wp2_with fail
    go_ret
    exact ⟨rfl, rfl⟩

def IdxRes (l : List Bytes) (e : Ending) : Prop := ∃ r : Int, e = .returned (.int .i64 r) ∧ ((0 ≤ r ∧ l.any big = true) ∨ (r = -1 ∧ l.any big = false))

theorem any_drop {l : List Bytes} {k : Nat} {t : Bytes} (h : l[k]? = some t) : (l.drop k).any big = (big t || (l.drop (k + 1)).any big) := by
  have hk : k < l.length := (List.getElem?_eq_some_iff.1 h).1
  rw [List.drop_eq_getElem_cons hk, List.any_cons]
  rw [List.getElem?_eq_getElem hk] at h
  injection h with h
  rw [h]

set_option maxHeartbeats 1000000 in
set_option maxRecDepth 100000 in
theorem indexFunc_any (A : Option Addr) (n cap : Nat) (l : List Bytes) (w : World) (hl : StrsAt w w.heap.size A n l) (hn : n ≤ 4611686018427387904) (hs : ∀ t ∈ l, t.length ≤ 9223372036854775807) :
    Calls Try.prog 98 #[.slice A n cap, .func (.func 81) #[] #[]] w fun e w' => IdxRes l e ∧ w = w' := by
  have HS := hide hs
  clear hs
  go_enter Try.func98, Try.ntmps98
  go_wp2_with fail
  go_loop [5, 8] (fun _ i => ∃ k : Nat, k ≤ n ∧ i = .int .i64 k ∧ l.any big = (l.drop k).any big) (fun _ i => n - (intOf i).toNat)
  case atStart => exact ⟨0, Nat.zero_le _, rfl, by simp⟩
  case round =>
    obtain ⟨k, hk, rfl, hs⟩ := hrel
    have HA := hide hs
    clear hs
    by_cases hkn : k < n
    · obtain ⟨b, off, t, rfl, hb, ht, q0⟩ := hl.at_ hkn
      have C1 := many1_any t w (unhide HS t (List.mem_of_getElem? ht))
      have hd := any_drop ht
      have HD := hide hd
      clear ht hd
      cases hbt : big t with
      | true =>
        rw [hbt] at C1
        have C1 := hide C1
        have HB := hide hbt
        clear hbt
        go_wp2_with fail
        refine (unhide C1).mono ?_
        rintro e w1 ⟨rfl, rfl⟩
        go_wp2_with fail
        go_ret
        exact ⟨⟨_, rfl, .inl ⟨by omega, by rw [unhide HA, unhide HD, unhide HB]; rfl⟩⟩, rfl⟩
      | false =>
        rw [hbt] at C1
        have C1 := hide C1
        have HB := hide hbt
        clear hbt
        go_wp2_with fail
        refine (unhide C1).mono ?_
        rintro e w1 ⟨rfl, rfl⟩
        go_wp2_with fail
        go_round
        case rel => exact ⟨k + 1, by omega, by go_num, by rw [unhide HA, unhide HD, unhide HB]; rfl⟩
        case measure => simp [intOf]; omega
    · have hz : l.any big = false := by rw [unhide HA, List.drop_of_length_le (by have := hl.1; omega)]; rfl
      have hk2 : decide ((k : Int) < (n : Int)) = false := by simp; omega
      have HZ := hide hz
      clear hz
      go_wp2_with fail
      go_ret
      exact ⟨⟨_, rfl, .inr ⟨rfl, unhide HZ⟩⟩, rfl⟩

set_option maxHeartbeats 1000000 in
set_option maxRecDepth 100000 in
theorem containsFunc_any (A : Option Addr) (n cap : Nat) (l : List Bytes) (w : World) (hl : StrsAt w w.heap.size A n l) (hn : n ≤ 4611686018427387904) (hs : ∀ t ∈ l, t.length ≤ 9223372036854775807) :
    Calls Try.prog 80 #[.slice A n cap, .func (.func 81) #[] #[]] w fun e w' => e = .returned (.bool (l.any big)) ∧ w = w' := by
  have C1 := hide (indexFunc_any A n cap l w hl hn hs)
  obtain ⟨x, hx⟩ : ∃ x, x = l.any big := ⟨_, rfl⟩
  rw [← hx]
  have HX := hide hx
  clear hx hs
  go_enter Try.func80, Try.ntmps80
  go_wp2_with fail
  refine (unhide C1).mono ?_
  rintro e w1 ⟨⟨r, rfl, hr⟩, rfl⟩
  rcases hr with ⟨h0, h1⟩ | ⟨rfl, h1⟩
  · have hx : x = true := by rw [unhide HX, h1]
    subst hx
    clear h1
    go_wp2_with fail
    go_ret
    exact ⟨rfl, rfl⟩
  · have hx : x = false := by rw [unhide HX, h1]
    subst hx
    clear h1
    go_wp2_with fail
    go_ret
    exact ⟨rfl, rfl⟩

set_option maxHeartbeats 1000000 in
set_option maxRecDepth 100000 in
theorem many_any (A : Option Addr) (n cap : Nat) (l : List Bytes) (w : World) (hl : StrsAt w w.heap.size A n l) (hn : n ≤ 4611686018427387904) (hs : ∀ t ∈ l, t.length ≤ 9223372036854775807) :
    Calls Try.prog 61 #[.slice A n cap] w fun e w' => e = .returned (.bool (manyB l)) ∧ w = w' := by
  by_cases h : 12 < n
  · have hb : manyB l = true := by unfold manyB; rw [hl.1]; simp [h]
    have e1 : decide ((n : Int) > 12) = true := by simp; omega
    rw [hb]
    clear hb h
    go_enter Try.func61, Try.ntmps61
    go_wp2_with fail
    go_ret
    exact ⟨rfl, rfl⟩
  · have hb : manyB l = l.any big := by unfold manyB; rw [hl.1]; simp [h]
    have e1 : decide ((n : Int) > 12) = false := by simp; omega
    rw [hb]
    have C1 := hide (containsFunc_any A n cap l w hl hn hs)
    clear hb h
    go_enter Try.func61, Try.ntmps61
    go_wp2_with fail
    refine (unhide C1).mono ?_
    rintro e w1 ⟨rfl, rfl⟩
    go_wp2_with fail
    go_ret
    exact ⟨rfl, rfl⟩

/-- E1: the error of the texts -/
def textsE (l : List Bytes) : Nat := if manyB l = true then 2 else 0

set_option maxHeartbeats 1000000 in
set_option maxRecDepth 100000 in
theorem textsError_any (A : Option Addr) (n cap : Nat) (l : List Bytes) (w : World) (hl : StrsAt w w.heap.size A n l) (hn : n ≤ 4611686018427387904) (hs : ∀ t ∈ l, t.length ≤ 9223372036854775807) :
    Calls Try.prog 37 #[.slice A n cap] w fun e w' => e = .returned (I (textsE l)) ∧ w = w' := by
  have HS := hide hs
  clear hs
  by_cases h : 12 < n
  · have hb : textsE l = 2 := by unfold textsE manyB; rw [hl.1]; simp [h]
    have e1 : decide ((n : Int) > 12) = true := by simp; omega
    rw [hb]
    clear hb h
    go_enter Try.func37, Try.ntmps37
    go_wp2_with fail
    go_ret
    exact ⟨rfl, rfl⟩
  · have hb : manyB l = l.any big := by unfold manyB; rw [hl.1]; simp [h]
    have e1 : decide ((n : Int) > 12) = false := by simp; omega
    have HB := hide hb
    clear hb h
    go_enter Try.func37, Try.ntmps37
    go_wp2_with fail
    go_loop [3] (fun i => ∃ k : Nat, k ≤ n ∧ i = .int .i64 k ∧ l.any big = (l.drop k).any big) (fun i => n - (intOf i).toNat)
    case atStart => exact ⟨0, Nat.zero_le _, rfl, by simp⟩
    case round =>
      obtain ⟨k, hk, rfl, hs⟩ := hrel
      have HA := hide hs
      clear hs
      by_cases hkn : k < n
      · obtain ⟨b, off, t, rfl, hb, ht, q0⟩ := hl.at_ hkn
        have htl := unhide HS t (List.mem_of_getElem? ht)
        have hd := any_drop ht
        have HD := hide hd
        clear ht hd
        by_cases hbt : 512 < t.length
        · have hb2 : big t = true := by unfold big; simpa using hbt
          have e2 : decide ((t.length : Int) > 512) = true := by simp; omega
          have HB2 := hide hb2
          clear hbt hb2
          go_wp2_with fail
          go_ret
          exact ⟨by unfold textsE; rw [unhide HB, unhide HA, unhide HD, unhide HB2]; rfl, rfl⟩
        · have hb2 : big t = false := by unfold big; simpa using hbt
          have e2 : decide ((t.length : Int) > 512) = false := by simp; omega
          have HB2 := hide hb2
          clear hbt hb2
          go_wp2_with fail
          go_round
          case rel => exact ⟨k + 1, by omega, by go_num, by rw [unhide HA, unhide HD, unhide HB2]; rfl⟩
          case measure => simp [intOf]; omega
      · have hz : l.any big = false := by rw [unhide HA, List.drop_of_length_le (by have := hl.1; omega)]; rfl
        have hk2 : decide ((k : Int) < (n : Int)) = false := by simp; omega
        have HZ := hide hz
        clear hz
        go_wp2_with fail
        go_ret
        exact ⟨by unfold textsE; rw [unhide HB, unhide HZ]; rfl, rfl⟩

theorem cnt_take {l : List Bytes} {k : Nat} {t p : Bytes} (h : l[k]? = some t) : cnt (l.take (k + 1)) p = cnt (l.take k) p + (if stands p t = true then 1 else 0) := by
  unfold cnt
  rw [List.take_add_one, h, List.filter_append, List.length_append]
  by_cases hs : stands p t = true
  · simp [hs]
  · simp [hs]

set_option maxHeartbeats 1000000 in
set_option maxRecDepth 100000 in
theorem countOf_any (A : Option Addr) (n cap : Nat) (l : List Bytes) (p : Bytes) (w : World) (hl : StrsAt w w.heap.size A n l) (hn : n ≤ 12) (hs : ∀ t ∈ l, t.length ≤ 512) (hp : p.length ≤ 1000) :
    Calls Try.prog 38 #[.slice A n cap, S p] w fun e w' => e = .returned (I (cnt l p)) ∧ w = w' := by
  have HS := hide hs
  clear hs
  go_enter Try.func38, Try.ntmps38
  go_wp2_with fail
  go_loop [5, 6] (fun c i => ∃ k : Nat, k ≤ n ∧ i = .int .i64 k ∧ c = I (cnt (l.take k) p)) (fun _ i => n - (intOf i).toNat)
  case atStart => exact ⟨0, Nat.zero_le _, rfl, rfl⟩
  case round =>
    obtain ⟨k, hk, rfl, rfl⟩ := hrel
    have hcl := cnt_le (l.take k) p
    rw [List.length_take] at hcl
    by_cases hkn : k < n
    · obtain ⟨b, off, t, rfl, hb, ht, q0⟩ := hl.at_ hkn
      have C1 := standsR_any p t w (by omega) (by have := unhide HS t (List.mem_of_getElem? ht); omega)
      have hc2 := cnt_take (p := p) ht
      obtain ⟨c, hc⟩ : ∃ c, c = cnt (l.take k) p := ⟨_, rfl⟩
      rw [← hc] at hc2 hcl ⊢
      have HC := hide hc2
      clear ht hc hc2
      cases hst : stands p t with
      | true =>
        rw [hst] at C1
        have C1 := hide C1
        have HT := hide hst
        clear hst
        go_wp2_with fail
        refine (unhide C1).mono ?_
        rintro e w1 ⟨rfl, rfl⟩
        go_wp2_with fail
        go_round
        case rel => exact ⟨k + 1, by omega, by go_num, by rw [unhide HC, if_pos (unhide HT)]; go_num⟩
        case measure => simp [intOf]; omega
      | false =>
        rw [hst] at C1
        have C1 := hide C1
        have HT := hide hst
        clear hst
        go_wp2_with fail
        refine (unhide C1).mono ?_
        rintro e w1 ⟨rfl, rfl⟩
        go_wp2_with fail
        go_round
        case rel => exact ⟨k + 1, by omega, by go_num, by rw [unhide HC, if_neg (by rw [unhide HT]; simp)]; rfl⟩
        case measure => simp [intOf]; omega
    · have hz : l.take k = l := List.take_of_length_le (by have := hl.1; omega)
      have hk2 : decide ((k : Int) < (n : Int)) = false := by simp; omega
      rw [hz]
      clear hz hcl
      go_wp2_with fail
      go_ret
      exact ⟨rfl, rfl⟩

/-- Count: the number, and the error -/
def countE (l : List Bytes) (p : Bytes) : Nat := if manyB l = true then 2 else if p.length = 4 then 0 else 3
def countN (l : List Bytes) (p : Bytes) : Nat := if manyB l = true then 0 else if p.length = 4 then cnt l p else 0

set_option maxHeartbeats 1000000 in
set_option maxRecDepth 100000 in
theorem count_any (A : Option Addr) (n cap : Nat) (l : List Bytes) (p : Bytes) (w : World) (hm : MaxLenIs w) (hl : StrsAt w w.heap.size A n l) (hn : n ≤ 4611686018427387904) (hs : ∀ t ∈ l, t.length ≤ 9223372036854775807) :
    Calls Try.prog 35 #[.slice A n cap, S p] w fun e w' => e = .returned (.tuple #[I (countN l p), I (countE l p)]) ∧ w = w' := by
  have C0 := many_any A n cap l w hl hn hs
  by_cases h : manyB l = true
  · have e1 : countE l p = 2 := by unfold countE; rw [if_pos h]
    have e2 : countN l p = 0 := by unfold countN; rw [if_pos h]
    rw [e1, e2]
    rw [h] at C0
    have C0 := hide C0
    clear e1 e2 h
    go_enter Try.func35, Try.ntmps35
    go_wp2_with fail
    refine (unhide C0).mono ?_
    rintro e w1 ⟨rfl, rfl⟩
    go_wp2_with fail
    go_ret2
    exact ⟨rfl, rfl⟩
  · have h : manyB l = false := by simpa using h
    obtain ⟨h12, hs2⟩ := manyB_no h
    have hn12 : n ≤ 12 := by have := hl.1; omega
    rw [h] at C0
    have C0 := hide C0
    have HS := hide hs2
    by_cases hp4 : p.length = 4
    · have e1 : countE l p = 0 := by unfold countE; rw [h, if_neg (by simp), if_pos hp4]
      have e2 : countN l p = cnt l p := by unfold countN; rw [h, if_neg (by simp), if_pos hp4]
      rw [e1, e2]
      have e3 : ((p.length : Int) == 4) = true := by rw [hp4]; rfl
      have e4 : ((p.length : Int) != 4) = false := by rw [hp4]; rfl
      clear e1 e2 h hs2 hp4 hs
      go_enter Try.func35, Try.ntmps35
      go_wp2_with fail
      refine (unhide C0).mono ?_
      rintro e w1 ⟨rfl, rfl⟩
      go_wp2_with fail
      go_loop [6, 8, 16] (fun c _ i => ∃ k : Nat, k ≤ n ∧ i = .int .i64 k ∧ c = I (cnt (l.take k) p)) (fun _ _ i => n - (intOf i).toNat)
      case atStart => exact ⟨0, Nat.zero_le _, rfl, rfl⟩
      case round =>
        obtain ⟨k, hk, rfl, rfl⟩ := hrel
        have hcl := cnt_le (l.take k) p
        rw [List.length_take] at hcl
        by_cases hkn : k < n
        · obtain ⟨b, off, t, rfl, hb, ht, q0⟩ := hl.at_ hkn
          have C1 := contains_any t p w hm (by have := unhide HS t (List.mem_of_getElem? ht); omega)
          have hc2 := cnt_take (p := p) ht
          obtain ⟨c, hc⟩ : ∃ c, c = cnt (l.take k) p := ⟨_, rfl⟩
          rw [← hc] at hc2 hcl ⊢
          have HC := hide hc2
          clear ht hc hc2
          cases hst : stands p t with
          | true =>
            rw [hst] at C1
            have C1 := hide C1
            have HT := hide hst
            clear hst
            go_wp2_with fail
            refine (unhide C1).mono ?_
            rintro e w1 ⟨rfl, rfl⟩
            go_wp2_with fail
            go_round
            case rel => exact ⟨k + 1, by omega, by go_num, by rw [unhide HC, if_pos (unhide HT)]; go_num⟩
            case measure => simp [intOf]; omega
          | false =>
            rw [hst] at C1
            have C1 := hide C1
            have HT := hide hst
            clear hst
            go_wp2_with fail
            refine (unhide C1).mono ?_
            rintro e w1 ⟨rfl, rfl⟩
            go_wp2_with fail
            go_round
            case rel => exact ⟨k + 1, by omega, by go_num, by rw [unhide HC, if_neg (by rw [unhide HT]; simp)]; rfl⟩
            case measure => simp [intOf]; omega
        · have hz : l.take k = l := List.take_of_length_le (by have := hl.1; omega)
          have hk2 : decide ((k : Int) < (n : Int)) = false := by simp; omega
          rw [hz]
          clear hz hcl
          go_wp2_with fail
          go_ret2
          exact ⟨rfl, rfl⟩
    · have e1 : countE l p = 3 := by unfold countE; rw [h, if_neg (by simp), if_neg hp4]
      have e2 : countN l p = 0 := by unfold countN; rw [h, if_neg (by simp), if_neg hp4]
      rw [e1, e2]
      have e3 : ((p.length : Int) == 4) = false := by rw [beq_eq_false_iff_ne]; omega
      have e4 : ((p.length : Int) != 4) = true := by rw [bne_iff_ne]; omega
      clear e1 e2 h hs2 hp4 hs
      go_enter Try.func35, Try.ntmps35
      go_wp2_with fail
      refine (unhide C0).mono ?_
      rintro e w1 ⟨rfl, rfl⟩
      go_wp2_with fail
      go_ret2
      exact ⟨rfl, rfl⟩

end Go.Proofs.Ytgfkkjcnnecefaa

/- The walk of train.pieces: counting. -/
namespace Go.Proofs.Ytgfkkjcnnecefaa
open Go.RowKit Go.Lib Pl
attribute [local go_sem] ext_list app_list

/-- in how many texts a piece stands: by the pieces themselves -/
def cntP (l : List Bytes) (p : Bytes) : Nat := (l.filter fun t => decide (p ∈ piecesOf t)).length
theorem cntP_eq {l : List Bytes} {p : Bytes} (hp : p.length = 4) : cntP l p = cnt l p := by
  unfold cntP cnt
  congr 2
  funext t
  rw [Bool.eq_iff_iff, decide_eq_true_eq]
  exact mem_piecesOf hp
theorem cntP_le (l : List Bytes) (p : Bytes) : cntP l p ≤ l.length := List.length_filter_le _ _
theorem cntP_take {l : List Bytes} {k : Nat} {t p : Bytes} (h : l[k]? = some t) : cntP (l.take (k + 1)) p = cntP (l.take k) p + (if p ∈ piecesOf t then 1 else 0) := by
  unfold cntP
  rw [List.take_add_one, h, List.filter_append, List.length_append]
  by_cases hs : p ∈ piecesOf t
  · simp [hs]
  · simp [hs]
/-- the counts, and the last texts, behind i texts and k pieces of the next -/
def fC (l : List Bytes) (i : Nat) (t : Bytes) (k : Nat) (p : Bytes) : Nat := cntP (l.take i) p + (if p ∈ (piecesOf t).take k then 1 else 0)

def Seen (i : Nat) (t : Bytes) (k : Nat) (g : Bytes → Nat) : Prop := ∀ p, g p ≤ i + 1 ∧ (g p = i + 1 ↔ p ∈ (piecesOf t).take k)
theorem mem_take_succ {t : Bytes} {k : Nat} (h : k < t.length - 3) (p : Bytes) : p ∈ (piecesOf t).take (k + 1) ↔ p ∈ (piecesOf t).take k ∨ p = piece t k := by
  rw [List.take_add_one, piecesOf_get h]
  simp

def pcCells (x : Bytes × Nat) : List Value := [S x.1, I x.2]
theorem pcCells_len (l : List (Bytes × Nat)) : (l.flatMap pcCells).length = l.length * 2 := by
  induction l with
  | nil => rfl
  | cons x l ih => simp [pcCells] at ih ⊢; omega
theorem pcCells_get : ∀ (l : List (Bytes × Nat)) (i : Nat) (x : Bytes × Nat), l[i]? = some x → (l.flatMap pcCells)[i * 2]? = some (S x.1) ∧ (l.flatMap pcCells)[i * 2 + 1]? = some (I x.2)
  | [], i, x, h => by simp at h
  | u :: l, 0, x, h => by simp at h; subst h; simp [pcCells]
  | u :: l, i + 1, x, h => by
    have h' : l[i]? = some x := by simpa using h
    obtain ⟨a, b⟩ := pcCells_get l i x h'
    have e : (u :: l).flatMap pcCells = pcCells u ++ l.flatMap pcCells := by simp
    have hl : (pcCells u).length = 2 := rfl
    rw [e]
    refine ⟨?_, ?_⟩
    · rw [List.getElem?_append_right (by omega), hl, show (i + 1) * 2 - 2 = i * 2 from by omega]; exact a
    · rw [List.getElem?_append_right (by omega), hl, show (i + 1) * 2 + 1 - 2 = i * 2 + 1 from by omega]; exact b
theorem info_piece : (Try.prog.info? 103).map (fun i => (i.zero, i.size, i.bytes)) = some (some (.agg #[.string ByteArray.empty, .int .i64 0]), 2, 24) := by kernel_rfl

theorem own_slice' {w : World} {base e size n : Nat} {v : Value} {xs : List Value} (h : w.ownsRow base e size v n xs) : ∃ A cap, v = .slice A n cap := by
  rcases h.2 with ⟨rfl, rfl⟩ | ⟨g, cap, cur, rfl, _⟩
  · exact ⟨_, _, rfl⟩
  · exact ⟨_, _, rfl⟩
theorem cells2_new (w : World) (x y : Value) (t : TypeId) : ∀ j u, [x, y][j]? = some u → (w.alloc (.cells #[x, y] t)).cell? ((⟨w.heap.size, 0, none⟩ : Addr).add j) = some u := by
  intro j u hj
  have e : (⟨w.heap.size, 0, none⟩ : Addr).add j = ⟨w.heap.size, j, none⟩ := by unfold Addr.add; split <;> simp_all
  rw [e, World.cell?_alloc_new]
  simpa using hj

/-- append(out, piece{..}) -/
theorem wpList_push_piece {w : World} {ops : Array Oper} {rest : List Oper} {o : Oper} {a : Act} {Q : Exit → Act → World → Prop} (hgd : o.guard = none) (s x : Operand)
    (ho : o.op = .call { callee := .builtin .append, args := #[s, x], argTypes := #[100, 100] })
    (base : Nat) (v : Value) (n : Nat) (l : List (Bytes × Nat)) (hs : a.eval s = v) (hown : w.ownsRow base 103 2 v n (l.flatMap pcCells)) (b : Bytes) (m : Nat)
    (H : Nat) (hH : w.heap.size = H) (hx : a.eval x = .slice (some ⟨H, 0, none⟩) 1 1)
    (hn : n ≤ 1000000) (hbase : base ≤ w.heap.size)
    (h : ∀ A' cap' w', w'.ownsRow base 103 2 (.slice A' (n + 1) cap') (n + 1) ((l ++ [(b, m)]).flatMap pcCells) → Below base w w' → (w.alloc (.cells #[S b, I m] 103)).grownBy w' v.ownBlock → wpList Try.prog ops Q rest (a.put o.dst (.slice A' (n + 1) cap')) w') :
    wpList Try.prog ops Q (o :: rest) a (w.alloc (.cells #[S b, I m] 103)) := by
  subst hH
  obtain ⟨i0, hi, hz0, hz1, hz2⟩ := info_parts info_piece
  refine wpList_append_own _ hgd s x _ ho base 103 i0 _ 2 24 Try.underlying100 hi hz0 hz1 hz2 rfl (by decide) v n (l.flatMap pcCells) hs (hown.alloc _) ⟨w.heap.size, 0, none⟩ 1 1 [S b, I m] hx rfl (cells2_new _ _ _ _) ?_ (by unfold maxLen; omega) (by omega) (by simp; omega) ?_
  · intro y hy
    simp at hy
    rcases hy with rfl | rfl <;> rfl
  · intro v' w' hown' hg _
    have hown2 : w'.ownsRow base 103 2 v' (n + 1) ((l ++ [(b, m)]).flatMap pcCells) := by
      rw [List.flatMap_append]; exact hown'
    obtain ⟨A', cap', rfl⟩ := own_slice' hown2
    refine h A' cap' w' hown2 ?_ hg
    exact ((Below.refl _ _).alloc hbase _).grown hg (by simp; omega) (fun k hk => (hown.lt k hk).1)

/-- what the library's sort does to a row of pieces -/
def SortSpec : Prop := ∀ (W : World) (base : Nat) (v : Value) (n : Nat) (o : List (Bytes × Nat)), W.ownsRow base 103 2 v n (o.flatMap pcCells) → n ≤ 1000000 →
  Calls Try.prog 83 #[v, .func (.func 84) #[] #[]] W fun e w' =>
    e = .returned (.tuple #[]) ∧ ∃ o' : List (Bytes × Nat), o'.Perm o ∧ o'.Pairwise (fun a b => better b a = false) ∧ w'.ownsRow base 103 2 v n (o'.flatMap pcCells) ∧ Below base W w'

/-- what has been collected -/
structure Col (l : List Bytes) (left : Lit → Bool) (o : List (Bytes × Nat)) : Prop where
  mem : ∀ x ∈ o, 1 < x.2 ∧ x.2 = cntP l x.1 ∧ left (.string x.1) = false
  nodup : (o.map (·.1)).Nodup
  all : ∀ p, 1 < cntP l p → left (.string p) = true ∨ (p, cntP l p) ∈ o

theorem str_same (a b : Bytes) : (Lit.string a).sameKey (.string b) = decide (a = b) := by
  by_cases h : a = b
  · subst h; simp [Lit.sameKey]
  · simp [Lit.sameKey, h]
theorem Col.skip {l : List Bytes} {left : Lit → Bool} {o : List (Bytes × Nat)} (h : Col l left o) (kb : Bytes) (hc : ¬ 1 < cntP l kb) : Col l (fun z => left z && !z.sameKey (.string kb)) o := by
  refine ⟨fun x hx => ?_, h.nodup, fun p hp => ?_⟩
  · obtain ⟨a, b, c⟩ := h.mem x hx
    exact ⟨a, b, by simp [c]⟩
  · rcases h.all p hp with h1 | h1
    · left
      have hne : p ≠ kb := fun e => hc (e ▸ hp)
      simp [h1, str_same, hne]
    · exact .inr h1
theorem Col.push {l : List Bytes} {left : Lit → Bool} {o : List (Bytes × Nat)} (h : Col l left o) (kb : Bytes) (hk : left (.string kb) = true) (hc : 1 < cntP l kb) : Col l (fun z => left z && !z.sameKey (.string kb)) (o ++ [(kb, cntP l kb)]) := by
  refine ⟨fun x hx => ?_, ?_, fun p hp => ?_⟩
  · rcases List.mem_append.1 hx with hx | hx
    · obtain ⟨a, b, c⟩ := h.mem x hx
      exact ⟨a, b, by simp [c]⟩
    · have : x = (kb, cntP l kb) := by simpa using hx
      subst this
      exact ⟨hc, rfl, by simp [str_same]⟩
  · rw [List.map_append, List.nodup_append]
    refine ⟨h.nodup, by simp, fun a ha b hb => ?_⟩
    have hb : b = kb := by simpa using hb
    subst hb
    rintro rfl
    obtain ⟨x, hx, rfl⟩ := List.mem_map.1 ha
    have := (h.mem x hx).2.2
    rw [hk] at this; cases this
  · by_cases e : p = kb
    · subst e; exact .inr (by simp)
    · rcases h.all p hp with h1 | h1
      · left; simp [h1, str_same, e]
      · exact .inr (by simp [h1])

theorem col_cands {l : List Bytes} {left : Lit → Bool} {o o' : List (Bytes × Nat)} (h : Col l left o) (hleft : ∀ kl, left kl = false) (hp : o'.Perm o) (hs : o'.Pairwise (fun a b => better b a = false)) :
    Cands l (o'.map (·.1)) ∧ o' = (o'.map (·.1)).map fun p => (p, cnt l p) := by
  have h4 : ∀ p, 1 < cntP l p → p.length = 4 := by
    intro p hp
    have : 0 < cntP l p := by omega
    unfold cntP at this
    rw [List.length_pos_iff_exists_mem] at this
    obtain ⟨t, ht⟩ := this
    rw [List.mem_filter, decide_eq_true_eq] at ht
    exact mem_piecesOf_len ht.2
  have hm : ∀ x ∈ o', 1 < x.2 ∧ x.2 = cnt l x.1 := fun x hx => by
    obtain ⟨a, b, _⟩ := h.mem x (hp.mem_iff.1 hx)
    exact ⟨a, by rw [b]; exact cntP_eq (h4 _ (by omega))⟩
  have hmap : o' = (o'.map (·.1)).map fun p => (p, cnt l p) := by
    rw [List.map_map]
    conv => lhs; rw [← List.map_id o']
    refine List.map_congr_left fun x hx => ?_
    obtain ⟨_, b⟩ := hm x hx
    show x = (x.1, cnt l x.1)
    rw [← b]
  refine ⟨⟨fun p => ?_, ?_⟩, hmap⟩
  · constructor
    · intro hpm
      obtain ⟨x, hx, rfl⟩ := List.mem_map.1 hpm
      obtain ⟨a, b⟩ := hm x hx
      obtain ⟨_, b2, _⟩ := h.mem x (hp.mem_iff.1 hx)
      exact ⟨(cnt_pos (h4 _ (by omega))).1 (by omega), by omega⟩
    · rintro ⟨ha, hc⟩
      have hl4 := allPieces_len ha
      rw [← cntP_eq hl4] at hc
      rcases h.all p hc with h1 | h1
      · rw [hleft] at h1; cases h1
      · exact List.mem_map.2 ⟨_, hp.mem_iff.2 h1, rfl⟩
  · rw [List.pairwise_map]
    have hnd : (o'.map (·.1)).Nodup := (hp.map _).nodup_iff.2 h.nodup
    rw [List.nodup_iff_pairwise_ne, List.pairwise_map] at hnd
    have hmm : o'.Pairwise (fun a b => (1 < a.2 ∧ a.2 = cnt l a.1) ∧ (1 < b.2 ∧ b.2 = cnt l b.1)) := List.pairwise_of_forall_mem_list fun a ha b hb => ⟨hm a ha, hm b hb⟩
    refine (List.Pairwise.and (hs.and hnd) hmm).imp ?_
    rintro a b ⟨⟨h1, h2⟩, ⟨_, ha⟩, _, hb⟩
    have ea : (a.1, cnt l a.1) = a := by rw [← ha]
    have eb : (b.1, cnt l b.1) = b := by rw [← hb]
    rw [ea, eb]
    cases hab : better a b with
    | true => rfl
    | false => exact absurd (congrArg Prod.fst (better_total hab h1)) h2

/-- a slice of pieces that reads as a list -/
def PcAt (w : World) (A : Option Addr) (n : Nat) (o : List (Bytes × Nat)) : Prop :=
  o.length = n ∧ (0 < n → ∃ b off, A = some ⟨b, off, none⟩ ∧ b < w.heap.size ∧ ∀ i x, o[i]? = some x → w.cell? ⟨b, off + i * 2, none⟩ = some (S x.1) ∧ w.cell? ⟨b, off + i * 2 + 1, none⟩ = some (I x.2))
theorem pcAt_of_own {w : World} {base n : Nat} {v : Value} {o : List (Bytes × Nat)} (h : w.ownsRow base 103 2 v n (o.flatMap pcCells)) : ∃ A cap, v = .slice A n cap ∧ PcAt w A n o := by
  have hn : o.length = n := by have := h.1; rw [pcCells_len] at this; omega
  rcases h.2 with ⟨rfl, h0⟩ | ⟨g, cap, cur, rfl, hb, hg, _⟩
  · subst h0
    exact ⟨_, _, rfl, hn, fun h => absurd h (by omega)⟩
  · refine ⟨_, _, rfl, hn, fun _ => ⟨g, 0, rfl, (Array.getElem?_eq_some_iff.1 hg).1, fun i x hi => ?_⟩⟩
    obtain ⟨a, b⟩ := pcCells_get o i x hi
    have hc := h.cells (g := g) rfl
    have e : ∀ j, (⟨g, 0, none⟩ : Addr).add j = ⟨g, 0 + j, none⟩ := fun j => by unfold Addr.add; split <;> simp_all
    have h0 := hc _ _ a
    have h1 := hc _ _ b
    rw [e] at h0 h1
    exact ⟨h0, by rw [← h1, Nat.add_assoc]⟩

def PiecesRes (l : List Bytes) (w' : World) (e : Ending) : Prop := ∃ A n cap c, e = .returned (.slice A n cap) ∧ Cands l c ∧ PcAt w' A n (c.map fun p => (p, cnt l p)) ∧ n ≤ 1000000
def RangeRel (l : List Bytes) (B r m2 : Nat) (D : DataW Unit) (w wr : World) (v : Value) : Prop :=
  ∃ (left : Lit → Bool) (cn no : Nat) (o : List (Bytes × Nat)), wr.ranges Try.prog 9 (plainElem Try.prog 3) (B + 1) r m2 D left cn ∧ wr.ownsRow (r + 1) 103 2 v no (o.flatMap pcCells) ∧ no + cn ≤ m2 ∧ Col l left o ∧ Below B w wr ∧ r + 1 ≤ wr.heap.size

set_option maxHeartbeats 4000000 in
set_option maxRecDepth 100000 in
theorem pieces_any (hsort : SortSpec) (A : Option Addr) (n cap : Nat) (l : List Bytes) (w : World) (hl : StrsAt w w.heap.size A n l) (hn : n ≤ 12) (hs : ∀ t ∈ l, t.length ≤ 512) :
    Calls Try.prog 63 #[.slice A n cap] w fun e w' => PiecesRes l w' e ∧ Below w.heap.size w w' := by
  have HS := hide hs
  have HSORT := hide hsort
  clear hs hsort
  have hmm : ∀ (w : World), (Instr.makeMap 104 none).run Try.prog w = .ok (.map (some w.heap.size)) (w.alloc (.map #[] 0)) := fun _ => rfl
  go_enter Try.func63, Try.ntmps63
  go_wp2_with fail
  obtain ⟨B, hB⟩ : ∃ B, B = w.heap.size := ⟨_, rfl⟩
  have M1 : NatMap ((w.alloc (.map #[] 0)).alloc (.map #[] 0)) B 0 fun _ => 0 := by rw [hB]; exact (NatMap.made w).alloc _
  have M2 : NatMap ((w.alloc (.map #[] 0)).alloc (.map #[] 0)) (B + 1) 0 fun _ => 0 := by
    have h := NatMap.made (w.alloc (.map #[] 0))
    have e : (w.alloc (.map #[] 0)).heap.size = B + 1 := by rw [hB]; simp
    rw [e] at h; exact h
  rw [← hB]
  have HB := hide hB
  clear hB
  go_loopw [16] (fun i wr => ∃ (k m1 m2 : Nat) (g : Bytes → Nat), k ≤ n ∧ i = .int .i64 k ∧ m1 ≤ k * 512 ∧ m2 ≤ k * 512 ∧ NatMap wr B m1 g ∧ (∀ p, g p ≤ k) ∧ NatMap wr (B + 1) m2 (cntP (l.take k)) ∧ Below B w wr) (fun i _ => n - (intOf i).toNat)
  case atStart =>
    refine ⟨0, 0, 0, _, Nat.zero_le _, rfl, by omega, by omega, M1, fun _ => Nat.le_refl _, ?_, ?_⟩
    · exact M2
    · rw [unhide HB]; exact ((Below.refl _ _).alloc (Nat.le_refl _) _).alloc (by simp) _
  case round =>
    obtain ⟨k, m1, m2, g, hk, rfl, h1, h2, hM1, hg, hM2, hbel⟩ := hrel
    have HM1 := hide hM1
    have HM2 := hide hM2
    have HG := hide hg
    clear hM1 hM2 hg M1 M2
    by_cases hkn : k < n
    · have hl2 := hl
      rw [← unhide HB] at hl2
      obtain ⟨b, off, t, rfl, hb, ht, q0⟩ := (hl2.below hbel).at_ hkn
      have ht5 := unhide HS t (List.mem_of_getElem? ht)
      have HT := hide ht
      clear ht
      obtain ⟨c, hc⟩ : ∃ c, c = t.length - 3 := ⟨_, rfl⟩
      have hmx : max ((t.length : Int) - 4 + 1) 0 = (c : Int) := by omega
      have hcl : c ≤ 509 := by omega
      have HC := hide hc
      clear hc
      go_wp2_with fail
      go_loopw [26] (fun i wx => ∃ (q m3 m4 : Nat) (g3 : Bytes → Nat), q ≤ c ∧ i = .int .i64 q ∧ m3 ≤ k * 512 + q ∧ m4 ≤ k * 512 + q ∧ NatMap wx B m3 g3 ∧ Seen k t q g3 ∧ NatMap wx (B + 1) m4 (fC l k t q) ∧ Below B w wx) (fun i _ => c - (intOf i).toNat)
      case atStart =>
        refine ⟨0, m1, m2, g, Nat.zero_le _, rfl, by omega, by omega, unhide HM1, fun p => ⟨by have := unhide HG p; omega, ?_⟩, ?_, hbel⟩
        · have := unhide HG p
          simp; omega
        · have e : fC l k t 0 = cntP (l.take k) := by funext p; simp [fC]
          rw [e]; exact unhide HM2
      case round =>
        obtain ⟨q, m3, m4, g3, hq, rfl, h3, h4, hM3, hsn, hM4, hbel2⟩ := hrel
        have HM3 := hide hM3
        have HM4 := hide hM4
        have HSN := hide hsn
        clear hM3 hM4 hsn
        by_cases hqc : q < c
        · obtain ⟨p, hp⟩ : ∃ p, p = slice t q (q + 4) := ⟨_, rfl⟩
          have hqt : q < t.length - 3 := by have := unhide HC; omega
          have hp4 : p.length = 4 := by rw [hp]; exact piece_len hqt
          have e2 : ((q : Int) + 4).toNat = q + 4 := by omega
          have e3 : (q : Int) + 4 ≤ (t.length : Int) := by omega
          have hsl := hp.symm
          have hpc := piecesOf_get hqt
          have hmt := mem_take_succ hqt
          rw [show piece t q = p from hp.symm] at hpc hmt
          have HMT := hide hmt
          have HPC := hide hpc
          have HSL := hide hsl
          obtain ⟨hgp, hgi⟩ := unhide HSN p
          have HGI := hide hgi
          have hfl : fC l k t q p ≤ 13 := by
            unfold fC
            have := cntP_le (l.take k) p
            rw [List.length_take] at this
            split <;> omega
          clear hp hqt hmt hpc hgi
          by_cases hsee : g3 p = k + 1
          · have q1 : ((g3 p : Int) == (k : Int) + 1) = true := by rw [beq_iff_eq]; omega
            have q2 : ((g3 p : Int) != (k : Int) + 1) = false := by rw [bne_eq_false_iff_eq]; omega
            have hin := (unhide HGI).1 hsee
            have HIN := hide hin
            clear hsee hin
            go_wp2_with (at_lookup; refine wpList_look rfl (.tmp 34) (.tmp 35) rfl B m3 g3 rfl (unhide HM3) p rfl (by omega) ?_)
            go_roundw
            case rel =>
              refine ⟨q + 1, m3, m4, g3, by omega, by go_num, by omega, by omega, unhide HM3, fun p2 => ⟨(unhide HSN p2).1, ?_⟩, ?_, hbel2⟩
              · rw [(unhide HSN p2).2, unhide HMT p2]
                constructor
                · exact .inl
                · rintro (h | rfl)
                  · exact h
                  · exact unhide HIN
              · have e : fC l k t (q + 1) = fC l k t q := by
                  funext p2
                  unfold fC
                  congr 1
                  by_cases h : p2 ∈ (piecesOf t).take q
                  · rw [if_pos h, if_pos ((unhide HMT p2).2 (.inl h))]
                  · rw [if_neg h, if_neg]
                    intro h2
                    rcases (unhide HMT p2).1 h2 with h2 | rfl
                    · exact h h2
                    · exact h (unhide HIN)
                rw [e]; exact unhide HM4
            case measure => simp [intOf]; omega
          · have q1 : ((g3 p : Int) == (k : Int) + 1) = false := by rw [beq_eq_false_iff_ne]; omega
            have q2 : ((g3 p : Int) != (k : Int) + 1) = true := by rw [bne_iff_ne]; omega
            have hin : p ∉ (piecesOf t).take q := fun h => hsee ((unhide HGI).2 h)
            have HIN := hide hin
            clear hsee hin
            go_wp2_with (first
              | (at_lookup; refine wpList_look rfl (.tmp 34) (.tmp 35) rfl B m3 g3 rfl (unhide HM3) p rfl (by omega) ?_)
              | (at_mapUpdate; refine wpList_put rfl (.tmp 40) (.tmp 41) (.tmp 43) rfl B m3 g3 rfl (unhide HM3) p rfl (by omega) (k + 1) _ rfl (by omega) (by omega) (by omega) ?_; intro w2 hM5 hg5; have HM5 := hide hM5; have HM6 := hide ((unhide HM4).kept hg5 (by simp)); clear hM5)
              | (at_lookup; refine wpList_look rfl (.tmp 44) (.tmp 45) rfl (B + 1) m4 (fC l k t q) rfl (unhide HM6) p rfl (by omega) ?_)
              | (at_mapUpdate; refine wpList_put rfl (.tmp 44) (.tmp 45) (.tmp 47) rfl (B + 1) m4 (fC l k t q) rfl (unhide HM6) p rfl (by omega) (fC l k t q p + 1) _ rfl (by omega) (by omega) (by omega) ?_; intro w3 hM7 hg7; have HM7 := hide hM7; clear hM7))
            go_roundw
            case rel =>
              refine ⟨q + 1, m3 + 1, m4 + 1, _, by omega, by go_num, by omega, by omega, (unhide HM5).kept hg7 (by simp), fun p2 => ?_, ?_, (hbel2.grown hg5 (by have := (unhide HM3).lt; omega) (fun j hj => by simp at hj; omega)).grown hg7 (by have := (unhide HM5).lt; omega) (fun j hj => by simp at hj; omega)⟩
              · rw [unhide HMT p2]
                show (if p2 = p then k + 1 else g3 p2) ≤ k + 1 ∧ ((if p2 = p then k + 1 else g3 p2) = k + 1 ↔ _)
                by_cases h : p2 = p
                · rw [if_pos h]; simp [h]
                · rw [if_neg h]
                  have := unhide HSN p2
                  simpa [h] using this
              · have e : (fun r => if r = p then fC l k t q p + 1 else fC l k t q r) = fC l k t (q + 1) := by
                  funext p2
                  by_cases h : p2 = p
                  · subst h
                    rw [if_pos rfl]
                    unfold fC
                    rw [if_neg (unhide HIN), if_pos ((unhide HMT _).2 (.inr rfl))]
                  · rw [if_neg h]
                    unfold fC
                    congr 1
                    by_cases h2 : p2 ∈ (piecesOf t).take q
                    · rw [if_pos h2, if_pos ((unhide HMT p2).2 (.inl h2))]
                    · rw [if_neg h2, if_neg]
                      intro h3
                      rcases (unhide HMT p2).1 h3 with h3 | h3
                      · exact h2 h3
                      · exact h h3
                rw [← e]; exact unhide HM7
            case measure => simp [intOf]; omega
        · go_wp2_with fail
          go_roundw
          case rel =>
            have hqe : q = t.length - 3 := by have := unhide HC; omega
            have hall : (piecesOf t).take q = piecesOf t := List.take_of_length_le (by rw [piecesOf_len]; omega)
            refine ⟨k + 1, m3, m4, g3, by omega, by go_num, by omega, by omega, unhide HM3, fun p => (unhide HSN p).1, ?_, hbel2⟩
            have e : fC l k t q = cntP (l.take (k + 1)) := by
              funext p
              unfold fC
              rw [hall, cntP_take (unhide HT)]
            rw [← e]; exact unhide HM4
          case measure => simp [intOf]; omega
    · have hfin : cntP (l.take k) = cntP l := by rw [List.take_of_length_le (by have := hl.1; omega)]
      have hM := unhide HM2
      rw [hfin] at hM
      obtain ⟨D, ho, hD, hr⟩ := hM
      have HO := hide ho
      have HR := hide hr
      have hk2 : decide ((k : Int) < (n : Int)) = false := by simp; omega
      have hbs : B ≤ wr.heap.size := by rw [unhide HB]; exact hbel.size
      obtain ⟨r, hrr⟩ : ∃ r, r = wr.heap.size := ⟨_, rfl⟩
      have HRR := hide hrr
      clear hfin ho hr hD HM1 HM2 HG hrr
      go_wp2_with (at_range; refine wpList_range_own _ rfl _ 104 rfl 9 3 keyedS Try.underlying104 _ (B + 1) m2 D rfl (unhide HO) ?_; intro w0 hrg0 hg0 hs0; have HRG0 := hide hrg0; have HS0 := hide hs0; clear hrg0 hs0)
      go_frame
      rw [← unhide HRR]
      go_loopw [9] (fun v wx => RangeRel l B r m2 D w wx v) (fun _ wx => wx.rangeLeft (B + 1) r)
      case atStart =>
        refine ⟨_, _, 0, [], by rw [unhide HRR]; exact unhide HRG0, World.ownsRow_nil _ _ _ _, ?_, ⟨by simp, by simp, fun p hp => .inl ?_⟩, hbel.grown hg0 hbs (fun j hj => by cases hj), by have := unhide HS0; have := unhide HRR; omega⟩
        · have := size_le (unhide HO); omega
        · cases hh : Go.Maps.has D (.string p) with
          | true => rfl
          | false =>
            have h1 := unhide HR p
            rw [Go.Maps.atKey_of_not_has hh] at h1
            have h2 := (Lit.int.inj (DataW.lit.inj h1)).2
            omega
      case round =>
        obtain ⟨left, cn, no, o, hrg, hown, hno, hcol, hbel2, hsz⟩ := hrel
        obtain ⟨A9, cap9, rfl⟩ := own_slice' hown
        have HRG := hide hrg
        have HOWN := hide hown
        have HCOL := hide hcol
        clear hrg hown hcol
        have hrl := (unhide HRG).lt
        have hBr : B + 1 < r := by have := (unhide HO).lt; have := unhide HRR; omega
        go_wp2_with (first
          | (at_next; refine wpList_next_nat rfl (.tmp 51) rfl (B + 1) r m2 D (cntP l) (unhide HR) left cn rfl (unhide HRG) ?_ ?_)
          | fail)
        · intro hc0 hl0
          have HL0 := hide hl0
          clear hl0
          have C9 := hide (unhide HSORT wr (r + 1) _ no o (unhide HOWN) (by omega))
          go_wp2_with fail
          refine (unhide C9).mono ?_
          rintro e w9 ⟨rfl, o9, hp9, hs9, ho9, hb9⟩
          obtain ⟨hcands, hmap⟩ := col_cands (unhide HCOL) (unhide HL0) hp9 hs9
          have HCA := hide hcands
          have HMA := hide hmap
          have HO9 := hide ho9
          clear hcands hmap hp9 hs9 ho9 C9
          go_wp2_with fail
          go_ret
          obtain ⟨A8, cap8, he8, hat8⟩ := pcAt_of_own (unhide HO9)
          rw [unhide HMA] at hat8
          refine ⟨⟨A8, no, cap8, _, ?_, unhide HCA, hat8, by omega⟩, ?_⟩
          · rw [← he8]; rfl
          · rw [← unhide HB]; exact hbel2.trans (hb9.mono (by omega))
        · intro kb w1 cn1 hlk hrg1 hlt hg1 hs1 hen
          have hcl := cntP_le l kb
          have hln := hl.1
          have HLK := hide hlk
          have HRG1 := hide hrg1
          have HO1 := hide ((unhide HOWN).kept hg1 (by
            rcases hvb : (Value.slice A9 no cap9).ownBlock with _ | g
            · exact .inl rfl
            · right
              have := ((unhide HOWN).lt g hvb).1
              intro e; injection e with e; omega))
          have HLN := hide hln
          have hs2 : wr.heap.size ≤ w1.heap.size := by omega
          clear hlk hrg1 hln hs1
          by_cases hc1 : 1 < cntP l kb
          · have HC1 := hide hc1
            go_wp2_with (at_builtin; refine wpList_push_piece rfl (.tmp 59) (.tmp 63) rfl (r + 1) _ no o rfl (unhide HO1) kb (cntP l kb) w1.heap.size rfl rfl (by omega) (by omega) ?_; intro A4 cap4 w4 hown4 hb4 hg4)
            have hne : ∀ j, j < r + 1 → some j ≠ (Value.slice A9 no cap9).ownBlock := fun j hj e => by
              have := ((unhide HO1).lt j e.symm).1
              omega
            have hrg4 := ((unhide HRG1).alloc (.cells #[S kb, I (cntP l kb)] 103)).kept hg4 (hne _ (by omega)) (hne _ (by omega))
            go_roundw
            case rel =>
              refine ⟨_, cn1, no + 1, o ++ [(kb, cntP l kb)], hrg4, hown4, by omega, (unhide HCOL).push kb (unhide HLK) (unhide HC1), (hbel2.grown hg1 (by omega) (fun j hj => by injection hj with hj; omega)).trans (hb4.mono (by omega)), ?_⟩
              have := hb4.size; omega
            case measure =>
              rw [hrg4.left_eq, (unhide HRG).left_eq]; omega
          · go_wp2_with fail
            go_roundw
            case rel =>
              exact ⟨_, cn1, no, o, unhide HRG1, unhide HO1, by omega, (unhide HCOL).skip kb hc1, hbel2.grown hg1 (by omega) (fun j hj => by injection hj with hj; omega), by omega⟩
            case measure =>
              rw [(unhide HRG1).left_eq, (unhide HRG).left_eq]; omega

end Go.Proofs.Ytgfkkjcnnecefaa

/- The library's sort over a row of the call's own: what the row holds before and behind it. -/
namespace Go.Proofs.Ytgfkkjcnnecefaa
open Go.RowKit Go.Lib Go.Sort

section
variable {α : Type} [Inhabited α] (enc : α → List Value) (k : Nat)
theorem flatMap_get (hk : ∀ x, (enc x).length = k) (h0 : 0 < k) : ∀ (l : List α) (t : Nat), t < l.length * k → (l.flatMap enc)[t]? = some (enc (l.toArray[t / k]!))[t % k]!
  | [], t, h => by simp at h
  | a :: l, t, h => by
    rw [List.flatMap_cons]
    by_cases ht : t < k
    · have e1 : t / k = 0 := Nat.div_eq_of_lt ht
      have e2 : t % k = t := Nat.mod_eq_of_lt ht
      have hl : t < (enc a).length := by rw [hk]; exact ht
      rw [List.getElem?_append_left hl, e1, e2, List.getElem?_eq_getElem hl]
      simp [hl]
    · have e1 : t / k = (t - k) / k + 1 := by
        conv => lhs; rw [show t = (t - k) + k from by omega, Nat.add_div_right _ h0]
      have e2 : t % k = (t - k) % k := by
        conv => lhs; rw [show t = (t - k) + k from by omega, Nat.add_mod_right]
      have hh : t - k < l.length * k := by
        simp only [List.length_cons, Nat.add_mul, Nat.one_mul] at h; omega
      rw [List.getElem?_append_right (by rw [hk]; omega), hk, flatMap_get hk h0 l (t - k) hh, e1, e2]
      simp
theorem flatK_list (hk : ∀ x, (enc x).length = k) (h0 : 0 < k) (l : List α) : (flatK enc k l.toArray).toList = l.flatMap enc := by
  have hlen : (l.flatMap enc).length = l.length * k := by
    induction l with
    | nil => simp
    | cons a l ih => simp [hk, Nat.add_mul] at ih ⊢; omega
  apply List.ext_getElem?
  intro t
  by_cases ht : t < l.length * k
  · rw [flatMap_get enc k hk h0 l t ht]
    have hs : t < (flatK enc k l.toArray).size := by rw [size_flatK]; simpa using ht
    have := get_flatK enc k l.toArray t (by simpa using ht)
    rw [← this, Array.getElem?_toList, Array.getElem?_eq_getElem hs, getElem!_pos _ t hs]
  · rw [List.getElem?_eq_none (by rw [Array.length_toList, size_flatK]; simp; omega), List.getElem?_eq_none (by omega)]

theorem holdsK_own {w : World} {base e n g cap : Nat} {o : List α} (hk : ∀ x, (enc x).length = k) (h0 : 0 < k) (h : w.ownsRow base e k (.slice (some ⟨g, 0, none⟩) n cap) n (o.flatMap enc)) : HoldsK enc k w g 0 o.toArray ∧ g < w.heap.size ∧ o.length = n ∧ base ≤ g := by
  rcases h.2 with ⟨hv, _⟩ | ⟨g', cap', cur, hv, hb, hg, hn, hc, hs, ht⟩
  · cases hv
  · injection hv with ha _ hcap
    injection ha with ha
    injection ha with ha
    subst ha
    have hlen : o.length = n := by
      have h1 := h.1
      have h2 := congrArg List.length (flatK_list enc k hk h0 o)
      rw [Array.length_toList, size_flatK] at h2
      rw [← h2] at h1
      exact Nat.eq_of_mul_eq_mul_right h0 (by simpa using h1)
    refine ⟨fun j hj => ?_, (Array.getElem?_eq_some_iff.1 hg).1, hlen, hb⟩
    rw [Nat.zero_add, cell_of_row w g j _ _ _ hg]
    refine ⟨?_, by simp [World.frozen?, hg]⟩
    have hj' : j < o.length * k := by rw [size_flatK] at hj; simpa using hj
    have h3 : (flatK enc k o.toArray).toList[j]? = some (flatK enc k o.toArray)[j]! := by
      rw [Array.getElem?_toList, Array.getElem?_eq_getElem hj, getElem!_pos _ j hj]
    rw [flatK_list enc k hk h0, ← ht, List.getElem?_take, if_pos (by rw [← hlen]; exact hj'), Array.getElem?_toList] at h3
    exact h3

theorem sortWorld_own {w : World} {base e n g cap : Nat} {o o' : List α} {m : Nat} {os : Array Obj} (hk : ∀ x, (enc x).length = k) (h0 : 0 < k) (h : w.ownsRow base e k (.slice (some ⟨g, 0, none⟩) n cap) n (o.flatMap enc)) (hp : o'.length = o.length) :
    (sortWorldK enc k w g 0 m o'.toArray os).ownsRow base e k (.slice (some ⟨g, 0, none⟩) n cap) n (o'.flatMap enc) ∧ Below base w (sortWorldK enc k w g 0 m o'.toArray os) := by
  obtain ⟨_, hgl, hlen, hbg⟩ := holdsK_own enc k hk h0 h
  rcases h.2 with ⟨hv, _⟩ | ⟨g', cap', cur, hv, hb, hg, hn, hc, hs, ht⟩
  · cases hv
  · injection hv with ha _ hcap
    injection ha with ha
    injection ha with ha
    subst ha
    subst hcap
    have hfl := congrArg List.length (flatK_list enc k hk h0 o')
    rw [Array.length_toList, size_flatK] at hfl
    have hsz : (flatK enc k o'.toArray).size = n * k := by rw [size_flatK]; simp [hp, hlen]
    have hcur : n * k ≤ cur.size := by rw [hs]; exact Nat.mul_le_mul_right k hn
    have hh : (sortWorldK enc k w g 0 m o'.toArray os).heap[g]? = some (.cells (putCells id 0 (flatK enc k o'.toArray) cur) e (0, 0)) := by
      unfold sortWorldK putRowK putRow
      have hg2 : (Sort.ahead w m).heap[g]? = some (.cells cur e (0, 0)) := hg
      rw [heap_grow_old _ _ (by show g < (mapBlock _ _ _).heap.size; unfold mapBlock; simpa using hgl)]
      unfold mapBlock
      simp only [Array.getElem?_modify]
      rw [if_pos trivial, hg2]
      rfl
    refine ⟨⟨?_, .inr ⟨g, cap, _, rfl, hb, hh, hn, hc, ?_, ?_⟩⟩, rfl, rfl, rfl, ?_, fun i hi => ?_⟩
    · rw [← hfl, List.size_toArray, hp, hlen]
    · unfold putCells; simpa using hs
    · rw [← flatK_list enc k hk h0]
      apply List.ext_getElem?
      intro t
      rw [List.getElem?_take]
      by_cases htn : t < n * k
      · rw [if_pos htn, Array.getElem?_toList, Array.getElem?_toList]
        unfold putCells
        rw [Array.getElem?_mapIdx, Array.getElem?_eq_getElem (by omega)]
        simp only [Option.map_some]
        rw [if_pos (by omega), Nat.sub_zero, Array.getElem?_eq_getElem (by omega), getElem!_pos _ t (by omega)]
        rfl
      · rw [if_neg htn, List.getElem?_eq_none (by rw [Array.length_toList, hsz]; omega)]
    · unfold sortWorldK putRowK putRow mapBlock; simp [Sort.ahead]
    · unfold sortWorldK putRowK putRow
      rw [heap_grow_old _ _ (by show i < (mapBlock _ _ _).heap.size; unfold mapBlock; simp [Sort.ahead]; omega)]
      unfold mapBlock
      simp only [Array.getElem?_modify]
      rw [if_neg (by omega)]
      rfl
end

theorem perm_of {α : Type} [Inhabited α] {o : List α} {d' : Array α} (h : PermIn 0 o.toArray.size o.toArray d') : d'.toList.Perm o ∧ d'.toList.length = o.length := by
  obtain ⟨hs, _, hp⟩ := h
  have e1 : (o.toArray.extract 0 o.toArray.size) = o.toArray := by simp
  have e2 : (d'.extract 0 o.toArray.size) = d' := by rw [← hs]; simp
  rw [e1, e2] at hp
  exact ⟨by simpa using hp, by simpa using hs⟩
theorem sorted_of {α : Type} [Inhabited α] {lt : α → α → Bool} {d' : Array α} {n : Nat} (hn : d'.size = n) (h : SortedIn lt 0 n d') : d'.toList.Pairwise (fun a b => lt b a = false) := by
  rw [List.pairwise_iff_getElem]
  intro i j hi hj hij
  have hi' : i < d'.size := by simpa using hi
  have hj' : j < d'.size := by simpa using hj
  have := h i j (Nat.zero_le _) hij (by omega)
  rw [getElem!_pos d' i hi', getElem!_pos d' j hj'] at this
  simpa using this

end Go.Proofs.Ytgfkkjcnnecefaa

/- The library's sort at pieces, by the program's own order. -/
namespace Go.Proofs.Ytgfkkjcnnecefaa
open Go.RowKit Go.Lib Pl Go.Sort
attribute [local go_sem] ext_list app_list

/-- cmp.Compare at strings -/
def cmpS (a b : Bytes) : Int := if lessB a b = true then -1 else if a = b then 0 else 1
theorem less_model : ∀ a b : Bytes, Op.bytesLess a b = lessB a b
  | _, [] => by cases ‹Bytes› <;> rfl
  | [], _ :: _ => rfl
  | a :: x, b :: y => by rw [Op.bytesLess, lessB, less_model x y]

set_option maxHeartbeats 1000000 in
theorem isNaNS_any (a : Bytes) (w : World) : Calls Try.prog 102 #[S a] w fun e w' => e = .returned (.bool false) ∧ w = w' := by
  go_enter Try.func102, Try.ntmps102
  go_wp2_with fail
  go_ret
  exact ⟨rfl, rfl⟩

set_option maxHeartbeats 1000000 in
theorem cmpStr_any (a b : Bytes) (w : World) : Calls Try.prog 87 #[S a, S b] w fun e w' => e = .returned (.int .i64 (cmpS a b)) ∧ w = w' := by
  have C1 := hide (fun (x : Bytes) (W : World) => isNaNS_any x W)
  by_cases h1 : lessB a b = true
  · have e1 : Op.bytesLess a b = true := by rw [less_model, h1]
    have e2 : cmpS a b = -1 := by unfold cmpS; rw [if_pos h1]
    rw [e2]
    clear e2 h1
    go_enter Try.func87, Try.ntmps87
    go_wp2_with (go_at_call 102; refine (unhide C1 _ _).mono ?_; rintro e w1 ⟨rfl, rfl⟩)
    go_ret
    exact ⟨rfl, rfl⟩
  · have e1 : Op.bytesLess a b = false := by rw [less_model]; simpa using h1
    by_cases h2 : a = b
    · subst h2
      have e2 : cmpS a a = 0 := by unfold cmpS; rw [if_neg h1, if_pos rfl]
      rw [e2]
      clear e2 h1
      go_enter Try.func87, Try.ntmps87
      go_wp2_with (go_at_call 102; refine (unhide C1 _ _).mono ?_; rintro e w1 ⟨rfl, rfl⟩)
      go_ret
      exact ⟨rfl, rfl⟩
    · have e3 : (a == b) = false := by simpa using h2
      have e2 : cmpS a b = 1 := by unfold cmpS; rw [if_neg h1, if_neg h2]
      rw [e2]
      clear e2 h1 h2
      go_enter Try.func87, Try.ntmps87
      go_wp2_with (go_at_call 102; refine (unhide C1 _ _).mono ?_; rintro e w1 ⟨rfl, rfl⟩)
      go_ret
      exact ⟨rfl, rfl⟩

def orI (a b : Int) : Int := if a = 0 then b else a

set_option maxHeartbeats 1000000 in
theorem cmpOr2_any (g : Nat) (a b : Int) (w : World) (h0 : w.cell? ⟨g, 0, none⟩ = some (.int .i64 a)) (h1 : w.cell? ⟨g, 1, none⟩ = some (.int .i64 b)) :
    Calls Try.prog 85 #[.slice (some ⟨g, 0, none⟩) 2 2] w fun e w' => e = .returned (.int .i64 (orI a b)) ∧ w = w' := by
  by_cases ha : a = 0
  · subst ha
    by_cases hb : b = 0
    · subst hb
      have e : orI 0 0 = 0 := rfl
      rw [e]
      clear e
      go_enter Try.func85, Try.ntmps85
      go_wp2_with fail
      go_loop [5, 8] (fun _ i => ∃ k : Nat, k ≤ 2 ∧ i = .int .i64 k) (fun _ i => 2 - (intOf i).toNat)
      case atStart => exact ⟨0, by omega, rfl⟩
      case round =>
        obtain ⟨k, hk, rfl⟩ := hrel
        match k, hk with
        | 0, _ =>
          go_wp2_with fail
          go_round
          case rel => exact ⟨1, by omega, rfl⟩
          case measure => simp [intOf]
        | 1, _ =>
          go_wp2_with fail
          go_round
          case rel => exact ⟨2, by omega, rfl⟩
          case measure => simp [intOf]
        | 2, _ =>
          go_wp2_with fail
          go_ret
          exact ⟨rfl, rfl⟩
    · have e : orI 0 b = b := rfl
      rw [e]
      have z1 : (b == 0) = false := beq_eq_false_iff_ne.2 hb
      have z2 : (b != 0) = true := bne_iff_ne.2 hb
      clear e hb
      go_enter Try.func85, Try.ntmps85
      go_wp2_with fail
      go_loop [5, 8] (fun _ i => ∃ k : Nat, k ≤ 1 ∧ i = .int .i64 k) (fun _ i => 1 - (intOf i).toNat)
      case atStart => exact ⟨0, by omega, rfl⟩
      case round =>
        obtain ⟨k, hk, rfl⟩ := hrel
        match k, hk with
        | 0, _ =>
          go_wp2_with fail
          go_round
          case rel => exact ⟨1, by omega, rfl⟩
          case measure => simp [intOf]
        | 1, _ =>
          go_wp2_with fail
          go_ret
          exact ⟨rfl, rfl⟩
  · have e : orI a b = a := by unfold orI; rw [if_neg ha]
    rw [e]
    have z1 : (a == 0) = false := beq_eq_false_iff_ne.2 ha
    have z2 : (a != 0) = true := bne_iff_ne.2 ha
    clear e ha
    go_enter Try.func85, Try.ntmps85
    go_wp2_with fail
    go_loop [5, 8] (fun _ i => i = .int .i64 0) (fun _ _ => 0)
    case atStart => rfl
    case round =>
      subst hrel
      go_wp2_with fail
      go_ret
      exact ⟨rfl, rfl⟩

theorem cell_new_at {W : World} {cs : Array Value} {t : TypeId} {H : Nat} (i : Nat) (h : W.heap.size = H) : (W.alloc (.cells cs t)).cell? ⟨H, i, none⟩ = cs[i]? := by
  subst h; exact World.cell?_alloc_new _ _ _ _

/-- the program's own order of pieces -/
def cmpP (x y : Bytes × Nat) : Int := orI (Lib.compareInt y.2 x.2) (cmpS x.1 y.1)
theorem cmpP_lt (x y : Bytes × Nat) : ltOf cmpP x y = better x y := by
  obtain ⟨a, n⟩ := x
  obtain ⟨b, m⟩ := y
  unfold ltOf cmpP better orI Lib.compareInt cmpS
  simp only
  by_cases h1 : (m : Int) < (n : Int)
  · rw [if_pos h1]
    have : m < n := by omega
    simp [this]
  · rw [if_neg h1]
    by_cases h2 : (m : Int) > (n : Int)
    · rw [if_pos h2]
      have h3 : ¬ m < n := by omega
      have h4 : (n == m) = false := by rw [beq_eq_false_iff_ne]; omega
      simp [h3, h4]
    · rw [if_neg h2]
      have h3 : n = m := by omega
      subst h3
      by_cases h4 : lessB a b = true
      · simp [h4]
      · by_cases h5 : a = b
        · subst h5; simp [h4]
        · simp [h4, h5]
theorem swoP : SWO (ltOf cmpP) where
  irrefl x := by rw [cmpP_lt]; exact better_irrefl x
  trans x y z h1 h2 := by rw [cmpP_lt] at *; exact better_trans h1 h2
  ntrans x y z h1 h2 := by
    rw [cmpP_lt] at *
    rw [Bool.eq_false_iff] at *
    intro h3
    cases h4 : better y x with
    | true => exact h2 (better_trans h4 h3)
    | false =>
      have := better_total (by simpa using h1) h4
      subst this
      exact h2 h3

set_option maxHeartbeats 2000000 in
set_option maxRecDepth 100000 in
theorem piecesLess_any (x y : Bytes × Nat) (w : World) :
    Calls Try.prog 84 #[.agg #[S x.1, I x.2], .agg #[S y.1, I y.2]] w fun e w' => e = .returned (.int .i64 (cmpP x y)) ∧ ∃ q os', w' = grow (w.drewN q) os' := by
  obtain ⟨c1, hc1⟩ : ∃ c, c = Lib.compareInt y.2 x.2 := ⟨_, rfl⟩
  obtain ⟨c2, hc2⟩ : ∃ c, c = cmpS x.1 y.1 := ⟨_, rfl⟩
  have K1 := fun (W : World) => Try.cmp_Compare_int y.2 x.2 W
  have K2 := fun (W : World) => cmpStr_any x.1 y.1 W
  have he : cmpP x y = orI c1 c2 := by unfold cmpP; rw [← hc1, ← hc2]
  rw [he]
  rw [← hc1] at K1
  rw [← hc2] at K2
  have K1 := hide K1
  have K2 := hide K2
  have K3 := hide (fun (g : Nat) (W : World) => cmpOr2_any g c1 c2 W)
  clear hc1 hc2 he
  go_enter Try.func84, Try.ntmps84
  go_wp2_with fail
  go_region_held3 (fun w' => w'.cell? ⟨w.heap.size, 0, none⟩ = some (S x.1) ∧ w'.cell? ⟨w.heap.size, 1, none⟩ = some (I x.2) ∧ w'.cell? ⟨w.heap.size + 1, 0, none⟩ = some (S y.1) ∧ w'.cell? ⟨w.heap.size + 1, 1, none⟩ = some (I y.2)) (first | go_keep)
    ((first
      | (go_at_call 86; refine (unhide K1 _).mono ?_; rintro e w1 ⟨rfl, rfl⟩)
      | (go_at_call 87; refine (unhide K2 _).mono ?_; rintro e w1 ⟨rfl, rfl⟩)
      | (go_at_call 85; refine (unhide K3 _ _ (by exact (cell_new_at 0 (by simp)).trans rfl) (by exact (cell_new_at 1 (by simp)).trans rfl)).mono ?_; rintro e w1 ⟨rfl, rfl⟩)))
  all_goals
    go_wp2_with fail
    go_ret
    refine ⟨rfl, 1, #[.cells #[S x.1, I x.2] 103, .cells #[S y.1, I y.2] 103, .cells #[.int .i64 c1, .int .i64 c2] 3], ?_⟩
    rw [alloc_eq_grow, alloc_eq_grow, alloc_eq_grow, grow_grow, grow_grow]
    rfl

theorem sortSpec : SortSpec := by
  intro W base v n o hown hn
  rcases hown.2 with ⟨hv, h0⟩ | ⟨g, cap, cur, hv, _⟩
  · subst h0
    have ho : o = [] := by
      have := hown.1
      rw [pcCells_len] at this
      exact List.eq_nil_of_length_eq_zero (by omega)
    subst ho
    subst hv
    have hcon := AnyF.slices_SortFunc_none Try.sortPiece none 0 (.func (.func 84) #[] #[]) W
    change Calls Try.prog 83 _ _ _ at hcon
    refine hcon.mono ?_
    rintro e w' ⟨rfl, rfl⟩
    exact ⟨rfl, [], List.Perm.refl _, List.Pairwise.nil, hown, Below.refl _ _⟩
  · subst hv
    obtain ⟨hH, hgl, hlen, hbg⟩ := holdsK_own pcCells 2 (fun _ => rfl) (by omega) hown
    have eg : ∀ args w, (callFunc 84 args).run Try.prog w = .ok (.enter 84 args) w := enters_of Try.func84 (by kernel_rfl) rfl
    have hcmp : CmpLays Try.prog 84 #[] pcCells 2 cmpP g 0 o.toArray.size W := fun _ _ _ _ x y => piecesLess_any x y _
    have hcon := AnyQ.slices_SortFunc Try.sortPiece 2 Try.isAgg103 Try.sizeOf103 pcCells (fun _ => rfl) (fun x v hv => by simp [pcCells] at hv; rcases hv with rfl | rfl <;> rfl) cmpP swoP 84 #[] g 0 cap o.toArray W eg hcmp hH hgl (by simp; omega)
    change Calls Try.prog 83 _ _ _ at hcon
    have hsz : o.toArray.size = n := by simpa using hlen
    rw [hsz] at hcon
    refine hcon.mono ?_
    rintro e w' ⟨rfl, d', m, os, hp, hs, rfl⟩
    rw [← hsz] at hp
    obtain ⟨hp1, hp2⟩ := perm_of hp
    have hss := sorted_of (n := n) (by rw [← hsz]; exact hp.1) hs
    have hres := sortWorld_own (o' := d'.toList) (m := m) (os := os) pcCells 2 (fun _ => rfl) (by omega) hown hp2
    refine ⟨rfl, d'.toList, hp1, ?_, hres⟩
    exact hss.imp fun {a b} h => by rw [← cmpP_lt]; exact h

end Go.Proofs.Ytgfkkjcnnecefaa

/- Plain mathematics of chapter 3: codes. No program in sight. -/
namespace Go.Proofs.Ytgfkkjcnnecefaa
namespace Pl

def pw (m : Nat) : Nat := 2 ^ (15 - m)
theorem pw_pos (m : Nat) : 0 < pw m := Nat.pow_pos (by omega)
theorem pw_le (m : Nat) : pw m ≤ 32768 := by
  have : 2 ^ (15 - m) ≤ 2 ^ 15 := Nat.pow_le_pow_right (by omega) (by omega)
  exact this
def badL (x : Int) : Bool := decide (x < 0 ∨ 15 < x)
def kr1 (x : Int) : Nat := if 0 < x then pw x.toNat else 0
def kr : List Int → Nat
  | [] => 0
  | x :: l => kr1 x + kr l
theorem kr1_le (x : Int) : kr1 x ≤ 32768 := by unfold kr1; split; exact pw_le _; omega
theorem kr_le : ∀ l : List Int, kr l ≤ 32768 * l.length
  | [] => by simp [kr]
  | x :: l => by
    have := kr1_le x
    have := kr_le l
    rw [kr, List.length_cons]; omega
theorem kr_app (a b : List Int) : kr (a ++ b) = kr a + kr b := by
  induction a with
  | nil => simp [kr]
  | cons x a ih => rw [List.cons_append, kr, kr, ih]; omega
theorem kr_take {l : List Int} {k : Nat} {x : Int} (h : l[k]? = some x) : kr (l.take (k + 1)) = kr (l.take k) + kr1 x := by
  rw [List.take_add_one, h, kr_app]; simp [kr]
theorem bad_take {l : List Int} {k : Nat} {x : Int} (h : l[k]? = some x) : (l.take (k + 1)).any badL = ((l.take k).any badL || badL x) := by
  rw [List.take_add_one, h, List.any_append]; simp
theorem bad_of_take {l : List Int} {k : Nat} (h : (l.take k).any badL = true) : l.any badL = true := by
  rw [List.any_eq_true] at h ⊢
  obtain ⟨x, hx, hb⟩ := h
  exact ⟨x, List.mem_of_mem_take hx, hb⟩
/-- C1 -/
def checkE (l : List Int) : Nat := if l.any badL = true then 3 else if kr l = 0 ∨ 32768 < kr l then 1 else 0
theorem checkE_bad {l : List Int} (h : l.any badL = true) : checkE l = 3 := by unfold checkE; rw [if_pos h]
theorem checkE_form {l : List Int} (h : l.any badL = false) (h2 : kr l = 0 ∨ 32768 < kr l) : checkE l = 1 := by unfold checkE; rw [h, if_neg (by simp), if_pos h2]
theorem checkE_ok {l : List Int} (h : l.any badL = false) (h2 : ¬ (kr l = 0 ∨ 32768 < kr l)) : checkE l = 0 := by unfold checkE; rw [h, if_neg (by simp), if_neg h2]
theorem checkE_zero {l : List Int} (h : checkE l = 0) : (∀ x ∈ l, 0 ≤ x ∧ x ≤ 15) ∧ 0 < kr l ∧ kr l ≤ 32768 := by
  unfold checkE at h
  by_cases h1 : l.any badL = true
  · rw [if_pos h1] at h; omega
  · rw [if_neg h1] at h
    by_cases h2 : kr l = 0 ∨ 32768 < kr l
    · rw [if_pos h2] at h; omega
    · refine ⟨fun x hx => ?_, by omega, by omega⟩
      have h1 : l.any badL = false := by simpa using h1
      rw [List.any_eq_false] at h1
      have := h1 x hx
      simp only [badL, decide_eq_true_eq] at this
      omega

/-- C2: may they be counts -/
def badC (x : Int) : Bool := decide (x < 0 ∨ 2048 < x)
def fineB (c : List Int) : Bool := !c.any badC
theorem fine_all {c : List Int} (h : fineB c = true) : ∀ x ∈ c, 0 ≤ x ∧ x ≤ 2048 := by
  intro x hx
  unfold fineB at h
  have h : c.any badC = false := by simpa using h
  rw [List.any_eq_false] at h
  have := h x hx
  simp only [badC, decide_eq_true_eq] at this
  omega
theorem fine_of_all {c : List Int} (h : ∀ x ∈ c, 0 ≤ x ∧ x ≤ 2048) : fineB c = true := by
  unfold fineB
  rw [Bool.not_eq_true', List.any_eq_false]
  intro x hx
  have := h x hx
  simp only [badC, decide_eq_true_eq]
  omega
/-- a sign that counts and has no word -/
def lackL : List Int → List Int → Bool
  | x :: l, c :: cs => decide (0 < c ∧ x = 0) || lackL l cs
  | _, _ => false
def dotL : List Int → List Int → Int
  | x :: l, c :: cs => c * x + dotL l cs
  | _, _ => 0
def costE (l c : List Int) : Nat := if checkE l ≠ 0 then checkE l else if fineB c = false then 3 else if lackL l c = true then 5 else 0
def costN (l c : List Int) : Int := if checkE l ≠ 0 then 0 else if fineB c = false then 0 else if lackL l c = true then 0 else dotL l c
theorem lack_take : ∀ {l c : List Int} {k : Nat} {x y : Int}, l[k]? = some x → c[k]? = some y → lackL (l.take (k + 1)) (c.take (k + 1)) = (lackL (l.take k) (c.take k) || decide (0 < y ∧ x = 0))
  | a :: l, b :: c, 0, x, y, h1, h2 => by simp at h1 h2; subst h1; subst h2; simp [lackL]
  | a :: l, b :: c, k + 1, x, y, h1, h2 => by
    have := lack_take (l := l) (c := c) (k := k) (x := x) (y := y) (by simpa using h1) (by simpa using h2)
    rw [List.take_succ_cons, List.take_succ_cons, List.take_succ_cons, List.take_succ_cons, lackL, lackL, this, Bool.or_assoc]
  | [], _, _, _, _, h1, _ => by simp at h1
  | _ :: _, [], _, _, _, _, h2 => by simp at h2
theorem dot_take : ∀ {l c : List Int} {k : Nat} {x y : Int}, l[k]? = some x → c[k]? = some y → dotL (l.take (k + 1)) (c.take (k + 1)) = dotL (l.take k) (c.take k) + y * x
  | a :: l, b :: c, 0, x, y, h1, h2 => by simp at h1 h2; subst h1; subst h2; simp [dotL]
  | a :: l, b :: c, k + 1, x, y, h1, h2 => by
    have := dot_take (l := l) (c := c) (k := k) (x := x) (y := y) (by simpa using h1) (by simpa using h2)
    rw [List.take_succ_cons, List.take_succ_cons, List.take_succ_cons, List.take_succ_cons, dotL, dotL, this]; omega
  | [], _, _, _, _, h1, _ => by simp at h1
  | _ :: _, [], _, _, _, _, h2 => by simp at h2
theorem lack_of_take : ∀ {l c : List Int} {k : Nat}, lackL (l.take k) (c.take k) = true → lackL l c = true
  | [], _, k, h => by cases k <;> simp [lackL] at h
  | _ :: _, [], k, h => by cases k <;> simp [lackL] at h
  | a :: l, b :: c, 0, h => by simp [lackL] at h
  | a :: l, b :: c, k + 1, h => by
    rw [List.take_succ_cons, List.take_succ_cons, lackL, Bool.or_eq_true] at h
    rw [lackL, Bool.or_eq_true]
    exact h.imp id lack_of_take
theorem mul_le_cost (y x : Int) (hy : 0 ≤ y ∧ y ≤ 2048) (hx : 0 ≤ x ∧ x ≤ 15) : 0 ≤ y * x ∧ y * x ≤ 30720 := by
  refine ⟨Int.mul_nonneg hy.1 hx.1, ?_⟩
  calc y * x ≤ 2048 * 15 := Int.mul_le_mul hy.2 hx.2 hx.1 (by omega)
    _ = 30720 := by decide

end Pl
end Go.Proofs.Ytgfkkjcnnecefaa

/- Plain mathematics of chapter 3: the words of a right code. No program in sight. -/
namespace Go.Proofs.Ytgfkkjcnnecefaa
namespace Pl

/-- so many bits of a number, the great ones first -/
def bt : Nat → Nat → List Bool
  | _, 0 => []
  | n, s + 1 => bt (n / 2) s ++ [decide (n % 2 = 1)]
theorem bt_len : ∀ (s n : Nat), (bt n s).length = s
  | 0, _ => rfl
  | s + 1, n => by rw [bt, List.length_append, bt_len]; rfl
def bvT (b : Bool) : Nat := if b then 1 else 0
def val (l : List Bool) : Nat := l.foldl (fun a b => 2 * a + bvT b) 0
theorem val_nil : val [] = 0 := rfl
theorem val_snoc (l : List Bool) (b : Bool) : val (l ++ [b]) = 2 * val l + bvT b := by unfold val; rw [List.foldl_append]; rfl
theorem bvT_le (b : Bool) : bvT b ≤ 1 := by cases b <;> decide
theorem list_snoc_ind {α : Type} {p : List α → Prop} (h0 : p []) (h1 : ∀ l a, p l → p (l ++ [a])) (l : List α) : p l := by
  have : ∀ n (l : List α), l.length = n → p l := by
    intro n
    induction n with
    | zero => intro l hl; rw [List.length_eq_zero_iff.1 hl]; exact h0
    | succ n ih =>
      intro l hl
      have hne : l ≠ [] := by intro e; rw [e] at hl; simp at hl
      rw [← List.dropLast_concat_getLast hne]
      exact h1 _ _ (ih _ (by simp; omega))
  exact this _ _ rfl
theorem val_lt (l : List Bool) : val l < 2 ^ l.length := by
  induction l using list_snoc_ind with
  | h0 => decide
  | h1 l b ih =>
    have := bvT_le b
    rw [val_snoc, List.length_append, List.length_singleton, Nat.pow_succ]; omega
theorem val_app (a b : List Bool) : val (a ++ b) = val a * 2 ^ b.length + val b := by
  induction b using list_snoc_ind with
  | h0 => simp [val_nil]
  | h1 l x ih =>
    rw [← List.append_assoc, val_snoc, val_snoc, ih, List.length_append, List.length_singleton, Nat.pow_succ, ← Nat.mul_assoc]
    omega
theorem val_bt : ∀ (s n : Nat), val (bt n s) = n % 2 ^ s
  | 0, n => by simp [bt, val_nil, Nat.mod_one]
  | s + 1, n => by
    rw [bt, val_snoc, val_bt, Nat.pow_succ, Nat.mul_comm (2 ^ s) 2, Nat.mod_mul]
    have : bvT (decide (n % 2 = 1)) = n % 2 := by
      rcases Nat.mod_two_eq_zero_or_one n with h | h <;> rw [h] <;> rfl
    omega
theorem bt_val (l : List Bool) : bt (val l) l.length = l := by
  induction l using list_snoc_ind with
  | h0 => rfl
  | h1 l b ih =>
    rw [val_snoc, List.length_append, List.length_singleton, bt]
    have hb := bvT_le b
    rw [show (2 * val l + bvT b) / 2 = val l from by omega, ih]
    congr 2
    cases b
    · simp [bvT]
    · simp [bvT]
/-- the first bits -/
theorem bt_take (n s t : Nat) : bt n (s + t) = bt (n / 2 ^ t) s ++ bt n t := by
  induction t generalizing n with
  | zero => simp [bt]
  | succ t ih =>
    rw [← Nat.add_assoc, bt, ih, bt, List.append_assoc, Nat.div_div_eq_div_mul, ← Nat.pow_succ']

def sumN (f : Nat → Nat) : Nat → Nat
  | 0 => 0
  | n + 1 => sumN f n + f n
theorem sumN_le {f g : Nat → Nat} : ∀ n, (∀ j, j < n → f j ≤ g j) → sumN f n ≤ sumN g n
  | 0, _ => Nat.le_refl _
  | n + 1, h => Nat.add_le_add (sumN_le n fun j hj => h j (by omega)) (h n (by omega))
theorem sumN_congr {f g : Nat → Nat} : ∀ n, (∀ j, j < n → f j = g j) → sumN f n = sumN g n
  | 0, _ => rfl
  | n + 1, h => by rw [sumN, sumN, sumN_congr n fun j hj => h j (by omega), h n (by omega)]
theorem sumN_zero {f : Nat → Nat} : ∀ n, (∀ j, j < n → f j = 0) → sumN f n = 0
  | 0, _ => rfl
  | n + 1, h => by rw [sumN, sumN_zero n fun j hj => h j (by omega), h n (by omega)]
theorem sumN_add (f g : Nat → Nat) : ∀ n, sumN (fun j => f j + g j) n = sumN f n + sumN g n
  | 0 => rfl
  | n + 1 => by rw [sumN, sumN, sumN, sumN_add f g n]; omega
theorem sumN_one {f : Nat → Nat} {i : Nat} : ∀ n, i < n → (∀ j, j < n → j ≠ i → f j = 0) → sumN f n = f i
  | 0, h, _ => absurd h (by omega)
  | n + 1, h, hz => by
    rw [sumN]
    by_cases e : i = n
    · subst e
      rw [sumN_zero i fun j hj => hz j (by omega) (by omega)]; omega
    · rw [sumN_one n (by omega) (fun j hj hne => hz j (by omega) hne), hz n (by omega) (by omega)]; omega
theorem sumN_dvd {d : Nat} {f : Nat → Nat} : ∀ n, (∀ j, j < n → d ∣ f j) → d ∣ sumN f n
  | 0, _ => Nat.dvd_zero d
  | n + 1, h => Nat.dvd_add (sumN_dvd n fun j hj => h j (by omega)) (h n (by omega))

/-- the length of a sign's word -/
def ln (l : List Int) (i : Nat) : Nat := (l.getD i 0).toNat
/-- the signs whose words come first -/
def early (l : List Int) (s i j : Nat) : Bool := decide (0 < ln l j) && (decide (ln l j < s) || (decide (ln l j = s) && decide (j < i)))
theorem early_iff (l : List Int) (s i j : Nat) : early l s i j = true ↔ 0 < ln l j ∧ (ln l j < s ∨ (ln l j = s ∧ j < i)) := by unfold early; simp
def preS (l : List Int) (s i : Nat) : Nat := sumN (fun j => if early l s i j = true then pw (ln l j) else 0) 16
theorem early_congr {l : List Int} {s i s' i' j : Nat} (h : (0 < ln l j ∧ (ln l j < s ∨ (ln l j = s ∧ j < i))) ↔ (0 < ln l j ∧ (ln l j < s' ∨ (ln l j = s' ∧ j < i')))) : early l s i j = early l s' i' j := by
  rw [← early_iff, ← early_iff] at h
  cases h1 : early l s i j <;> cases h2 : early l s' i' j <;> simp_all
theorem preS_zero (l : List Int) : preS l 1 0 = 0 := by
  refine sumN_zero _ fun j _ => ?_
  rw [if_neg]
  rw [early_iff]; omega
theorem early_skip {l : List Int} {s i : Nat} (h : ln l i ≠ s) (j : Nat) : early l s (i + 1) j = early l s i j :=
  early_congr ⟨fun ⟨a, b⟩ => ⟨a, by rcases b with b | ⟨b, c⟩; exact .inl b; refine .inr ⟨b, ?_⟩; by_cases e : j = i; subst e; exact absurd b h; omega⟩, fun ⟨a, b⟩ => ⟨a, by omega⟩⟩
theorem preS_skip {l : List Int} {s i : Nat} (h : ln l i ≠ s) : preS l s (i + 1) = preS l s i := by
  refine sumN_congr _ fun j _ => ?_
  simp only [early_skip h j]
theorem early_hit {l : List Int} {s i : Nat} (h : ln l i = s) (hs : 0 < s) (j : Nat) : early l s (i + 1) j = (early l s i j || decide (j = i)) := by
  have h1 := early_iff l s (i + 1) j
  have h2 := early_iff l s i j
  by_cases e : j = i
  · subst e
    simp only [decide_true, Bool.or_true]
    rw [h1]; omega
  · simp only [e, decide_false, Bool.or_false]
    exact early_congr ⟨fun ⟨a, b⟩ => ⟨a, by omega⟩, fun ⟨a, b⟩ => ⟨a, by omega⟩⟩
theorem early_self (l : List Int) (i : Nat) : early l (ln l i) i i = false := by
  have := early_iff l (ln l i) i i
  cases h : early l (ln l i) i i with
  | false => rfl
  | true => have := this.1 h; omega
theorem preS_hit {l : List Int} {s i : Nat} (h : ln l i = s) (hs : 0 < s) (hi : i < 16) : preS l s (i + 1) = preS l s i + pw s := by
  have e : ∀ j, j < 16 → (if early l s (i + 1) j = true then pw (ln l j) else 0) = (if early l s i j = true then pw (ln l j) else 0) + (if j = i then pw s else 0) := by
    intro j _
    rw [early_hit h hs]
    by_cases e : j = i
    · subst e
      have := early_self l j
      rw [h] at this
      simp [this, h]
    · simp [e]
  unfold preS
  rw [sumN_congr 16 e, sumN_add]
  congr 1
  rw [sumN_one (i := i) 16 hi (fun j _ hne => by simp [hne])]
  simp
theorem preS_row (l : List Int) (s : Nat) : preS l (s + 1) 0 = preS l s 16 := by
  refine sumN_congr _ fun j hj => ?_
  rw [early_congr (s' := s) (i' := 16) ⟨fun ⟨a, b⟩ => ⟨a, by omega⟩, fun ⟨a, b⟩ => ⟨a, by omega⟩⟩]
theorem early_row {l : List Int} {s j : Nat} (hj : j < 16) : early l (s + 1) 0 j = early l s 16 j :=
  early_congr ⟨fun ⟨a, b⟩ => ⟨a, by omega⟩, fun ⟨a, b⟩ => ⟨a, by omega⟩⟩
def krS (l : List Int) : Nat := sumN (fun j => if 0 < ln l j then pw (ln l j) else 0) 16
theorem kr_sum : ∀ (l : List Int), (∀ x ∈ l, 0 ≤ x) → kr l = sumN (fun j => if 0 < ln l j then pw (ln l j) else 0) l.length := by
  intro l
  induction l using list_snoc_ind with
  | h0 => intro _; rfl
  | h1 l x ih =>
    intro h
    have hx := h x (by simp)
    rw [kr_app, ih fun y hy => h y (by simp [hy]), List.length_append, List.length_singleton, sumN]
    have e1 : ln (l ++ [x]) l.length = x.toNat := by simp [ln]
    have e2 : ∀ j, j < l.length → ln (l ++ [x]) j = ln l j := fun j hj => by unfold ln; rw [List.getD_eq_getElem?_getD, List.getD_eq_getElem?_getD, List.getElem?_append_left hj]
    have e3 : sumN (fun j => if 0 < ln (l ++ [x]) j then pw (ln (l ++ [x]) j) else 0) l.length = sumN (fun j => if 0 < ln l j then pw (ln l j) else 0) l.length := sumN_congr _ fun j hj => by simp only [e2 j hj]
    rw [e3, e1]
    congr 1
    simp only [kr, kr1, Nat.add_zero]
    by_cases hp : 0 < x
    · rw [if_pos hp, if_pos (by omega)]
    · rw [if_neg hp, if_neg (by omega)]
theorem kr_krS {l : List Int} (hl : l.length = 16) (h : ∀ x ∈ l, 0 ≤ x) : kr l = krS l := by rw [kr_sum l h, hl]; rfl
theorem preS_le (l : List Int) (s i : Nat) : preS l s i ≤ krS l :=
  sumN_le _ fun j _ => by
    by_cases h : early l s i j = true
    · rw [if_pos h, if_pos ((early_iff l s i j).1 h).1]; exact Nat.le_refl _
    · rw [if_neg h]; omega
theorem pw_dvd {a b : Nat} (h : a ≤ b) : pw b ∣ pw a := Nat.pow_dvd_pow 2 (by omega)
theorem preS_dvd {l : List Int} {s i : Nat} : pw s ∣ preS l s i :=
  sumN_dvd _ fun j _ => by
    by_cases h : early l s i j = true
    · rw [if_pos h]
      have := (early_iff l s i j).1 h
      exact pw_dvd (by omega)
    · rw [if_neg h]; exact Nat.dvd_zero _
theorem preS_mono {l : List Int} {s i s' i' : Nat} (h : s < s' ∨ (s = s' ∧ i ≤ i')) : preS l s i ≤ preS l s' i' :=
  sumN_le _ fun j _ => by
    by_cases h1 : early l s i j = true
    · have := (early_iff l s i j).1 h1
      rw [if_pos h1, if_pos ((early_iff l s' i' j).2 (by omega))]; exact Nat.le_refl _
    · rw [if_neg h1]; omega

/-- the number of a sign's word, and its bits -/
def wv (l : List Int) (i : Nat) : Nat := preS l (ln l i) i / pw (ln l i)
def wordB (l : List Int) (i : Nat) : List Bool := bt (wv l i) (ln l i)
/-- a right code -/
structure Right (l : List Int) : Prop where
  len : l.length = 16
  one : ∀ i, ln l i ≤ 15
  sum : krS l ≤ 32768
  some : 0 < krS l
  nn : ∀ x ∈ l, 0 ≤ x
theorem right_of {l : List Int} (hl : l.length = 16) (h : checkE l = 0) : Right l := by
  obtain ⟨h1, h2, h3⟩ := checkE_zero h
  rw [kr_krS hl fun x hx => (h1 x hx).1] at h2 h3
  refine ⟨hl, fun i => ?_, h3, h2, fun x hx => (h1 x hx).1⟩
  unfold ln
  by_cases hi : i < l.length
  · rw [List.getD_eq_getElem?_getD, List.getElem?_eq_getElem hi]
    have := h1 _ (List.getElem_mem hi)
    simp; omega
  · rw [List.getD_eq_getElem?_getD, List.getElem?_eq_none (by omega)]; decide
theorem wv_mul (l : List Int) (i : Nat) : wv l i * pw (ln l i) = preS l (ln l i) i := Nat.div_mul_cancel preS_dvd
theorem pw_mul {m : Nat} (h : m ≤ 15) : 2 ^ m * pw m = 32768 := by
  unfold pw
  rw [← Nat.pow_add, show m + (15 - m) = 15 from by omega]
theorem preS_room {l : List Int} (h : Right l) {i : Nat} (hi : i < 16) (hp : 0 < ln l i) : preS l (ln l i) i + pw (ln l i) ≤ 32768 := by
  rw [← preS_hit rfl hp hi]
  exact Nat.le_trans (preS_le _ _ _) h.sum
theorem wv_lt {l : List Int} (h : Right l) {i : Nat} (hi : i < 16) (hp : 0 < ln l i) : wv l i < 2 ^ ln l i := by
  have h1 := preS_room h hi hp
  rw [← wv_mul, ← pw_mul (h.one i)] at h1
  have h2 := pw_pos (ln l i)
  have : (wv l i + 1) * pw (ln l i) ≤ 2 ^ ln l i * pw (ln l i) := by rw [Nat.add_mul]; omega
  exact Nat.le_of_mul_le_mul_right this h2
theorem wordB_len (l : List Int) (i : Nat) : (wordB l i).length = ln l i := bt_len _ _
theorem wordB_val {l : List Int} (h : Right l) {i : Nat} (hi : i < 16) (hp : 0 < ln l i) : val (wordB l i) = wv l i := by
  unfold wordB
  rw [val_bt, Nat.mod_eq_of_lt (wv_lt h hi hp)]

theorem pw_split {a b : Nat} (h : a ≤ b) (hb : b ≤ 15) : pw a = 2 ^ (b - a) * pw b := by
  unfold pw
  rw [← Nat.pow_add]
  congr 1; omega
/-- no word begins another -/
theorem word_free {l : List Int} (h : Right l) {i j : Nat} (hi : i < 16) (hj : j < 16) (pi : 0 < ln l i) (pj : 0 < ln l j) (hp : wordB l i <+: wordB l j) : i = j := by
  obtain ⟨t, ht⟩ := hp
  have hl : ln l i + t.length = ln l j := by
    have := congrArg List.length ht
    rw [List.length_append, wordB_len, wordB_len] at this; exact this
  have hv := congrArg val ht
  rw [val_app, wordB_val h hi pi, wordB_val h hj pj] at hv
  have htl := val_lt t
  have hpj := pw_pos (ln l j)
  have hsp := pw_split (show ln l i ≤ ln l j by omega) (h.one j)
  rw [show ln l j - ln l i = t.length from by omega] at hsp
  -- the numbers, in the same room
  have hJ := wv_mul l j
  have hI := wv_mul l i
  rw [← hv, Nat.add_mul, Nat.mul_assoc, ← hsp, hI] at hJ
  have hlt : val t * pw (ln l j) < pw (ln l i) := by rw [hsp]; exact Nat.mul_lt_mul_of_pos_right htl hpj
  by_cases e : i = j
  · exact e
  · exfalso
    by_cases hlex : ln l i < ln l j ∨ (ln l i = ln l j ∧ i < j)
    · have := preS_mono (l := l) (s := ln l i) (i := i + 1) (s' := ln l j) (i' := j) (by omega)
      rw [preS_hit rfl pi hi] at this
      omega
    · have he : ln l j = ln l i := by omega
      have hji : j < i := by omega
      have := preS_mono (l := l) (s := ln l j) (i := j + 1) (s' := ln l i) (i' := i) (by omega)
      rw [preS_hit rfl pj hj] at this
      have hpp := pw_pos (ln l j)
      omega

end Pl
end Go.Proofs.Ytgfkkjcnnecefaa

/- Plain mathematics of chapter 3: building the best code. No program in sight. -/
namespace Go.Proofs.Ytgfkkjcnnecefaa
namespace Pl

/-- a tree: what it weighs, and its signs, the least one first -/
abbrev Tr := Nat × List Nat
def hd (t : Tr) : Nat := t.2.headD 16
def keyLt (a b : Tr) : Bool := decide (a.1 < b.1) || (decide (a.1 = b.1) && decide (hd a < hd b))
theorem keyLt_iff (a b : Tr) : keyLt a b = true ↔ a.1 < b.1 ∨ (a.1 = b.1 ∧ hd a < hd b) := by unfold keyLt; simp
def insT (x : Tr) : List Tr → List Tr
  | [] => [x]
  | y :: l => if keyLt x y = true then x :: y :: l else y :: insT x l
def sortT : List Tr → List Tr
  | [] => []
  | x :: l => insT x (sortT l)
theorem insT_perm (x : Tr) : ∀ l, (insT x l).Perm (x :: l)
  | [] => List.Perm.refl _
  | y :: l => by
    unfold insT
    split
    · exact List.Perm.refl _
    · exact ((insT_perm x l).cons y).trans (List.Perm.swap x y l)
theorem sortT_perm : ∀ l, (sortT l).Perm l
  | [] => List.Perm.refl _
  | x :: l => (insT_perm x _).trans ((sortT_perm l).cons x)
def Srt (l : List Tr) : Prop := l.Pairwise fun a b => keyLt a b = true
/-- no two have the same least sign -/
def KD (l : List Tr) : Prop := l.Pairwise fun a b => hd a ≠ hd b
theorem KD.perm {l l' : List Tr} (h : KD l) (hp : l.Perm l') : KD l' := (hp.pairwise_iff (fun h => Ne.symm h)).1 h
theorem insT_srt (x : Tr) : ∀ l, Srt l → (∀ y ∈ l, hd x ≠ hd y) → Srt (insT x l)
  | [], _, _ => by simp [insT, Srt]
  | y :: l, h, hx => by
    have h := List.pairwise_cons.1 h
    unfold insT
    by_cases e : keyLt x y = true
    · rw [if_pos e]
      refine List.pairwise_cons.2 ⟨fun z hz => ?_, List.pairwise_cons.2 h⟩
      rcases List.mem_cons.1 hz with rfl | hz
      · exact e
      · have h1 := h.1 z hz
        rw [keyLt_iff] at h1 e ⊢
        omega
    · rw [if_neg e]
      refine List.pairwise_cons.2 ⟨fun z hz => ?_, insT_srt x l h.2 fun z hz => hx z (by simp [hz])⟩
      rcases List.mem_cons.1 ((insT_perm x l).mem_iff.1 hz) with rfl | hz
      · have h1 := hx y (by simp)
        rw [keyLt_iff] at e ⊢
        omega
      · exact h.1 z hz
theorem sortT_srt : ∀ l, KD l → Srt (sortT l)
  | [], _ => List.Pairwise.nil
  | x :: l, h => by
    have h := List.pairwise_cons.1 h
    exact insT_srt x _ (sortT_srt l h.2) fun y hy => h.1 y ((sortT_perm l).mem_iff.1 hy)
theorem srt_unique : ∀ (c d : List Tr), Srt c → Srt d → c.Perm d → c = d
  | [], d, _, _, h => (List.nil_perm.1 h).symm
  | x :: c, [], _, _, h => absurd (List.perm_nil.1 h) (by simp)
  | x :: c, y :: d, h1, h2, h => by
    have a1 := List.pairwise_cons.1 h1
    have a2 := List.pairwise_cons.1 h2
    have e : x = y := by
      rcases List.mem_cons.1 (h.mem_iff.1 (by simp : x ∈ x :: c)) with e | hx
      · exact e
      · rcases List.mem_cons.1 (h.mem_iff.2 (by simp : y ∈ y :: d)) with e | hy
        · exact e.symm
        · have b1 := a1.1 y hy
          have b2 := a2.1 x hx
          rw [keyLt_iff] at b1 b2
          omega
    subst e
    rw [srt_unique c d a1.2 a2.2 (List.Perm.cons_inv h)]
theorem sortT_eq {l l' : List Tr} (h : KD l) (hp : l.Perm l') : sortT l = sortT l' :=
  srt_unique _ _ (sortT_srt l h) (sortT_srt l' (h.perm hp)) ((sortT_perm l).trans (hp.trans (sortT_perm l').symm))
theorem sortT_of_srt {l p : List Tr} (h : KD l) (hp : p.Perm l) (hs : Srt p) : sortT l = p :=
  srt_unique _ _ (sortT_srt l h) hs ((sortT_perm l).trans hp.symm)

/-- the signs of two trees -/
def mg (a b : List Nat) : List Nat := (List.range 16).filter fun i => decide (i ∈ a ∨ i ∈ b)
def mgT (a b : Tr) : Tr := (a.1 + b.1, mg a.2 b.2)
theorem mem_mg {a b : List Nat} (ha : ∀ i ∈ a, i < 16) (hb : ∀ i ∈ b, i < 16) (i : Nat) : i ∈ mg a b ↔ i ∈ a ∨ i ∈ b := by
  unfold mg
  rw [List.mem_filter, List.mem_range, decide_eq_true_eq]
  constructor
  · exact fun h => h.2
  · intro h
    refine ⟨?_, h⟩
    rcases h with h | h
    · exact ha i h
    · exact hb i h
theorem asc_unique : ∀ (c d : List Nat), c.Pairwise (· < ·) → d.Pairwise (· < ·) → (∀ i, i ∈ c ↔ i ∈ d) → c = d
  | [], [], _, _, _ => rfl
  | [], y :: d, _, _, h => absurd ((h y).2 (by simp)) (by simp)
  | x :: c, [], _, _, h => absurd ((h x).1 (by simp)) (by simp)
  | x :: c, y :: d, h1, h2, h => by
    have a1 := List.pairwise_cons.1 h1
    have a2 := List.pairwise_cons.1 h2
    have e : x = y := by
      rcases List.mem_cons.1 ((h x).1 (by simp)) with e | hx
      · exact e
      · rcases List.mem_cons.1 ((h y).2 (by simp)) with e | hy
        · exact e.symm
        · have b1 := a1.1 y hy
          have b2 := a2.1 x hx
          omega
    subst e
    congr 1
    refine asc_unique c d a1.2 a2.2 fun i => ?_
    have hi := h i
    simp only [List.mem_cons] at hi
    constructor
    · intro hc
      have hne : i ≠ x := fun e => by have := a1.1 i hc; omega
      exact (hi.1 (.inr hc)).resolve_left hne
    · intro hc
      have hne : i ≠ x := fun e => by have := a2.1 i hc; omega
      exact (hi.2 (.inr hc)).resolve_left hne
theorem mg_asc (a b : List Nat) : (mg a b).Pairwise (· < ·) := List.Pairwise.filter _ List.pairwise_lt_range
structure VT (t : Tr) : Prop where
  ne : t.2 ≠ []
  asc : t.2.Pairwise (· < ·)
  lt : ∀ i ∈ t.2, i < 16
def Dis (a b : Tr) : Prop := ∀ i ∈ a.2, i ∉ b.2
theorem Dis.symm {a b : Tr} (h : Dis a b) : Dis b a := fun i hi hj => h i hj hi
structure Forest (l : List Tr) : Prop where
  vt : ∀ t ∈ l, VT t
  dis : l.Pairwise Dis
theorem Forest.perm {l l' : List Tr} (h : Forest l) (hp : l.Perm l') : Forest l' :=
  ⟨fun t ht => h.vt t (hp.mem_iff.2 ht), (hp.pairwise_iff Dis.symm).1 h.dis⟩
theorem hd_mem {t : Tr} (h : VT t) : hd t ∈ t.2 := by
  unfold hd
  cases e : t.2 with
  | nil => exact absurd e h.ne
  | cons x l => simp
theorem Forest.kd {l : List Tr} (h : Forest l) : KD l := by
  refine List.Pairwise.imp_of_mem ?_ h.dis
  intro a b ha hb hd1 e
  exact hd1 (hd a) (hd_mem (h.vt a ha)) (e ▸ hd_mem (h.vt b hb))
theorem vt_mg {a b : Tr} (ha : VT a) (hb : VT b) : VT (mgT a b) := by
  refine ⟨?_, mg_asc _ _, ?_⟩
  · intro e
    have := (mem_mg ha.lt hb.lt (hd a)).2 (.inl (hd_mem ha))
    rw [show mg a.2 b.2 = [] from e] at this; simp at this
  · intro i hi
    rcases (mem_mg ha.lt hb.lt i).1 hi with h | h
    · exact ha.lt i h
    · exact hb.lt i h
theorem Forest.step {a b : Tr} {r : List Tr} (h : Forest (a :: b :: r)) : Forest (r ++ [mgT a b]) := by
  have va := h.vt a (by simp)
  have vb := h.vt b (by simp)
  have d1 := List.pairwise_cons.1 h.dis
  have d2 := List.pairwise_cons.1 d1.2
  refine ⟨fun t ht => ?_, ?_⟩
  · rcases List.mem_append.1 ht with ht | ht
    · exact h.vt t (by simp [ht])
    · have : t = mgT a b := by simpa using ht
      subst this; exact vt_mg va vb
  · refine List.pairwise_append.2 ⟨d2.2, by simp, fun x hx y hy => ?_⟩
    have : y = mgT a b := by simpa using hy
    subst this
    intro i hi hm
    rcases (mem_mg va.lt vb.lt i).1 hm with e | e
    · exact d1.1 x (by simp [hx]) i e hi
    · exact d2.1 x hx i e hi

/-- how often the tree of a sign is made one with another -/
def build : Nat → List Tr → Nat → Nat
  | 0, _, _ => 0
  | f + 1, l, i => match sortT l with
    | a :: b :: r => (if i ∈ mg a.2 b.2 then 1 else 0) + build f (r ++ [mgT a b]) i
    | _ => 0
def costS : Nat → List Tr → Nat
  | 0, _ => 0
  | f + 1, l => match sortT l with
    | a :: b :: r => a.1 + b.1 + costS f (r ++ [mgT a b])
    | _ => 0
theorem build_perm {f : Nat} {l l' : List Tr} (h : Forest l) (hp : l.Perm l') (i : Nat) : build f l i = build f l' i := by
  cases f with
  | zero => rfl
  | succ f => unfold build; rw [sortT_eq h.kd hp]
theorem build_step {f : Nat} {l r : List Tr} {a b : Tr} (h : sortT l = a :: b :: r) (i : Nat) : build (f + 1) l i = (if i ∈ mg a.2 b.2 then 1 else 0) + build f (r ++ [mgT a b]) i := by
  rw [build, h]
theorem build_short {l : List Tr} (h : l.length ≤ 1) (f i : Nat) : build f l i = 0 := by
  cases f with
  | zero => rfl
  | succ f =>
    rw [build]
    match l, h with
    | [], _ => rfl
    | [x], _ => rfl
theorem costS_short {l : List Tr} (h : l.length ≤ 1) (f : Nat) : costS f l = 0 := by
  cases f with
  | zero => rfl
  | succ f =>
    rw [costS]
    match l, h with
    | [], _ => rfl
    | [x], _ => rfl
theorem sort_two {l : List Tr} (h : 2 ≤ l.length) : ∃ a b r, sortT l = a :: b :: r ∧ (a :: b :: r).Perm l ∧ r.length + 2 = l.length := by
  have hp := sortT_perm l
  match e : sortT l with
  | [] => rw [e] at hp; have := hp.length_eq; simp at this; omega
  | [x] => rw [e] at hp; have := hp.length_eq; simp at this; omega
  | a :: b :: r => rw [e] at hp; exact ⟨a, b, r, rfl, hp, by have := hp.length_eq; simpa using this⟩

theorem pw_half {m : Nat} (h : m + 1 ≤ 15) : pw m = 2 * pw (m + 1) := by
  unfold pw
  rw [show 15 - m = (15 - (m + 1)) + 1 from by omega, Nat.pow_succ]; omega
def krD (d : List (Tr × Nat)) : Nat := (d.map fun x => pw x.2).sum
def coD (d : List (Tr × Nat)) : Nat := (d.map fun x => x.1.1 * x.2).sum
/-- what is built -/
theorem built : ∀ (f : Nat) (l : List Tr), Forest l → 1 ≤ l.length → l.length ≤ f + 1 → l.length ≤ 16 →
    ∃ d : List (Tr × Nat), (d.map Prod.fst).Perm l ∧ (∀ x ∈ d, ∀ i ∈ x.1.2, build f l i = x.2) ∧ (∀ i, (∀ t ∈ l, i ∉ t.2) → build f l i = 0) ∧ krD d = 32768 ∧ (∀ x ∈ d, x.2 + 1 ≤ l.length) ∧ coD d = costS f l
  | f, l, hF, h1, hf, h16 => by
    by_cases h2 : l.length = 1
    · match l, h2 with
      | [t], _ =>
        refine ⟨[(t, 0)], List.Perm.refl _, fun x hx i _ => ?_, fun i _ => build_short (by simp) _ _, by simp [krD]; rfl, fun x hx => ?_, ?_⟩
        · have : x = (t, 0) := by simpa using hx
          subst this; exact build_short (by simp) _ _
        · have : x = (t, 0) := by simpa using hx
          subst this; simp
        · rw [costS_short (by simp)]; simp [coD]
    · obtain ⟨a, b, r, hs, hp, hl⟩ := sort_two (show 2 ≤ l.length by omega)
      obtain ⟨g, rfl⟩ : ∃ g, f = g + 1 := ⟨f - 1, by omega⟩
      have hFp := hF.perm hp.symm
      have va := hFp.vt a (by simp)
      have vb := hFp.vt b (by simp)
      have d1 := List.pairwise_cons.1 hFp.dis
      have d2 := List.pairwise_cons.1 d1.2
      obtain ⟨d, e1, e2, e3, e4, e5, e6⟩ := built g (r ++ [mgT a b]) hFp.step (by simp) (by simp; omega) (by simp; omega)
      have hm : mgT a b ∈ d.map Prod.fst := e1.mem_iff.2 (by simp)
      obtain ⟨x, hx, hxa⟩ := List.mem_map.1 hm
      obtain ⟨s, t, rfl⟩ := List.append_of_mem hx
      have e7 : ((s ++ t).map Prod.fst).Perm r := by
        have h1 : ((s ++ x :: t).map Prod.fst).Perm (mgT a b :: (s ++ t).map Prod.fst) := by
          rw [← hxa]; exact (List.perm_middle (a := x) (l₁ := s) (l₂ := t)).map _
        have h3 : (r ++ [mgT a b]).Perm (mgT a b :: r) := List.perm_append_comm
        exact List.Perm.cons_inv (h1.symm.trans (e1.trans h3))
      have hlen : (r ++ [mgT a b]).length = r.length + 1 := by simp
      have hx5 := e5 x hx
      rw [hlen] at hx5
      refine ⟨(a, x.2 + 1) :: (b, x.2 + 1) :: (s ++ t), ?_, ?_, ?_, ?_, ?_, ?_⟩
      · rw [List.map_cons, List.map_cons]
        exact ((e7.cons b).cons a).trans hp
      · intro y hy i hi
        rw [build_step hs]
        rcases List.mem_cons.1 hy with rfl | hy
        · have hi2 := (mem_mg va.lt vb.lt i).2 (.inl hi)
          rw [if_pos hi2, e2 x hx i (by rw [hxa]; exact hi2)]; simp only; omega
        · rcases List.mem_cons.1 hy with rfl | hy
          · have hi2 := (mem_mg va.lt vb.lt i).2 (.inr hi)
            rw [if_pos hi2, e2 x hx i (by rw [hxa]; exact hi2)]; simp only; omega
          · have hyr : y.1 ∈ r := e7.mem_iff.1 (List.mem_map.2 ⟨y, hy, rfl⟩)
            have hn : i ∉ mg a.2 b.2 := by
              intro h
              rcases (mem_mg va.lt vb.lt i).1 h with h | h
              · exact d1.1 y.1 (by simp [hyr]) i h hi
              · exact d2.1 y.1 hyr i h hi
            have hyd : y ∈ s ++ x :: t := by
              rcases List.mem_append.1 hy with h | h
              · exact List.mem_append.2 (.inl h)
              · exact List.mem_append.2 (.inr (by simp [h]))
            rw [if_neg hn, e2 y hyd i hi]; omega
      · intro i hi
        have ha := hi a (hp.mem_iff.1 (by simp))
        have hb := hi b (hp.mem_iff.1 (by simp))
        have hn : i ∉ mg a.2 b.2 := by
          intro h
          rcases (mem_mg va.lt vb.lt i).1 h with h | h
          · exact ha h
          · exact hb h
        rw [build_step hs, if_neg hn, e3 i fun t ht => ?_]
        rcases List.mem_append.1 ht with ht | ht
        · exact hi t (hp.mem_iff.1 (by simp [ht]))
        · have : t = mgT a b := by simpa using ht
          subst this; exact hn
      · unfold krD at e4 ⊢
        rw [List.map_append, List.map_cons, List.sum_append, List.sum_cons] at e4
        rw [List.map_cons, List.map_cons, List.sum_cons, List.sum_cons, List.map_append, List.sum_append]
        have := pw_half (m := x.2) (by omega)
        simp only at this ⊢; omega
      · intro y hy
        rcases List.mem_cons.1 hy with rfl | hy
        · simp only; omega
        · rcases List.mem_cons.1 hy with rfl | hy
          · simp only; omega
          · have := e5 y (by rcases List.mem_append.1 hy with h | h; exact List.mem_append.2 (.inl h); exact List.mem_append.2 (.inr (by simp [h])))
            rw [hlen] at this; omega
      · unfold coD at e6 ⊢
        rw [List.map_append, List.map_cons, List.sum_append, List.sum_cons] at e6
        rw [List.map_cons, List.map_cons, List.sum_cons, List.sum_cons, List.map_append, List.sum_append, costS, hs]
        have hxw : x.1.1 = a.1 + b.1 := by rw [hxa]; rfl
        rw [hxw] at e6
        simp only [Nat.mul_add, Nat.add_mul, Nat.mul_one] at e6 ⊢
        omega

/-- the least weight, and the greatest length, put in front -/
def front : Nat × Nat → List (Nat × Nat) → (Nat × Nat) × List (Nat × Nat)
  | p, [] => (p, [])
  | p, q :: r => ((front (min p.1 q.1, max p.2 q.2) r).1, (max p.1 q.1, min p.2 q.2) :: (front (min p.1 q.1, max p.2 q.2) r).2)
def krP (d : List (Nat × Nat)) : Nat := (d.map fun x => pw x.2).sum
def coP (d : List (Nat × Nat)) : Nat := (d.map fun x => x.1 * x.2).sum
theorem krP_cons (x : Nat × Nat) (d : List (Nat × Nat)) : krP (x :: d) = pw x.2 + krP d := by simp [krP]
theorem coP_cons (x : Nat × Nat) (d : List (Nat × Nat)) : coP (x :: d) = x.1 * x.2 + coP d := by simp [coP]
theorem swap_cost (a b x y : Nat) : min a b * max x y + max a b * min x y ≤ a * x + b * y := by
  rcases Nat.le_total a b with h | h <;> rcases Nat.le_total x y with k | k
  · rw [Nat.min_eq_left h, Nat.max_eq_right h, Nat.max_eq_right k, Nat.min_eq_left k]
    obtain ⟨u, rfl⟩ := Nat.exists_eq_add_of_le h
    obtain ⟨v, rfl⟩ := Nat.exists_eq_add_of_le k
    simp only [Nat.mul_add, Nat.add_mul]; omega
  · rw [Nat.min_eq_left h, Nat.max_eq_right h, Nat.max_eq_left k, Nat.min_eq_right k]; omega
  · rw [Nat.min_eq_right h, Nat.max_eq_left h, Nat.max_eq_right k, Nat.min_eq_left k]; omega
  · rw [Nat.min_eq_right h, Nat.max_eq_left h, Nat.max_eq_left k, Nat.min_eq_right k]
    obtain ⟨u, rfl⟩ := Nat.exists_eq_add_of_le h
    obtain ⟨v, rfl⟩ := Nat.exists_eq_add_of_le k
    simp only [Nat.mul_add, Nat.add_mul]; omega
theorem minmax_perm (a b : Nat) (l : List Nat) : (min a b :: max a b :: l).Perm (a :: b :: l) := by
  rcases Nat.le_total a b with h | h
  · rw [Nat.min_eq_left h, Nat.max_eq_right h]
  · rw [Nat.min_eq_right h, Nat.max_eq_left h]; exact List.Perm.swap _ _ _
theorem front_spec : ∀ (r : List (Nat × Nat)) (p : Nat × Nat),
    coP ((front p r).1 :: (front p r).2) ≤ coP (p :: r) ∧ krP ((front p r).1 :: (front p r).2) = krP (p :: r) ∧
    (((front p r).1 :: (front p r).2).map Prod.fst).Perm ((p :: r).map Prod.fst) ∧
    ((front p r).1.1 ≤ p.1 ∧ ∀ q ∈ (front p r).2, (front p r).1.1 ≤ q.1) ∧
    (p.2 ≤ (front p r).1.2 ∧ ∀ q ∈ (front p r).2, q.2 ≤ (front p r).1.2) ∧
    (∀ m, (∀ q ∈ p :: r, q.2 ≤ m) → ∀ q ∈ (front p r).1 :: (front p r).2, q.2 ≤ m) ∧ (front p r).2.length = r.length
  | [], p => by
    refine ⟨Nat.le_refl _, rfl, List.Perm.refl _, ⟨Nat.le_refl _, by simp [front]⟩, ⟨Nat.le_refl _, by simp [front]⟩, fun m h => h, rfl⟩
  | q :: r, p => by
    obtain ⟨h1, h2, h3, h4, h5, h6, h7⟩ := front_spec r (min p.1 q.1, max p.2 q.2)
    obtain ⟨t, ht⟩ : ∃ t, t = front (min p.1 q.1, max p.2 q.2) r := ⟨_, rfl⟩
    rw [← ht] at h1 h2 h3 h4 h5 h6 h7
    rw [front, ← ht]
    simp only at h4 h5 ⊢
    rw [coP_cons, coP_cons] at h1
    rw [krP_cons, krP_cons] at h2
    simp only at h1 h2
    have sw := swap_cost p.1 q.1 p.2 q.2
    refine ⟨?_, ?_, ?_, ⟨by omega, ?_⟩, ⟨by omega, ?_⟩, ?_, by simp [h7]⟩
    · rw [coP_cons, coP_cons, coP_cons, coP_cons]; simp only; omega
    · rw [krP_cons, krP_cons, krP_cons, krP_cons]; simp only
      rcases Nat.le_total p.2 q.2 with k | k
      · rw [Nat.max_eq_right k] at h2; rw [Nat.min_eq_left k]; omega
      · rw [Nat.max_eq_left k] at h2; rw [Nat.min_eq_right k]; omega
    · simp only [List.map_cons] at h3 ⊢
      have s1 : (t.1.1 :: max p.1 q.1 :: t.2.map Prod.fst).Perm (max p.1 q.1 :: t.1.1 :: t.2.map Prod.fst) := List.Perm.swap _ _ _
      have s2 := h3.cons (max p.1 q.1)
      have s3 : (max p.1 q.1 :: min p.1 q.1 :: r.map Prod.fst).Perm (min p.1 q.1 :: max p.1 q.1 :: r.map Prod.fst) := List.Perm.swap _ _ _
      exact s1.trans (s2.trans (s3.trans (minmax_perm _ _ _)))
    · intro z hz
      rcases List.mem_cons.1 hz with rfl | hz
      · simp only; omega
      · exact h4.2 z hz
    · intro z hz
      rcases List.mem_cons.1 hz with rfl | hz
      · simp only; omega
      · exact h5.2 z hz
    · intro m hm z hz
      have hp := hm p (by simp)
      have hq := hm q (by simp)
      have h8 := h6 m (fun y hy => by
        rcases List.mem_cons.1 hy with rfl | hy
        · simp only; omega
        · exact hm y (by simp [hy]))
      rcases List.mem_cons.1 hz with rfl | hz
      · exact h8 _ (by simp)
      · rcases List.mem_cons.1 hz with rfl | hz
        · simp only; omega
        · exact h8 z (by simp [hz])
theorem krP_dvd {m : Nat} : ∀ (d : List (Nat × Nat)), (∀ x ∈ d, x.2 ≤ m) → pw m ∣ krP d
  | [], _ => Nat.dvd_zero _
  | x :: d, h => by
    rw [krP_cons]
    exact Nat.dvd_add (pw_dvd (h x (by simp))) (krP_dvd d fun y hy => h y (by simp [hy]))
/-- the first of a sorted row is the least of whatever row has the same numbers -/
theorem least_eq {a a' : Nat} {r r' : List Nat} (h : (a' :: r').Perm (a :: r)) (h1 : ∀ x ∈ r, a ≤ x) (h2 : ∀ x ∈ r', a' ≤ x) : a' = a ∧ r'.Perm r := by
  have e : a' = a := by
    rcases List.mem_cons.1 (h.mem_iff.1 (by simp : a' ∈ a' :: r')) with e | h3
    · exact e
    · rcases List.mem_cons.1 (h.mem_iff.2 (by simp : a ∈ a :: r)) with e | h4
      · exact e.symm
      · have := h1 _ h3; have := h2 _ h4; omega
  subst e
  exact ⟨rfl, List.Perm.cons_inv h⟩
theorem bestCode : ∀ (f : Nat) (l : List Tr), Forest l → l.length ≤ f + 1 → l.length ≤ 16 → ∀ d : List (Nat × Nat), (d.map Prod.fst).Perm (l.map Prod.fst) → krP d ≤ 32768 → (∀ x ∈ d, x.2 ≤ 15) → costS f l ≤ coP d
  | f, l, hF, hf, h16, d, hd, hk, h15 => by
    by_cases h2 : l.length ≤ 1
    · rw [costS_short h2]; omega
    · obtain ⟨a, b, r, hs, hp, hl⟩ := sort_two (show 2 ≤ l.length by omega)
      obtain ⟨g, rfl⟩ : ∃ g, f = g + 1 := ⟨f - 1, by omega⟩
      have hFp := hF.perm hp.symm
      have hsr : Srt (a :: b :: r) := hs ▸ sortT_srt l hF.kd
      have s1 := List.pairwise_cons.1 hsr
      have s2 := List.pairwise_cons.1 s1.2
      have l1 : ∀ x ∈ b.1 :: r.map Prod.fst, a.1 ≤ x := by
        intro x hx
        rw [← List.map_cons (f := Prod.fst)] at hx
        obtain ⟨y, hy, rfl⟩ := List.mem_map.1 hx
        have := (keyLt_iff _ _).1 (s1.1 y hy); omega
      have l2 : ∀ x ∈ r.map Prod.fst, b.1 ≤ x := by
        intro x hx
        obtain ⟨y, hy, rfl⟩ := List.mem_map.1 hx
        have := (keyLt_iff _ _).1 (s2.1 y hy); omega
      have hd2 : (d.map Prod.fst).Perm (a.1 :: b.1 :: r.map Prod.fst) := hd.trans (hp.map Prod.fst).symm
      have hdl : d.length = r.length + 2 := by have := hd2.length_eq; simpa using this
      match d, hdl, hd2, hk, h15 with
      | p :: q :: rest, hdl, hd2, hk, h15 =>
        obtain ⟨c1, k1, p1, m1, x1, b1, n1⟩ := front_spec (q :: rest) p
        obtain ⟨u, hu⟩ : ∃ u, u = front p (q :: rest) := ⟨_, rfl⟩
        rw [← hu] at c1 k1 p1 m1 x1 b1 n1
        obtain ⟨⟨ua, uL⟩, uR⟩ := u
        simp only at c1 k1 p1 m1 x1 b1 n1
        match uR, n1, c1, k1, p1, m1, x1, b1 with
        | q2 :: rest2, n1, c1, k1, p1, m1, x1, b1 =>
          obtain ⟨c2, k2, p2, m2, x2, b2, n2⟩ := front_spec rest2 q2
          obtain ⟨v, hv⟩ : ∃ v, v = front q2 rest2 := ⟨_, rfl⟩
          rw [← hv] at c2 k2 p2 m2 x2 b2 n2
          obtain ⟨⟨vb, vL⟩, vR⟩ := v
          simp only at c2 k2 p2 m2 x2 b2 n2
          -- the weights are the least ones
          have hpu := (p1.trans hd2)
          simp only [List.map_cons] at hpu
          obtain ⟨eua, hpr⟩ := least_eq hpu l1 (by
            intro x hx
            rw [← List.map_cons (f := Prod.fst)] at hx
            obtain ⟨y, hy, rfl⟩ := List.mem_map.1 hx
            exact m1.2 y hy)
          have hpv := p2.trans (by simpa using hpr)
          simp only [List.map_cons] at hpv
          obtain ⟨evb, hpr2⟩ := least_eq hpv l2 (by
            intro x hx
            obtain ⟨y, hy, rfl⟩ := List.mem_map.1 hx
            exact m2.2 y hy)
          subst eua; subst evb
          -- the room
          have hb15 := b1 15 h15
          have hvL : vL ≤ uL := b2 uL x1.2 (b.1, vL) (by simp)
          have huL : uL ≤ 15 := hb15 (a.1, uL) (by simp)
          rw [krP_cons] at k1
          rw [krP_cons] at k2
          simp only at k1 k2
          have hpu1 := pw_pos uL
          have hdv : pw vL ∣ pw vL + krP vR := Nat.dvd_add (Nat.dvd_refl _) (krP_dvd vR fun z hz => x2.2 z hz)
          have hd15 : pw vL ∣ 32768 := by
            have := pw_dvd (a := 0) (b := vL) (by omega)
            exact this
          have hroom : pw vL + (pw vL + krP vR) ≤ 32768 := by
            obtain ⟨m, hm⟩ := hdv
            obtain ⟨n, hn⟩ := hd15
            have hlt : pw vL * m < pw vL * n := by omega
            have hmn : m < n := Nat.lt_of_mul_lt_mul_left hlt
            have : pw vL * (m + 1) ≤ pw vL * n := Nat.mul_le_mul_left _ hmn
            rw [Nat.mul_add] at this; omega
          have hv1 : 1 ≤ vL := by
            rcases Nat.eq_zero_or_pos vL with e | e
            · subst e
              have : pw 0 = 32768 := rfl
              omega
            · exact e
          have hpw := pw_half (m := vL - 1) (by omega)
          rw [show vL - 1 + 1 = vL from by omega] at hpw
          have hdn : (((a.1 + b.1, vL - 1) :: vR).map Prod.fst).Perm ((r ++ [mgT a b]).map Prod.fst) := by
            rw [List.map_append, List.map_cons, List.map_cons, List.map_nil]
            have h3 : (r.map Prod.fst ++ [(mgT a b).1]).Perm ((mgT a b).1 :: r.map Prod.fst) := List.perm_append_comm
            exact (hpr2.cons _).trans h3.symm
          have ih := bestCode g (r ++ [mgT a b]) hFp.step (by simp; omega) (by simp; omega) _ hdn (by rw [krP_cons]; simp only; omega) (by
            intro z hz
            rcases List.mem_cons.1 hz with rfl | hz
            · simp only; omega
            · have := x2.2 z hz; omega)
          rw [costS, hs]
          rw [coP_cons] at ih c1 c2
          simp only at ih c1 c2 ⊢
          have hle : a.1 * vL ≤ a.1 * uL := Nat.mul_le_mul_left _ hvL
          have e1 : (a.1 + b.1) * vL = a.1 + b.1 + (a.1 + b.1) * (vL - 1) := by
            conv => lhs; rw [show vL = (vL - 1) + 1 from by omega]
            rw [Nat.mul_add]; omega
          rw [Nat.add_mul] at e1
          omega

end Pl
end Go.Proofs.Ytgfkkjcnnecefaa
