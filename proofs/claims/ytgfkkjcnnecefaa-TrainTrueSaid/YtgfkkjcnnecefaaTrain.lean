/- The walk of train.Train. -/
import Derived.Test.YtgfkkjcnnecefaaSortPiece
namespace Go.Proofs.Ytgfkkjcnnecefaa
open Go.RowKit Go.Lib Pl
attribute [local go_sem] ext_list app_list

theorem PcAt.up {w w' : World} {A : Option Addr} {n : Nat} {o : List (Bytes × Nat)} (h : PcAt w A n o) (hb : Below w.heap.size w w') : PcAt w' A n o :=
  ⟨h.1, fun hn => by
    obtain ⟨b, off, e, hlt, hc⟩ := h.2 hn
    exact ⟨b, off, e, Nat.lt_of_lt_of_le hlt hb.size, fun i x hx => by
      obtain ⟨a, b⟩ := hc i x hx
      exact ⟨(hb.cell (p := ⟨_, _, none⟩) hlt).trans a, (hb.cell (p := ⟨_, _, none⟩) hlt).trans b⟩⟩⟩
theorem PcAt.at_ {w : World} {A : Option Addr} {n k : Nat} {o : List (Bytes × Nat)} (h : PcAt w A n o) (hk : k < n) : ∃ b off x, A = some ⟨b, off, none⟩ ∧ b < w.heap.size ∧ o[k]? = some x ∧ w.cell? ⟨b, off + k * 2, none⟩ = some (S x.1) ∧ w.cell? ⟨b, off + k * 2 + 1, none⟩ = some (I x.2) := by
  obtain ⟨b, off, e, hb, hc⟩ := h.2 (by omega)
  have hl : k < o.length := by have := h.1; omega
  exact ⟨b, off, o[k], e, hb, List.getElem?_eq_getElem hl, hc k _ (List.getElem?_eq_getElem hl)⟩

/-- E2 -/
def trainOf (l : List Bytes) (size : Nat) : Bytes := trainR l size 64 []
def trainE (l : List Bytes) (size : Int) : Nat := if manyB l = true then 2 else if size < 0 ∨ 256 < size then 3 else 0
def trainD (l : List Bytes) (size : Int) : Bytes := if manyB l = true then [] else if size < 0 ∨ 256 < size then [] else trainOf l size.toNat
theorem trainOf_eq {l c : List Bytes} {size : Nat} (hc : Cands l c) (hs : size ≤ 256) : trainOf l size = greedy size [] c := trainR_eq hc (by omega)

theorem drop_cons' {α : Type} {l : List α} {k : Nat} {t : α} (h : l[k]? = some t) : l.drop k = t :: l.drop (k + 1) := by
  have hk : k < l.length := (List.getElem?_eq_some_iff.1 h).1
  rw [List.drop_eq_getElem_cons hk]
  congr 1
  rw [List.getElem?_eq_getElem hk] at h
  injection h

set_option maxHeartbeats 4000000 in
set_option maxRecDepth 100000 in
theorem train_ok (A : Option Addr) (n cap : Nat) (l : List Bytes) (size : Nat) (w : World) (hm : MaxLenIs w) (hl : StrsAt w w.heap.size A n l) (hb : manyB l = false) (hs : ∀ t ∈ l, t.length ≤ 9223372036854775807) (hsz : size ≤ 256) :
    Calls Try.prog 36 #[.slice A n cap, I size] w fun e w' => e = .returned (.tuple #[S (trainOf l size), I 0]) ∧ Below w.heap.size w w' ∧ ∃ c, Cands l c := by
  obtain ⟨h12, hs2⟩ := manyB_no hb
  have hn12 : n ≤ 12 := by have := hl.1; omega
  have C0 := many_any A n cap l w hl (by omega) hs
  rw [hb] at C0
  have C0 := hide C0
  have C1 := hide (pieces_any sortSpec A n cap l w hl hn12 hs2)
  have HM := hide hm
  clear hb hs hs2 hm
  go_enter Try.func36, Try.ntmps36
  go_wp2_with fail
  refine (unhide C0).mono ?_
  rintro e w1 ⟨rfl, rfl⟩
  go_wp2_with fail
  refine (unhide C1).mono ?_
  rintro e w1 ⟨⟨A1, n1, cap1, c, rfl, hc, hat, hn1b⟩, hb1⟩
  have HC := hide hc
  have HAT := hide hat
  have hc4 : ∀ p ∈ c, p.length = 4 := fun p hp => allPieces_len ((hc.mem p).1 hp).1
  have hcn : ∀ p, cnt l p ≤ 12 := fun p => Nat.le_trans (cnt_le l p) h12
  have HC4 := hide hc4
  have HCN := hide hcn
  have hn1 : c.length = n1 := by have := hat.1; simpa using this
  have HN1 := hide hn1
  clear hc hat hc4 hn1 hcn
  go_wp2_with fail
  go_loopw [6, 20] (fun d i wr => ∃ (k : Nat) (dict : Bytes), k ≤ n1 ∧ i = .int .i64 k ∧ d = S dict ∧ greedy size dict (c.drop k) = greedy size [] c ∧ dict.length ≤ size ∧ Below w1.heap.size w1 wr) (fun _ i _ => n1 - (intOf i).toNat)
  case atStart => exact ⟨0, [], Nat.zero_le _, rfl, rfl, by simp, by simp, Below.refl _ _⟩
  case round =>
    obtain ⟨k, dict, hk, rfl, rfl, hg, hdl, hbel⟩ := hrel
    have HG := hide hg
    clear hg
    have hml := hide (((unhide HM).up hb1).up hbel)
    by_cases hkn : k < n1
    · obtain ⟨b, off, x, rfl, hb, hx, q0, q1⟩ := ((unhide HAT).up hbel).at_ hkn
      have hck : c[k]? = some x.1 ∧ x.2 = cnt l x.1 := by
        rw [List.getElem?_map] at hx
        cases hck : c[k]? with
        | none => rw [hck] at hx; simp at hx
        | some p => rw [hck] at hx; simp at hx; subst hx; exact ⟨rfl, rfl⟩
      obtain ⟨p, m⟩ := x
      simp only at hck q0 q1
      obtain ⟨hck, hmc⟩ := hck
      have hp4 := unhide HC4 p (List.mem_of_getElem? hck)
      have hm12 : m ≤ 12 := by rw [hmc]; exact unhide HCN p
      have hdr := drop_cons' hck
      have HDR := hide hdr
      have HP4 := hide hp4
      clear hx hck hmc hdr hp4
      by_cases hz : size < dict.length + 4
      · have z1 : decide ((dict.length : Int) + 4 > (size : Int)) = true := by simp; omega
        have hres : trainOf l size = dict := by
          rw [trainOf_eq (unhide HC) hsz, ← unhide HG, unhide HDR, greedy, if_pos hz]
        have HRES := hide hres
        clear hres hz
        go_wp2_with fail
        go_ret2
        exact ⟨by rw [unhide HRES]; rfl, hb1.trans ((hbel.mono hb1.size).alloc (by have := hb1.size; have := hbel.size; omega) _), c, unhide HC⟩
      · have z1 : decide ((dict.length : Int) + 4 > (size : Int)) = false := by simp; omega
        have K1 := fun (W : World) (h : MaxLenIs W) => contains_any dict p W h (by omega)
        cases hst : stands p dict with
        | true =>
          rw [hst] at K1
          have K1 := hide K1
          have HST := hide hst
          clear hst
          go_wp2_with fail
          refine (unhide K1 _ ((unhide hml).up ((Below.refl _ _).alloc (Nat.le_refl _) _))).mono ?_
          rintro e w2 ⟨rfl, rfl⟩
          go_wp2_with fail
          go_roundw
          case rel =>
            refine ⟨k + 1, dict, by omega, by go_num, rfl, ?_, hdl, hbel.alloc hbel.size _⟩
            rw [← unhide HG, unhide HDR, greedy, if_neg hz, if_pos (unhide HST)]
          case measure => simp [intOf]; omega
        | false =>
          rw [hst] at K1
          have K1 := hide K1
          have HST := hide hst
          clear hst
          go_wp2_with fail
          refine (unhide K1 _ ((unhide hml).up ((Below.refl _ _).alloc (Nat.le_refl _) _))).mono ?_
          rintro e w2 ⟨rfl, rfl⟩
          have hpl : p.length ≤ 4 := by have := unhide HP4; omega
          go_wp2_with fail
          go_roundw
          case rel =>
            refine ⟨k + 1, p ++ dict, by omega, by go_num, rfl, ?_, by have := unhide HP4; rw [List.length_append]; omega, hbel.alloc hbel.size _⟩
            rw [← unhide HG, unhide HDR, greedy, if_neg hz, if_neg (by rw [unhide HST]; simp)]
          case measure => simp [intOf]; omega
    · have hres : trainOf l size = dict := by
        rw [trainOf_eq (unhide HC) hsz, ← unhide HG, List.drop_of_length_le (by have := unhide HN1; omega)]; rfl
      have HRES := hide hres
      have hk2 : decide ((k : Int) < (n1 : Int)) = false := by simp; omega
      clear hres
      go_wp2_with fail
      go_ret2
      exact ⟨by rw [unhide HRES]; rfl, hb1.trans (hbel.mono hb1.size), c, unhide HC⟩

set_option maxHeartbeats 1000000 in
set_option maxRecDepth 100000 in
theorem train_any (A : Option Addr) (n cap : Nat) (l : List Bytes) (size : Int) (w : World) (hm : MaxLenIs w) (hl : StrsAt w w.heap.size A n l) (hn : n ≤ 4611686018427387904) (hs : ∀ t ∈ l, t.length ≤ 9223372036854775807) :
    Calls Try.prog 36 #[.slice A n cap, I size] w fun e w' => e = .returned (.tuple #[S (trainD l size), I (trainE l size)]) ∧ Below w.heap.size w w' ∧ (trainE l size = 0 → ∃ c, Cands l c) := by
  have C0 := many_any A n cap l w hl hn hs
  by_cases h : manyB l = true
  · have e1 : trainE l size = 2 := by unfold trainE; rw [if_pos h]
    have e2 : trainD l size = [] := by unfold trainD; rw [if_pos h]
    rw [e1, e2]
    rw [h] at C0
    have C0 := hide C0
    clear e1 e2 h
    go_enter Try.func36, Try.ntmps36
    go_wp2_with fail
    refine (unhide C0).mono ?_
    rintro e w1 ⟨rfl, rfl⟩
    go_wp2_with fail
    go_ret2
    exact ⟨rfl, Below.refl _ _, fun h => by omega⟩
  · have h : manyB l = false := by simpa using h
    by_cases hz : size < 0 ∨ 256 < size
    · have e1 : trainE l size = 3 := by unfold trainE; rw [h, if_neg (by simp), if_pos hz]
      have e2 : trainD l size = [] := by unfold trainD; rw [h, if_neg (by simp), if_pos hz]
      rw [e1, e2]
      rw [h] at C0
      have C0 := hide C0
      clear e1 e2 h
      by_cases h0 : size < 0
      · clear hz
        go_enter Try.func36, Try.ntmps36
        go_wp2_with fail
        refine (unhide C0).mono ?_
        rintro e w1 ⟨rfl, rfl⟩
        go_wp2_with fail
        go_ret2
        exact ⟨rfl, Below.refl _ _, fun h => by omega⟩
      · have h1 : 256 < size := by omega
        have h2 : 0 ≤ size := by omega
        have e4 : decide (size < 0) = false := by simp; omega
        clear hz h0
        go_enter Try.func36, Try.ntmps36
        go_wp2_with fail
        refine (unhide C0).mono ?_
        rintro e w1 ⟨rfl, rfl⟩
        go_wp2_with fail
        go_ret2
        exact ⟨rfl, Below.refl _ _, fun h => by omega⟩
    · have e1 : trainE l size = 0 := by unfold trainE; rw [h, if_neg (by simp), if_neg hz]
      have e2 : trainD l size = trainOf l size.toNat := by unfold trainD; rw [h, if_neg (by simp), if_neg hz]
      obtain ⟨q, rfl⟩ := Int.eq_ofNat_of_zero_le (show 0 ≤ size by omega)
      rw [e1, e2, Int.toNat_natCast]
      exact (train_ok A n cap l q w hm hl h hs (by omega)).mono fun e w' ⟨h1, h2, h3⟩ => ⟨h1, h2, fun _ => h3⟩

end Go.Proofs.Ytgfkkjcnnecefaa
