/- The law TrainTrue: true for every input. -/
import Derived.Test.YtgfkkjcnnecefaaTrainLaws
namespace Go.Proofs.Ytgfkkjcnnecefaa
open Go.RowKit Go.Lib Pl
attribute [local go_sem] ext_list app_list

/-- choose: some number below n -/
theorem choose_any (c : Int) (n : Nat) (w : World) (h1 : -9223372036854775808 ≤ c) (h2 : c ≤ 9223372036854775807) (h0 : 0 < n) (hn : n ≤ 1000000000) :
    Calls Try.prog 41 #[I c, I n] w fun e w' => (∃ r : Nat, r < n ∧ e = .returned (.int .i64 r)) ∧ w = w' := by
  have hn0 : (0 : Int) < (n : Int) := by omega
  have hnz : ((n : Int) == 0) = false := by rw [beq_eq_false_iff_ne]; omega
  by_cases hc : c < 0
  · have e1 : IntKind.i64.wrap (c + 1) = c + 1 := IntWalk.i64_in _ ⟨by omega, by omega⟩
    have e2 : IntKind.i64.wrap (-(c + 1)) = -(c + 1) := IntWalk.i64_in _ ⟨by omega, by omega⟩
    have e3 : 0 ≤ -(c + 1) := by omega
    go_enter Try.func41, Try.ntmps41
    go_wp2_with fail
    go_ret
    refine ⟨⟨((-(c + 1)) % (n : Int)).toNat, ?_, ?_⟩, rfl⟩
    · have := Int.emod_lt_of_pos (-(c + 1)) hn0
      have := Int.emod_nonneg (-(c + 1)) (show (n : Int) ≠ 0 by omega)
      omega
    · have := Int.emod_nonneg (-(c + 1)) (show (n : Int) ≠ 0 by omega)
      rw [Int.toNat_of_nonneg this]
      have h : -((c + 1).tmod (n : Int)) = (-(c + 1)) % (n : Int) := by rw [← Int.neg_tmod, Int.tmod_eq_emod_of_nonneg e3]
      rw [← h]
      rfl
  · have e3 : 0 ≤ c := by omega
    go_enter Try.func41, Try.ntmps41
    go_wp2_with fail
    go_ret
    refine ⟨⟨(c % (n : Int)).toNat, ?_, ?_⟩, rfl⟩
    · have := Int.emod_lt_of_pos c hn0
      have := Int.emod_nonneg c (show (n : Int) ≠ 0 by omega)
      omega
    · have := Int.emod_nonneg c (show (n : Int) ≠ 0 by omega)
      rw [Int.toNat_of_nonneg this]
      rfl

theorem train_chunks {l : List Bytes} {size : Nat} (hc : ∃ c, Cands l c) (hs : size ≤ 256) :
    ∃ es : List Bytes, trainOf l size = chunks es ∧ (∀ p ∈ es, p.length = 4 ∧ 2 ≤ cnt l p) ∧ es.Nodup ∧ (chunks es).length = 4 * es.length ∧ (chunks es).length ≤ size := by
  obtain ⟨c, hc⟩ := hc
  have h4 : ∀ p ∈ c, p.length = 4 := fun p hp => allPieces_len ((hc.mem p).1 hp).1
  obtain ⟨es, a, b, d, e, g⟩ := greedy_chunks (size := size) c [] h4 (by simp) List.nodup_nil (by simp [chunks])
  refine ⟨es, by rw [trainOf_eq hc hs]; exact a, fun p hp => ⟨b p hp, ?_⟩, d, chunks_len es b, e⟩
  rcases g p hp with h | h
  · simp at h
  · exact ((hc.mem p).1 h).2

set_option maxHeartbeats 4000000 in
set_option maxRecDepth 100000 in
theorem trainTrue_any (A : Option Addr) (n cap : Nat) (l : List Bytes) (size i k : Int) (w : World) (hm : MaxLenIs w) (hl : StrsAt w w.heap.size A n l) (hn : n ≤ 4611686018427387904) (hs : ∀ t ∈ l, t.length ≤ 9223372036854775807)
    (hi1 : -9223372036854775808 ≤ i) (hi2 : i ≤ 9223372036854775807) (hk1 : -9223372036854775808 ≤ k) (hk2 : k ≤ 9223372036854775807) :
    Calls Try.prog 10 #[.slice A n cap, I size, I i, I k] w fun e w' => e = .returned (.bool true) ∧ Below w.heap.size w w' := by
  have c2 := train_any A n cap l size w hm hl hn hs
  have C6 := hide (fun (W : World) (hb : Below w.heap.size w W) => trainBegun_any W (hm.up hb))
  by_cases he : trainE l size = 0
  · have hb : manyB l = false := by
      cases hb : manyB l with
      | false => rfl
      | true => unfold trainE at he; rw [if_pos hb] at he; omega
    have hz : ¬ (size < 0 ∨ 256 < size) := by
      intro hz
      unfold trainE at he
      rw [hb, if_neg (by simp), if_pos hz] at he; omega
    obtain ⟨q, rfl⟩ := Int.eq_ofNat_of_zero_le (show 0 ≤ size by omega)
    have hq : q ≤ 256 := by omega
    have e3 : trainD l (q : Int) = trainOf l q := by unfold trainD; rw [hb, if_neg (by simp), if_neg hz]; rfl
    rw [e3, he] at c2
    have C1 := hide (fun (W : World) (hW : Below w.heap.size w W) (p : Bytes) (hp : p.length = 4 ∧ 2 ≤ cnt l p) => by
      have h := count_any A n cap l p W (hm.up hW) (hl.up hW) hn hs
      have e1 : countN l p = cnt l p := by unfold countN; rw [hb, if_neg (by simp), if_pos hp.1]
      have e2 : countE l p = 0 := by unfold countE; rw [hb, if_neg (by simp), if_pos hp.1]
      rw [e1, e2] at h; exact h)
    have hc12 : ∀ p, cnt l p ≤ 12 := fun p => Nat.le_trans (cnt_le l p) (manyB_no hb).1
    have HC12 := hide hc12
    have C2 := hide c2
    clear c2 e3 he hz hb hs hc12
    go_enter Try.func10, Try.ntmps10
    go_wp2_with fail
    refine (unhide C2).mono ?_
    rintro e w2 ⟨rfl, hb2, hca⟩
    obtain ⟨es, hes, hpe, hnd, hlen, hle⟩ := train_chunks (hca (by first | trivial | rfl)) hq
    obtain ⟨d, hd⟩ : ∃ d, d = trainOf l q := ⟨_, rfl⟩
    obtain ⟨m, hmm⟩ : ∃ m, m = es.length := ⟨_, rfl⟩
    rw [← hd]
    rw [← hd] at hes
    rw [← hes] at hlen hle
    rw [← hmm] at hlen
    have r1 : (d.length : Int) % 4 = 0 := by omega
    have r2 : (d.length : Int) / 4 = (m : Int) := by omega
    have r3 : decide ((d.length : Int) > (q : Int)) = false := by simp; omega
    have r4 : decide (q < d.length) = false := by simp; omega
    have r5 : d.length = 4 * m := hlen
    have HES := hide hes
    have HPE := hide hpe
    have HND := hide hnd
    have HMM := hide hmm
    have HLEN := hide r5
    have hm64 : m ≤ 64 := by omega
    have hd256 : d.length ≤ 256 := by omega
    clear hes hpe hnd hmm hlen hle hd hca r5
    by_cases hm0 : m = 0
    · have hd0 : d = [] := List.eq_nil_of_length_eq_zero (by have := unhide HLEN; omega)
      subst hd0
      clear r1 r2 r3 r4 hd256 hm0
      go_wp2_with fail
      refine (unhide C6 _ hb2).mono ?_
      rintro e w4 ⟨rfl, hb4⟩
      go_wp2_with fail
      go_ret
      exact ⟨rfl, hb2.trans (hb4.mono hb2.size)⟩
    · have hne : d ≠ [] := by intro e; have := unhide HLEN; rw [e] at this; simp at this; omega
      have f1 : d.isEmpty = false := by simpa using hne
      have f2 : (d == []) = false := by simpa using hne
      have CH1 := hide (fun (W : World) => choose_any i m W hi1 hi2 (by omega) (by omega))
      have CH2 := hide (fun (W : World) => choose_any k m W hk1 hk2 (by omega) (by omega))
      clear hne
      go_wp2_with fail
      refine (unhide CH1 _).mono ?_
      rintro e w3 ⟨⟨x, hx, rfl⟩, rfl⟩
      go_wp2_with fail
      refine (unhide CH2 _).mono ?_
      rintro e w3 ⟨⟨y, hy, rfl⟩, rfl⟩
      have hdl := unhide HLEN
      have s1 : IntKind.i64.wrap (4 * (x : Int)) = 4 * (x : Int) := IntWalk.i64_in _ ⟨by omega, by omega⟩
      have s2 : IntKind.i64.wrap (4 * (x : Int) + 4) = 4 * (x : Int) + 4 := IntWalk.i64_in _ ⟨by omega, by omega⟩
      have s3 : IntKind.i64.wrap (4 * (y : Int)) = 4 * (y : Int) := IntWalk.i64_in _ ⟨by omega, by omega⟩
      have s4 : IntKind.i64.wrap (4 * (y : Int) + 4) = 4 * (y : Int) + 4 := IntWalk.i64_in _ ⟨by omega, by omega⟩
      have t1 : (4 * (x : Int)).toNat = 4 * x := by omega
      have t2 : (4 * (x : Int) + 4).toNat = 4 * x + 4 := by omega
      have t3 : (4 * (y : Int)).toNat = 4 * y := by omega
      have t4 : (4 * (y : Int) + 4).toNat = 4 * y + 4 := by omega
      have v1 : (0 : Int) ≤ 4 * (x : Int) := by omega
      have v2 : (4 * (x : Int)) ≤ 4 * (x : Int) + 4 := by omega
      have v3 : (4 * (x : Int) + 4) ≤ (d.length : Int) := by omega
      have v4 : (0 : Int) ≤ 4 * (y : Int) := by omega
      have v5 : (4 * (y : Int)) ≤ 4 * (y : Int) + 4 := by omega
      have v6 : (4 * (y : Int) + 4) ≤ (d.length : Int) := by omega
      have hgx : slice d (4 * x) (4 * x + 4) = es.getD x [] := by rw [unhide HES]; exact chunks_get es x (fun p hp => (unhide HPE p hp).1) (by rw [← unhide HMM]; exact hx)
      have hgy : slice d (4 * y) (4 * y + 4) = es.getD y [] := by rw [unhide HES]; exact chunks_get es y (fun p hp => (unhide HPE p hp).1) (by rw [← unhide HMM]; exact hy)
      obtain ⟨px, hpx⟩ : ∃ p, p = es.getD x [] := ⟨_, rfl⟩
      obtain ⟨py, hpy⟩ : ∃ p, p = es.getD y [] := ⟨_, rfl⟩
      rw [← hpx] at hgx
      rw [← hpy] at hgy
      have hmx : px ∈ es := by
        rw [hpx, List.getD_eq_getElem?_getD, List.getElem?_eq_getElem (by rw [← unhide HMM]; exact hx)]
        exact List.getElem_mem _
      have hcx := unhide HPE px hmx
      have hcc := unhide HC12 px
      obtain ⟨c, hc⟩ : ∃ c, c = cnt l px := ⟨_, rfl⟩
      have C1 := fun (W : World) (hW : Below w.heap.size w W) => unhide C1 W hW px hcx
      have hc2 := hcx.2
      rw [← hc] at C1 hc2 hcc
      have C1 := hide C1
      have hxy : x ≠ y → px ≠ py := by
        intro hne e
        apply hne
        have hx' : x < es.length := by rw [← unhide HMM]; exact hx
        have hy' : y < es.length := by rw [← unhide HMM]; exact hy
        rw [hpx, hpy, List.getD_eq_getElem?_getD, List.getD_eq_getElem?_getD, List.getElem?_eq_getElem hx', List.getElem?_eq_getElem hy'] at e
        have hn := List.pairwise_iff_getElem.1 (List.nodup_iff_pairwise_ne.1 (unhide HND))
        simp only [Option.getD_some] at e
        rcases Nat.lt_trichotomy x y with h | h | h
        · exact absurd e (hn x y hx' hy' h)
        · exact h
        · exact absurd e.symm (hn y x hy' hx' h)
      have HXY := hide hxy
      have u1 : decide ((c : Int) ≥ 2) = true := by simp; omega
      have hc1 : (2 : Int) ≤ (c : Int) := by omega
      clear hpx hpy hmx hcx hc hxy hdl
      go_wp2_with fail
      go_quiet (fail)
      clear s1 s2 s3 s4
      by_cases hxe : x = y
      · subst hxe
        go_wp2_with fail
        refine (unhide C1 _ (below_drewN hb2 _)).mono ?_
        rintro e w4 ⟨rfl, rfl⟩
        go_wp2_with fail
        refine (unhide C6 _ (below_drewN hb2 _)).mono ?_
        rintro e w4 ⟨rfl, hb4⟩
        go_wp2_with fail
        go_ret
        exact ⟨rfl, (below_drewN hb2 _).trans (hb4.mono hb2.size)⟩
      · have hpq := unhide HXY hxe
        have j1 : ((x : Int) == (y : Int)) = false := by rw [beq_eq_false_iff_ne]; omega
        have j2 : (x == y) = false := by rw [beq_eq_false_iff_ne]; exact hxe
        have j3 : (px == py) = false := by rw [beq_eq_false_iff_ne]; exact hpq
        have j4 : (px != py) = true := by rw [bne_iff_ne]; exact hpq
        clear hpq hxe
        go_wp2_with fail
        refine (unhide C1 _ (below_drewN hb2 _)).mono ?_
        rintro e w4 ⟨rfl, rfl⟩
        go_wp2_with fail
        refine (unhide C6 _ (below_drewN hb2 _)).mono ?_
        rintro e w4 ⟨rfl, hb4⟩
        go_wp2_with fail
        go_ret
        exact ⟨rfl, (below_drewN hb2 _).trans (hb4.mono hb2.size)⟩
  · obtain ⟨er, her⟩ : ∃ er, er = trainE l size := ⟨_, rfl⟩
    rw [← her] at he
    rw [← her] at c2
    have C2 := hide c2
    have q1 : ((er : Int) == 0) = false := by rw [beq_eq_false_iff_ne]; omega
    have q2 : ((er : Int) != 0) = true := by rw [bne_iff_ne]; omega
    clear her he c2
    go_enter Try.func10, Try.ntmps10
    go_wp2_with fail
    refine (unhide C2).mono ?_
    rintro e w2 ⟨rfl, hb2, _⟩
    go_wp2_with fail
    refine (unhide C6 _ hb2).mono ?_
    rintro e w4 ⟨rfl, hb4⟩
    go_wp2_with fail
    go_ret
    exact ⟨rfl, hb2.trans (hb4.mono hb2.size)⟩

end Go.Proofs.Ytgfkkjcnnecefaa
