/- CodeWrites: for every input the law returns true, and the input reads as it did. No condition. -/
import Derived.Test.YtgfkkjcnnecefaaCwG7
import Derived.Laws.StructEq
import Derived.Deep.RegionHeld3
import Derived.Deep.MidRow
import Derived.Deep.Slices
import Derived.Deep.Fields
import Derived.ChangeSame
import Derived.Carry
import Derived.OpenVars
import Derived.WideKeyArr2

/- The walk of the program's words. -/
namespace Go.Proofs.Ytgfkkjcnnecefaa
open Go.RowKit Go.Lib Pl

theorem add_wrap {a b : Nat} (ha : a ≤ 32768) (hb : b ≤ 32768) : wrap64 ((a : Int) + (b : Int)) = ((a + b : Nat) : Int) := IntWalk.wrap64_in _ ⟨by omega, by omega⟩
/-- the words of the first so many signs are laid -/
structure WordsAt (l : List Int) (w wr : World) (B D : Nat) (f : Nat → Nat × Nat) : Prop where
  a : wr.heap[B]? = some (.cells (cells16 l) 64 (0, 0))
  z : wr.heap[B + 1]? = some (.cells (cellsP fun _ => (0, 0)) 123 (0, 0))
  o : wr.heap[D]? = some (.cells (cellsP f) 123 (0, 0))
  bel : Below B w wr

theorem WordsAt.put {l : List Int} {w wr : World} {B D i a b : Nat} {f : Nat → Nat × Nat} (h : WordsAt l w wr B D f) (hBD : B + 2 ≤ D) (hi : i < 16) :
    WordsAt l w ((wr.setCell ⟨D, i * 2, none⟩ (.int .i64 (a : Int))).setCell ⟨D, i * 2 + 1, none⟩ (.int .i64 (b : Int))).drew B D (fun j => if j = i then (a, b) else f j) := by
  refine ⟨?_, ?_, ?_, ?_⟩
  · show ((wr.setCell _ _).setCell _ _).heap[B]? = _
    rw [heap_setCell_other _ _ _ _ (by show B ≠ D; omega), heap_setCell_other _ _ _ _ (by show B ≠ D; omega)]; exact h.a
  · show ((wr.setCell _ _).setCell _ _).heap[B + 1]? = _
    rw [heap_setCell_other _ _ _ _ (by show B + 1 ≠ D; omega), heap_setCell_other _ _ _ _ (by show B + 1 ≠ D; omega)]; exact h.z
  · show ((wr.setCell _ _).setCell _ _).heap[D]? = _
    rw [heap_setCell_same _ _ _ _ _ _ (heap_setCell_same _ _ _ _ _ _ h.o), cellsP_set _ _ _ _ hi]
  · exact ((h.bel.setCell (by show B ≤ D; omega) _).setCell (by show B ≤ D; omega) _).drew
theorem row_other {w : World} {base n g cap D j : Nat} {e : TypeId} {xs : List Value} (h : w.ownsRow base e 1 (.slice (some ⟨g, 0, none⟩) n cap) n xs) (hD : g < D) (u : Value) : (w.setCell ⟨D, j, none⟩ u).ownsRow base e 1 (.slice (some ⟨g, 0, none⟩) n cap) n xs :=
  ownsRow_setCell_other h (fun e => by simp [Value.ownBlock] at e; omega) u
theorem div_pw {s m v : Nat} (h : v * pw m = s) : (s : Int) / 2 ^ (15 - m) = (v : Int) := by
  have h1 : (2 : Int) ^ (15 - m) = ((pw m : Nat) : Int) := by unfold pw; norm_cast
  rw [h1, ← h, Int.natCast_mul]
  exact Int.mul_ediv_cancel _ (by have := pw_pos m; omega)

set_option maxHeartbeats 4000000 in
set_option maxRecDepth 100000 in
theorem codeWords_any (l : List Int) (w : World) (hr : Right l) :
    Calls Try.prog 73 #[A16 l] w fun e w' => e = .returned (AP fun j => (wv l j, ln l j)) ∧ Below w.heap.size w w' := by
  have HR := hide hr
  have hz := zero16w
  obtain ⟨w0, hw0⟩ : ∃ w0, w0 = (w.alloc (.cells (cells16 l) 64)).alloc (.cells (cellsP fun _ => (0, 0)) 123) := ⟨_, rfl⟩
  obtain ⟨B, hB⟩ : ∃ B, B = w.heap.size := ⟨_, rfl⟩
  have h1 : w0.heap[B]? = some (.cells (cells16 l) 64 (0, 0)) := by subst hB; rw [hw0]; exact heap_alloc2_old _ _ _
  have h2 : w0.heap[B + 1]? = some (.cells (cellsP fun _ => (0, 0)) 123 (0, 0)) := by subst hB; rw [hw0]; exact heap_alloc2_new _ _ _
  have h3 : Below B w w0 := by subst hB; rw [hw0]; exact ((Below.refl _ _).alloc (Nat.le_refl _) _).alloc (by simp) _
  have h4 : w0.heap.size = B + 2 := by subst hB; rw [hw0]; simp
  have H1 := hide h1
  have H2 := hide h2
  have H3 := hide h3
  have H4 := hide h4
  have HW0 := hide hw0
  have HB := hide hB
  clear hr hw0 hB h1 h2 h3 h4
  obtain ⟨i0, hi, hz0, hz1, hz2⟩ := info_parts info_int
  go_enter Try.func73, Try.ntmps73
  go_wp2_with (first
    | (refine wpList_load16 rfl (.tmp 1) rfl B (by rw [unhide HB]; rfl) l (unhide HR).len (by rw [← unhide HW0]; exact unhide H1) ?_; rw [← unhide HW0, ← unhide HB]))
  go_loopw [3, 4, 5, 11] (fun v _ _ i wr => ∃ k : Nat, k ≤ 16 ∧ i = .int .i64 k ∧ wr.ownsRow (B + 2) 3 1 v (used l k).length ((used l k).map encF) ∧ Below (B + 2) w0 wr) (fun _ _ _ i _ => 16 - (intOf i).toNat)
  case atStart => exact ⟨0, by omega, rfl, World.ownsRow_nil _ _ _ _, Below.refl _ _⟩
  case round =>
    obtain ⟨k, hk, rfl, hown, hbel⟩ := hrel
    have hsz : B + 2 ≤ wr.heap.size := by have := hbel.2; have := unhide H4; exact Nat.le_trans (by omega) hbel.size
    by_cases hk16 : k < 16
    · have hix := run_index16 l (unhide HR).len k _ (ln_get (unhide HR) hk16)
      have hul := used_len l k
      obtain ⟨m, hm⟩ : ∃ m, m = ln l k := ⟨_, rfl⟩
      rw [← hm] at hix
      by_cases hp : 0 < m
      · have hus : used l (k + 1) = used l k ++ [⟨k, hk16⟩] := by rw [used, dif_pos ⟨hk16, by rw [← hm]; exact hp⟩]
        have HUS := hide hus
        clear hus hm
        go_wp2_with (at_builtin; refine wpList_push rfl _ _ _ rfl (B + 2) 3 i0 _ 8 Try.underlying107 hi hz0 hz1 hz2 rfl _ _ _ rfl hown _ _ rfl rfl ?_ ?_ hsz ?_; (unfold maxLen; omega); omega; intro v' w' hown' hb hg; have HOWN := hide hown'; clear hown' hg)
        go_roundw
        case rel =>
          refine ⟨k + 1, by omega, by go_num, ?_, hbel.trans hb⟩
          rw [unhide HUS, List.length_append, List.map_append]
          exact unhide HOWN
        case measure => simp [intOf]; omega
      · have hus : used l (k + 1) = used l k := by rw [used, dif_neg (fun h => hp (by rw [hm]; exact h.2)), List.append_nil]
        have HUS := hide hus
        clear hus hm
        go_wp2_with fail
        go_roundw
        case rel =>
          refine ⟨k + 1, by omega, by go_num, ?_, hbel⟩
          rw [unhide HUS]; exact hown
        case measure => simp [intOf]; omega
    · have hk' : k = 16 := by omega
      subst hk'
      obtain ⟨n, hn⟩ : ∃ n, n = (used l 16).length := ⟨_, rfl⟩
      have hn0 : n ≠ 0 := by
        rw [hn]; intro e
        exact used_some (unhide HR) (List.eq_nil_of_length_eq_zero e)
      have hn16 : n ≤ 16 := by rw [hn]; exact used_len l 16
      rw [← hn] at hown
      obtain ⟨g, cap, rfl⟩ := row_at hown hn0
      have hgB : B + 2 ≤ g := (hown.lt g rfl).1
      have hb0 := (hbel.block B (by have := unhide H4; omega)).trans (unhide H1)
      have hb1 := (hbel.block (B + 1) (by have := unhide H4; omega)).trans (unhide H2)
      have KS := hide (sortStable_any l (unhide HR) B (B + 2) n g cap (used l 16) (used_lt l 16) wr hn16 hb0 (by omega) hown)
      have HB0 := hide hb0
      have HB1 := hide hb1
      have HBEL := hide hbel
      have HN := hide hn
      clear hb0 hb1 hbel hown hn
      go_wp2_with (go_at_call 95; refine (unhide KS).mono ?_; rintro e w1 ⟨rfl, p, hpm, hps, hown1, hbel1⟩; have HPM := hide hpm; have HPS := hide hps; have HOWN1 := hide hown1; have HBEL1 := hide ((unhide HBEL).trans hbel1); have HC0 := hide ((hbel1.block B (by omega)).trans (unhide HB0)); have HC1 := hide ((hbel1.block (B + 1) (by omega)).trans (unhide HB1)); clear hpm hps hown1 hbel1)
      have hpl : p.length = n := by rw [unhide HN]; exact (unhide HPM).length_eq
      have hg1 := ((unhide HOWN1).lt g rfl).2
      have hs1 : B + 2 ≤ w1.heap.size := by omega
      obtain ⟨w2, hw2⟩ : ∃ w2, w2 = w1.alloc (.cells (cellsP fun _ => (0, 0)) 123) := ⟨_, rfl⟩
      obtain ⟨D, hD⟩ : ∃ D, D = w1.heap.size := ⟨_, rfl⟩
      have hwa : WordsAt l w w2 B D (outP l p 0) := by
        rw [hw2, hD, outP_zero]
        refine ⟨(Below.heap_alloc _ _ _ (by omega)).trans (unhide HC0), (Below.heap_alloc _ _ _ (by omega)).trans (unhide HC1), heap_alloc_new _ _, ?_⟩
        exact ((unhide H3).trans ((unhide HBEL1).mono (by omega))).alloc (by omega) _
      have hown2 : w2.ownsRow (B + 2) 3 1 (.slice (some ⟨g, 0, none⟩) n cap) n (p.map encF) := by rw [hw2]; exact (unhide HOWN1).alloc _
      have hgD : g < D := by rw [hD]; exact hg1
      have hBD : B + 2 ≤ D := by rw [hD]; exact hs1
      rw [← hw2, ← hD]
      have HWA := hide hwa
      have HPL := hide hpl
      clear hw2 hD hg1 hs1 hwa hpl
      go_loopw [7, 9, 27] (fun x _ i wr => ∃ (k : Nat), k ≤ n ∧ i = .int .i64 k ∧ x = .int .i64 (sumP l (p.take k) : Nat) ∧ WordsAt l w wr B D (outP l p k) ∧ wr.ownsRow (B + 2) 3 1 (.slice (some ⟨g, 0, none⟩) n cap) n (p.map encF)) (fun _ _ i _ => n - (intOf i).toNat)
      case atStart => exact ⟨0, by omega, rfl, rfl, unhide HWA, hown2⟩
      case round =>
        obtain ⟨k, hk, rfl, rfl, hwa, hown⟩ := hrel
        have HWK := hide hwa
        by_cases hkn : k < n
        · obtain ⟨x, hx⟩ : ∃ x, p[k]? = some x := ⟨_, List.getElem?_eq_getElem (by have := unhide HPL; omega)⟩
          have hst := sum_take l (unhide HPM) (unhide HPS) hx
          have hxu := (used_mem l 16 x).1 ((unhide HPM).mem_iff.1 (List.mem_of_getElem? hx))
          have hx0 := hown.cellAt k (by omega)
          rw [List.getElem?_map, hx] at hx0
          have hx1 : wr.cell? ⟨g, k, none⟩ = some (.int .i64 (x.val : Int)) := hx0
          clear hx0
          have c1 := cell16 hwa.a (ln_get (unhide HR) x.isLt)
          have c2 : wr.cell? ⟨D, x.val * 2, none⟩ = some (I (outP l p k x).1) := by rw [cell_of_row _ _ _ _ _ _ hwa.o]; exact cellsP_get0 _ _ x.isLt
          have c3 : wr.cell? ⟨D, x.val * 2 + 1, none⟩ = some (I (outP l p k x).2) := by rw [cell_of_row _ _ _ _ _ _ hwa.o]; exact cellsP_get1 _ _ x.isLt
          have f2 := frozen_of_row _ _ (x.val * 2) _ _ hwa.o
          have f3 := frozen_of_row _ _ (x.val * 2 + 1) _ _ hwa.o
          have hwv := wv_mul l x
          have hm15 := (unhide HR).one x
          have hsl : sumP l (p.take k) ≤ 32768 := by
            rw [hst]; exact Nat.le_trans (preS_le _ _ _) (unhide HR).sum
          have hstp := outP_step l hx
          have hst2 : sumP l (p.take (k + 1)) = sumP l (p.take k) + pw (ln l x) := by rw [List.take_add_one, hx, sumP_app]; simp [sumP]
          rw [← hst] at hwv
          obtain ⟨i, hi⟩ : ∃ i, i = x.val := ⟨_, rfl⟩
          have hi16 : i < 16 := by rw [hi]; exact x.isLt
          rw [← hi] at hxu hx1 c1 c2 c3 f2 f3 hwv hm15 hstp hst2
          obtain ⟨m, hm⟩ : ∃ m, m = ln l i := ⟨_, rfl⟩
          rw [← hm] at hxu c1 hwv hm15 hstp hst2
          obtain ⟨v, hv⟩ : ∃ v, v = wv l i := ⟨_, rfl⟩
          rw [← hv] at hwv hstp
          obtain ⟨sm, hsm⟩ : ∃ sm, sm = sumP l (p.take k) := ⟨_, rfl⟩
          rw [← hsm] at hwv hsl hst2 ⊢
          have hm0 := hxu.2
          have hw15 : IntKind.i64.wrap (15 - (m : Int)) = 15 - (m : Int) := IntWalk.i64_in _ ⟨by omega, by omega⟩
          have HM := hide hm
          have HWV := hide hwv
          have HSTP := hide hstp
          have HST2 := hide hst2
          have HOW := hide hown
          have hpwl := pw_le m
          have hpww := pw_wrap m
          clear hst hxu hwv hstp hst2 hwa hi hm hv hsm hx hown
          go_wp2_with fail
          go_region
          have hdiv : (sm : Int) / 2 ^ (15 - m) = (v : Int) := div_pw (unhide HWV)
          rw [hdiv]
          obtain ⟨w3, hw3⟩ : ∃ w3, w3 = ((wr.setCell ⟨D, i * 2, none⟩ (.int .i64 (v : Int))).setCell ⟨D, i * 2 + 1, none⟩ (.int .i64 (m : Int))).drew := ⟨_, rfl⟩
          have hwa3 : WordsAt l w w3 B D (outP l p (k + 1)) := by
            rw [hw3, unhide HSTP]; exact (unhide HWK).put hBD hi16
          have hown3 : w3.ownsRow (B + 2) 3 1 (.slice (some ⟨g, 0, none⟩) n cap) n (p.map encF) := by
            rw [hw3]
            exact (row_other (row_other (unhide HOW) (by omega) _) (by omega) _).drew
          have c4 := cell16 hwa3.a (ln_get (unhide HR) hi16)
          rw [← unhide HM] at c4
          rw [← hw3]
          have HWA3 := hide hwa3
          have HOWN3 := hide hown3
          clear hdiv hw3 hwa3 hown3 c1 c2 c3 f2 f3 hx1
          go_wp2_with fail
          go_roundw
          case rel =>
            refine ⟨k + 1, by omega, by go_num, ?_, unhide HWA3, unhide HOWN3⟩
            rw [unhide HST2, add_wrap hsl hpwl]
          case measure => exact meas_up hkn
        · have hk' : k = n := by omega
          subst hk'
          have hend := outP_end (unhide HPM) (k := k) (by have := unhide HPL; omega)
          have HEND := hide hend
          clear hwa hend
          go_wp2_with (first
            | (refine wpList_load_row rfl 123 (.tmp 6) rfl D rfl 123 _ (0, 0) _ (unhide HWK).o Try.underlying123 rfl (by rw [size16w, cellsP_size]) ?_; rw [unhide HEND])
            | (refine wpList_store_row rfl 123 (.tmp 2) (.tmp 51) rfl (B + 1) _ rfl rfl 123 _ (unhide HWK).z (by rw [size16w, cellsP_size]) (by rw [cellsP_size, cellsP_size]) (cellsP_one _) ?_))
          refine bodyPost_ret (results_cell_row rfl _ _ (B + 1) 123 (cellsP fun j => (wv l j, ln l j)) (0, 0) _ rfl (setRow_heap _ _ _ _ _ _ (unhide HWK).z) Try.underlying123 rfl (by rw [size16w, cellsP_size])) rfl ⟨rfl, ?_⟩
          rw [← unhide HB]
          exact below_setRow (unhide HWK).bel (by omega) _

end Go.Proofs.Ytgfkkjcnnecefaa

/- The walk of the reference's CostOf. -/
namespace Go.Proofs.Ytgfkkjcnnecefaa
open Go.RowKit Go.Lib Pl

set_option maxHeartbeats 4000000 in
set_option maxRecDepth 100000 in
theorem costOf_any (l c : List Int) (w : World) (hl : l.length = 16) (hc : c.length = 16) :
    Calls Try.prog 44 #[A16 l, A16 c] w fun e w' => e = .returned (.tuple #[I (costN l c), I (costE l c)]) ∧ Below w.heap.size w w' := by
  obtain ⟨w0, hw0⟩ : ∃ w0, w0 = (w.alloc (.cells (cells16 l) 64)).alloc (.cells (cells16 c) 64) := ⟨_, rfl⟩
  have hg1 : w0.heap[w.heap.size]? = some (.cells (cells16 l) 64 (0, 0)) := by
    rw [hw0]
    exact (Below.heap_alloc _ _ _ (by simp)).trans (heap_alloc_new w _)
  have hg2 : w0.heap[w.heap.size + 1]? = some (.cells (cells16 c) 64 (0, 0)) := by
    rw [hw0]
    have := heap_alloc_new (w.alloc (.cells (cells16 l) 64)) (.cells (cells16 c) 64)
    simpa using this
  have hbel : Below w.heap.size w w0 := by rw [hw0]; exact ((Below.refl _ _).alloc (Nat.le_refl _) _).alloc (by simp) _
  have hsz : w0.heap.size = w.heap.size + 2 := by rw [hw0]; simp
  have CK := checkCodeR_any l w0 hl
  have CF := fun (W : World) => countsFine_any c W hc
  have HG1 := hide hg1
  have HG2 := hide hg2
  have HL := hide hl
  have HC := hide hc
  have HBEL := hide hbel
  have HSZ := hide hsz
  have HW0 := hide hw0
  clear hg1 hg2 hl hc hbel hsz hw0
  go_enter Try.func44, Try.ntmps44
  obtain ⟨e0, he0⟩ : ∃ e0, e0 = checkE l := ⟨_, rfl⟩
  rw [← he0] at CK
  have CK := hide CK
  have HE0 := hide he0
  clear he0
  by_cases h0 : e0 = 0
  · subst h0
    have hv := checkE_zero (unhide HE0).symm
    have HV := hide hv.1
    clear hv
    go_wp2_with (first
      | (refine wpList_load16 rfl (.tmp 2) rfl w.heap.size rfl l (unhide HL) (by rw [← unhide HW0]; exact unhide HG1) ?_; rw [← unhide HW0])
      | fail)
    refine (unhide CK).mono ?_
    rintro e w1 ⟨rfl, hb1⟩
    have hg1 := (hb1.block w.heap.size (by have := unhide HSZ; omega)).trans (unhide HG1)
    have hg2 := (hb1.block (w.heap.size + 1) (by have := unhide HSZ; omega)).trans (unhide HG2)
    have HG3 := hide hg1
    have HG4 := hide hg2
    have hb1' := (unhide HBEL).trans (hb1.mono (unhide HBEL).size)
    have HB1 := hide hb1'
    clear hg1 hg2 hb1 hb1'
    obtain ⟨fb, hfb⟩ : ∃ fb, fb = fineB c := ⟨_, rfl⟩
    rw [← hfb] at CF
    have CF := hide CF
    have HFB := hide hfb
    clear hfb
    cases fb with
    | false =>
      go_wp2_with (first
        | (refine wpList_load16 rfl (.tmp 3) rfl (w.heap.size + 1) rfl c (unhide HC) (unhide HG4) ?_)
        | fail)
      refine (unhide CF _).mono ?_
      rintro e w2 ⟨rfl, hb2⟩
      go_wp2_with fail
      go_ret2
      obtain ⟨e1, e2⟩ := costE_range (unhide HE0).symm (unhide HFB).symm
      rw [e1, e2]
      exact ⟨rfl, (unhide HB1).trans (hb2.mono (unhide HB1).size)⟩
    | true =>
      have HCV := hide (fine_all (unhide HFB).symm)
      go_wp2_with (first
        | (refine wpList_load16 rfl (.tmp 3) rfl (w.heap.size + 1) rfl c (unhide HC) (unhide HG4) ?_)
        | fail)
      refine (unhide CF _).mono ?_
      rintro e w2 ⟨rfl, hb2⟩
      have hs1 := (Array.getElem?_eq_some_iff.1 (unhide HG4)).1
      have hg1 := (hb2.block w.heap.size (by omega)).trans (unhide HG3)
      have hg2 := (hb2.block (w.heap.size + 1) hs1).trans (unhide HG4)
      have HG5 := hide hg1
      have HG6 := hide hg2
      have hb2' := (unhide HB1).trans (hb2.mono (unhide HB1).size)
      have HB2 := hide hb2'
      clear hg1 hg2 hb2 hb2' hs1
      go_wp2_with fail
      go_loopw [7, 8] (fun s i wr => ∃ (k : Nat) (r : Int), k ≤ 16 ∧ i = .int .i64 k ∧ s = .int .i64 r ∧ Summed l c k r ∧ Below w.heap.size w wr ∧ wr.heap[w.heap.size]? = some (.cells (cells16 l) 64 (0, 0)) ∧ wr.heap[w.heap.size + 1]? = some (.cells (cells16 c) 64 (0, 0))) (fun _ i _ => 16 - (intOf i).toNat)
      case atStart => exact ⟨0, 0, by omega, rfl, rfl, by simp [Summed, dotL, lackL], unhide HB2, unhide HG5, unhide HG6⟩
      case round =>
        obtain ⟨k, r, hk, rfl, rfl, hsm, hbw, hq1, hq2⟩ := hrel
        have HB2 := hide hbw
        have HG5 := hide hq1
        have HG6 := hide hq2
        clear hbw hq1 hq2
        have hr0 := hsm.2.2.1
        have hr1 := hsm.2.2.2
        have HSM := hide hsm
        clear hsm
        by_cases hk16 : k < 16
        · obtain ⟨x, hx⟩ : ∃ x, l[k]? = some x := ⟨_, List.getElem?_eq_getElem (by have := unhide HL; omega)⟩
          obtain ⟨y, hy⟩ : ∃ y, c[k]? = some y := ⟨_, List.getElem?_eq_getElem (by have := unhide HC; omega)⟩
          have hcy := cell16 (unhide HG6) hy
          have hcx := cell16 (unhide HG5) hx
          have bx := unhide HV x (List.mem_of_getElem? hx)
          have bY := unhide HCV y (List.mem_of_getElem? hy)
          have hml := mul_le_cost y x bY bx
          have hmw : IntKind.i64.wrap (y * x) = y * x := IntWalk.i64_in _ ⟨by omega, by omega⟩
          have hmw2 : wrap64 (y * x) = y * x := IntWalk.wrap64_in _ ⟨by omega, by omega⟩
          have HX := hide hx
          have HY := hide hy
          have HBX := hide bx
          have HBY := hide bY
          clear hx hy bx bY
          by_cases hlk : 0 < y ∧ x = 0
          · obtain ⟨h1, rfl⟩ := hlk
            have hres : lackL l c = true := lack_of_take (k := k + 1) (by rw [lack_take (unhide HX) (unhide HY)]; simp [h1])
            have HRES := hide hres
            clear hres hml hmw hmw2
            go_wp2_with fail
            go_ret2
            obtain ⟨e1, e2⟩ := costE_none (unhide HE0).symm (unhide HFB).symm (unhide HRES)
            rw [e1, e2]
            exact ⟨rfl, unhide HB2⟩
          · have hst := (unhide HSM).step (unhide HX) (unhide HY) (unhide HBX) (unhide HBY) hlk
            have HST := hide hst
            have hcs : (¬ 0 < y) ∨ (0 < y ∧ (x == 0) = false) := by
              by_cases h : 0 < y
              · exact .inr ⟨h, by rw [beq_eq_false_iff_ne]; exact fun e => hlk ⟨h, e⟩⟩
              · exact .inl h
            clear hst hlk
            rcases hcs with h1 | ⟨h1, h2⟩
            all_goals
              go_wp2_with fail
              go_quiet (fail)
              go_wp2_with fail
              go_roundw
              case rel => exact ⟨k + 1, r + y * x, by omega, by go_num, rfl, unhide HST, below_drewN (unhide HB2) _, unhide HG5, unhide HG6⟩
              case measure => simp [intOf]; omega
        · have hk16' : k = 16 := by omega
          have hsm := unhide HSM
          unfold Summed at hsm
          rw [hk16', List.take_of_length_le (by have := unhide HL; omega), List.take_of_length_le (by have := unhide HC; omega)] at hsm
          have HS9 := hide hsm
          clear hsm hk16'
          go_wp2_with fail
          go_ret2
          obtain ⟨e1, e2⟩ := costE_ok (unhide HE0).symm (unhide HFB).symm (unhide HS9).2.1
          rw [e1, e2, ← (unhide HS9).1]
          exact ⟨rfl, unhide HB2⟩
  · have z1 : ((e0 : Int) == 0) = false := by rw [beq_eq_false_iff_ne]; omega
    have z2 : ((e0 : Int) != 0) = true := by rw [bne_iff_ne]; omega
    have H0 := hide h0
    clear h0
    go_wp2_with (first
      | (refine wpList_load16 rfl (.tmp 2) rfl w.heap.size rfl l (unhide HL) (by rw [← unhide HW0]; exact unhide HG1) ?_; rw [← unhide HW0])
      | fail)
    refine (unhide CK).mono ?_
    rintro e w1 ⟨rfl, hb1⟩
    go_wp2_with fail
    go_ret2
    obtain ⟨e1, e2⟩ := costE_code (c := c) (by rw [← unhide HE0]; exact unhide H0)
    rw [e1, e2, ← unhide HE0]
    exact ⟨rfl, (unhide HBEL).trans (hb1.mono (unhide HBEL).size)⟩


end Go.Proofs.Ytgfkkjcnnecefaa

/- Two arrays of 16 numbers compared. -/
namespace Go.Proofs.Ytgfkkjcnnecefaa
open Go.RowKit Go.Lib Pl

theorem all_range_eqI : ∀ (xs ys : List Int), xs.length = ys.length → ((List.range xs.length).all fun i => xs.getD i 0 == ys.getD i 0) = (xs == ys)
  | [], [], _ => rfl
  | x :: xs, y :: ys, h => by
    have ih := all_range_eqI xs ys (by simpa using h)
    rw [List.length_cons, List.range_succ_eq_map, List.all_cons, List.all_map]
    simp only [List.getD_cons_zero, Function.comp_def, List.getD_cons_succ, ih]
    simp [List.cons_beq_cons]
  | [], _ :: _, h => by simp at h
  | _ :: _, [], h => by simp at h

theorem run_equalIn16 (d : Nat) (xs ys : List Int) (hx : xs.length = 16) (hy : ys.length = 16) (w : World) :
    (Op.equalIn (d + 2) 64 (A16 xs) (A16 ys)).run Try.prog w = .ok (xs == ys) w := by
  have ht := Try.underlying64
  have he := Try.underlying3
  have hsz := Try.sizeOf3
  rw [← all_range_eqI xs ys (hx.trans hy.symm), hx, List.range_eq_range', Op.equalIn]
  simp only [Sem.run_bind, run_underlying ht, Result.andThen_ok, hsz, Std.Legacy.Range.forIn_eq_forIn_range', Std.Legacy.Range.size, Nat.sub_zero, Nat.add_sub_cancel, Nat.div_one]
  have hl : ∀ i ∈ List.range' 0 16 1, i < 16 := fun i hi => by simpa using (List.mem_range'_1.1 hi).2
  generalize List.range' 0 16 1 = l at hl ⊢
  induction l with
  | nil => simp
  | cons i l ih =>
    have hi : i < 16 := hl i (by simp)
    have px : (part 3 (cells16 xs) (i * 1)).run Try.prog w = .ok (.int .i64 (xs.getD i 0)) w := by
      simp [part, isAgg, run_underlying he, List.getD, List.getElem?_eq_getElem (show i < xs.length by omega)]
    have py : (part 3 (cells16 ys) (i * 1)).run Try.prog w = .ok (.int .i64 (ys.getD i 0)) w := by
      simp [part, isAgg, run_underlying he, List.getD, List.getElem?_eq_getElem (show i < ys.length by omega)]
    have pe : (Op.equalIn (d + 1) 3 (.int .i64 (xs.getD i 0)) (.int .i64 (ys.getD i 0))).run Try.prog w = .ok (xs.getD i 0 == ys.getD i 0) w := by
      rw [run_equalIn_int w d 3 .i64 .i64 _ _ he]
    simp only [List.forIn_cons, Sem.run_bind, px, py, pe, Result.andThen_ok, List.all_cons]
    cases hb : (xs.getD i 0 == ys.getD i 0)
    · simp
    · simp only [Bool.not_true, Bool.false_eq_true, if_false, Sem.run_pure, Result.andThen_ok, Bool.true_and]
      exact ih fun j hj => hl j (by simp [hj])
theorem eql16 (xs ys : List Int) (hx : xs.length = 16) (hy : ys.length = 16) (w : World) :
    (binOp .eql 64 (A16 xs) (A16 ys)).run Try.prog w = .ok (.bool (xs == ys)) w := by
  rw [run_eql_struct, run_equalIn16 9998 xs ys hx hy w]
  rfl
theorem eql16_same (xs : List Int) (hx : xs.length = 16) (w : World) :
    (binOp .eql 64 (A16 xs) (A16 xs)).run Try.prog w = .ok (.bool true) w := by
  rw [eql16 xs xs hx hx w, beq_self_eq_true]

end Go.Proofs.Ytgfkkjcnnecefaa

/- codeBegun: what must be in any case. -/
namespace Go.Proofs.Ytgfkkjcnnecefaa
open Go.RowKit Go.Lib Pl

def bc0 : List Int := [5, 2, 0, 0, 0, 0, 1, 0, 0, 0, 0, 0, 0, 0, 0, 0]
def bl0 : List Int := [1, 2, 0, 0, 0, 0, 2, 0, 0, 0, 0, 0, 0, 0, 0, 0]
def bx0 : List Int := [1, 1, 1, 0, 0, 0, 0, 0, 0, 0, 0, 0, 0, 0, 0, 0]
theorem bc0_l : lensOf bc0 = bl0 := by decide +kernel
theorem bc0_e : buildE bc0 = 0 := by decide +kernel
theorem bc0_n : costN bl0 bc0 = 11 := by decide +kernel
theorem bc0_c : costE bl0 bc0 = 0 := by decide +kernel
theorem bc0_s : writeS bl0 [0, 22] = [44] := by decide +kernel
theorem bc0_w : writeE bl0 [0, 22] = 0 := by decide +kernel
theorem bc0_r : readS bl0 [44] 2 = [0, 22] := by decide +kernel
theorem bc0_f : readE bl0 [44] 2 = 0 := by decide +kernel
theorem bx0_e : checkE bx0 = 1 := by decide +kernel
abbrev bcV : Value := .agg #[.int .i64 5, .int .i64 2, .int .i64 0, .int .i64 0, .int .i64 0, .int .i64 0, .int .i64 1, .int .i64 0, .int .i64 0, .int .i64 0, .int .i64 0, .int .i64 0, .int .i64 0, .int .i64 0, .int .i64 0, .int .i64 0]
abbrev blV : Value := .agg #[.int .i64 1, .int .i64 2, .int .i64 0, .int .i64 0, .int .i64 0, .int .i64 0, .int .i64 2, .int .i64 0, .int .i64 0, .int .i64 0, .int .i64 0, .int .i64 0, .int .i64 0, .int .i64 0, .int .i64 0, .int .i64 0]
abbrev bxV : Value := .agg #[.int .i64 1, .int .i64 1, .int .i64 1, .int .i64 0, .int .i64 0, .int .i64 0, .int .i64 0, .int .i64 0, .int .i64 0, .int .i64 0, .int .i64 0, .int .i64 0, .int .i64 0, .int .i64 0, .int .i64 0, .int .i64 0]

set_option maxHeartbeats 2000000 in
set_option maxRecDepth 100000 in
theorem codeBegun_any (w : World) : Calls Try.prog 46 #[] w fun e w' => e = .returned (.bool true) ∧ Below w.heap.size w w' := by
  have c1 := fun (W : World) => build_any bc0 W rfl
  rw [bc0_l, bc0_e] at c1
  have C1 : Hid (∀ W : World, Calls Try.prog 43 #[bcV] W fun e w' => e = .returned (.tuple #[A16 bl0, I 0]) ∧ Below W.heap.size W w') := hide c1
  have c2 := fun (W : World) => cost_any bl0 bc0 W rfl rfl
  rw [bc0_n, bc0_c] at c2
  have C2 : Hid (∀ W : World, Calls Try.prog 42 #[A16 bl0, bcV] W fun e w' => e = .returned (.tuple #[I 11, I 0]) ∧ Below W.heap.size W w') := hide c2
  have c3 := fun (W : World) => codeWrite_any codeWords_any bl0 [0, 22] W rfl
  rw [bc0_s, bc0_w] at c3
  have C3 := hide c3
  have c4 := fun (W : World) => codeRead_any codeWords_any bl0 [44] 2 W rfl (by decide) (by decide) (by decide)
  rw [bc0_r, bc0_f] at c4
  have C4 := hide c4
  have c5 := fun (W : World) => checkCode_any bx0 W rfl
  rw [bx0_e] at c5
  have C5 : Hid (∀ W : World, Calls Try.prog 47 #[bxV] W fun e w' => e = .returned (I 1) ∧ Below W.heap.size W w') := hide c5
  clear c1 c2 c3 c4 c5
  have hz : ∀ W : World, (zeroValue 64).run Try.prog W = .ok (.agg #[.int .i64 0, .int .i64 0, .int .i64 0, .int .i64 0, .int .i64 0, .int .i64 0, .int .i64 0, .int .i64 0, .int .i64 0, .int .i64 0, .int .i64 0, .int .i64 0, .int .i64 0, .int .i64 0, .int .i64 0, .int .i64 0]) W := zero16v
  have heq : ∀ W : World, (binOp .eql 64 blV blV).run Try.prog W = .ok (.bool true) W := fun W => eql16_same bl0 rfl W
  go_enter Try.func46, Try.ntmps46
  go_wp2_with fail
  refine (unhide C1 _).mono ?_
  rintro e w1 ⟨rfl, hb1⟩
  have HB1 := hide hb1
  have hs1 := hb1.size
  clear hb1
  go_upto_region 2 with (first
    | (refine wpList_store_row rfl 64 (.tmp 1) (.tmp 12) rfl w1.heap.size (cells16 bl0) rfl rfl 64 _ (heap_alloc_new _ _) (by rw [sizeI, cells16_size rfl]) rfl (cells16_one _) ?_))
  obtain ⟨w2, hw2⟩ : ∃ w2, w2 = (w1.alloc (.cells #[.int .i64 0, .int .i64 0, .int .i64 0, .int .i64 0, .int .i64 0, .int .i64 0, .int .i64 0, .int .i64 0, .int .i64 0, .int .i64 0, .int .i64 0, .int .i64 0, .int .i64 0, .int .i64 0, .int .i64 0, .int .i64 0] 64)).setRow w1.heap.size (cells16 bl0) := ⟨_, rfl⟩
  obtain ⟨D, hD⟩ : ∃ D, D = w1.heap.size := ⟨_, rfl⟩
  have a2 : w2.heap[D]? = some (.cells (cells16 bl0) 64 (0, 0)) := by rw [hw2, hD]; exact setRow_heap _ _ _ _ _ _ (heap_alloc_new _ _)
  have b2 : Below w.heap.size w w2 := by rw [hw2]; exact below_setRow ((unhide HB1).alloc hs1 _) hs1 _
  rw [← hw2, ← hD]
  have A2 := hide a2
  have B2 := hide b2
  clear a2 b2 hw2 hD hs1
  go_wp2_with (first | (refine wpList_load16 rfl (.tmp 1) rfl D rfl bl0 rfl (unhide A2) ?_))
  refine (unhide C2 _).mono ?_
  rintro e w3 ⟨rfl, hb3⟩
  have A3 := hide ((hb3.block D (Array.getElem?_eq_some_iff.1 (unhide A2)).1).trans (unhide A2))
  have B3 := hide ((unhide B2).trans (hb3.mono (unhide B2).size))
  clear hb3
  go_wp2_with (first | (refine wpList_load16 rfl (.tmp 1) rfl D rfl bl0 rfl (unhide A3) ?_))
  refine (unhide C3 _).mono ?_
  rintro e w4 ⟨rfl, hb4⟩
  have A4 := hide ((hb4.block D (Array.getElem?_eq_some_iff.1 (unhide A3)).1).trans (unhide A3))
  have B4 := hide ((unhide B3).trans (hb4.mono (unhide B3).size))
  clear hb4
  go_wp2_with (first | (refine wpList_load16 rfl (.tmp 1) rfl D rfl bl0 rfl (unhide A4) ?_))
  refine (unhide C4 _).mono ?_
  rintro e w5 ⟨rfl, hb5⟩
  have A5 := hide ((hb5.block D (Array.getElem?_eq_some_iff.1 (unhide A4)).1).trans (unhide A4))
  have B5 := hide ((unhide B4).trans (hb5.mono (unhide B4).size))
  clear hb5
  obtain ⟨k0, k1, k2, k3, k4, k5, k6, k7, k8, k9, k10, k11, k12, k13, k14, k15⟩ : w5.cell? ⟨D, 0, none⟩ = some (.int .i64 1) ∧ w5.cell? ⟨D, 1, none⟩ = some (.int .i64 2) ∧ w5.cell? ⟨D, 2, none⟩ = some (.int .i64 0) ∧ w5.cell? ⟨D, 3, none⟩ = some (.int .i64 0) ∧ w5.cell? ⟨D, 4, none⟩ = some (.int .i64 0) ∧ w5.cell? ⟨D, 5, none⟩ = some (.int .i64 0) ∧ w5.cell? ⟨D, 6, none⟩ = some (.int .i64 2) ∧ w5.cell? ⟨D, 7, none⟩ = some (.int .i64 0) ∧ w5.cell? ⟨D, 8, none⟩ = some (.int .i64 0) ∧ w5.cell? ⟨D, 9, none⟩ = some (.int .i64 0) ∧ w5.cell? ⟨D, 10, none⟩ = some (.int .i64 0) ∧ w5.cell? ⟨D, 11, none⟩ = some (.int .i64 0) ∧ w5.cell? ⟨D, 12, none⟩ = some (.int .i64 0) ∧ w5.cell? ⟨D, 13, none⟩ = some (.int .i64 0) ∧ w5.cell? ⟨D, 14, none⟩ = some (.int .i64 0) ∧ w5.cell? ⟨D, 15, none⟩ = some (.int .i64 0) := ⟨cell16 (unhide A5) (l := bl0) rfl, cell16 (unhide A5) (l := bl0) rfl, cell16 (unhide A5) (l := bl0) rfl, cell16 (unhide A5) (l := bl0) rfl, cell16 (unhide A5) (l := bl0) rfl, cell16 (unhide A5) (l := bl0) rfl, cell16 (unhide A5) (l := bl0) rfl, cell16 (unhide A5) (l := bl0) rfl, cell16 (unhide A5) (l := bl0) rfl, cell16 (unhide A5) (l := bl0) rfl, cell16 (unhide A5) (l := bl0) rfl, cell16 (unhide A5) (l := bl0) rfl, cell16 (unhide A5) (l := bl0) rfl, cell16 (unhide A5) (l := bl0) rfl, cell16 (unhide A5) (l := bl0) rfl, cell16 (unhide A5) (l := bl0) rfl⟩
  go_wp2_with fail
  refine (unhide C5 _).mono ?_
  rintro e w6 ⟨rfl, hb6⟩
  go_wp2_with fail
  go_ret
  exact ⟨rfl, (unhide B5).trans (hb6.mono (unhide B5).size)⟩

end Go.Proofs.Ytgfkkjcnnecefaa

/- The laws CodeBuilds and CodeWrites: true for every input. -/
namespace Go.Proofs.Ytgfkkjcnnecefaa
open Go.RowKit Go.Lib Pl

abbrev ic (l : List Int) : List Value := l.map (Value.int .i64)
theorem lensOf_16 (c : List Int) : (lensOf c).length = 16 := by
  by_cases h : buildE c = 0
  · rw [lensOf_Lf h, Lf_len]
  · rw [lensOf_err h, Lf_len]
theorem range16 {w : World} {g : Nat} {l : List Int} {t : TypeId} {fz : Nat × Nat} (h : w.heap[g]? = some (.cells (cells16 l) t fz)) : w.rangeAt g 0 (ic l) := fun j v hv => by
  rw [Nat.zero_add, cell_of_row _ _ _ _ _ _ h, List.getElem?_toArray]; exact hv
theorem range16_below {w w' : World} {g : Nat} {l : List Int} (h : w.rangeAt g 0 (ic l)) (hl : l.length = 16) (hb : Below w.heap.size w w') : w'.rangeAt g 0 (ic l) := by
  have h0 : ∃ v, (ic l)[0]? = some v := ⟨_, List.getElem?_eq_getElem (by simp [ic, hl])⟩
  obtain ⟨v0, h0⟩ := h0
  have hlt := block_lt_of_cell (h 0 v0 h0)
  exact fun j v hv => (hb.cell (p := ⟨g, 0 + j, none⟩) hlt).trans (h j v hv)
/-- four arrays -/
structure Arr3 (W : World) (D1 D2 D3 : Nat) (l b : List Int) : Prop where
  ra : W.rangeAt D1 0 (ic l)
  rb : W.rangeAt D2 0 (ic b)
  rc : W.rangeAt D3 0 (ic b)
theorem Arr3.drew {W : World} {D1 D2 D3 : Nat} {l b : List Int} (h : Arr3 W D1 D2 D3 l b) : Arr3 W.drew D1 D2 D3 l b := ⟨h.ra, h.rb, h.rc⟩
theorem yieldsIf_load16 {ops : Array Oper} {S : World → Prop} {op : Oper} {a : Act} (hw : Region.wanted op (yielded ops a.tmps) = true) (x : Operand) (ho : op.op = .load 64 x)
    (g : Nat) (hx : a.eval x = .pointer (some ⟨g, 0, none⟩)) {l : List Int} (hl : l.length = 16) (hS : ∀ w, S w → w.rangeAt g 0 (ic l)) : YieldsIf Try.prog ops S op (A16 l) a :=
  yieldsIf_load_mid hw 64 x ho g 0 hx (ic l) _ hS Try.underlying64 rfl (by rw [sizeI]; simp [ic, hl])

set_option maxHeartbeats 4000000 in
set_option maxRecDepth 100000 in
theorem codeBuilds_any (l c : List Int) (w : World) (hl : l.length = 16) (hc : c.length = 16) :
    Calls Try.prog 11 #[A16 l, A16 c] w fun e w' => e = .returned (.bool true) ∧ Below w.heap.size w w' := by
  have c1 := hide (fun (W : World) => cost_any l c W hl hc)
  have c2 := hide (fun (W : World) => build_any c W hc)
  have c3 := hide (fun (W : World) => costOf_any l c W hl hc)
  have c4 := hide (fun (W : World) => buildOf_any c W hc)
  have c5 := hide (fun (W : World) => codeBegun_any W)
  have c6 := hide (fun (W : World) => checkCode_any l W hl)
  have c7 := hide (fun (W : World) => checkCodeR_any l W hl)
  have hz := zero16v
  obtain ⟨b, hb⟩ : ∃ b, b = lensOf c := ⟨_, rfl⟩
  obtain ⟨n, hn⟩ : ∃ n, n = costN l c := ⟨_, rfl⟩
  obtain ⟨e1, he1⟩ : ∃ e, e = costE l c := ⟨_, rfl⟩
  obtain ⟨e2, he2⟩ : ∃ e, e = buildE c := ⟨_, rfl⟩
  obtain ⟨e3, he3⟩ : ∃ e, e = checkE l := ⟨_, rfl⟩
  rw [← he1, ← hn] at c1 c3
  rw [← hb, ← he2] at c2 c4
  rw [← he3] at c6 c7
  have hb16 : b.length = 16 := by rw [hb]; exact lensOf_16 c
  have heq := fun (W : World) => eql16_same b hb16 W
  have HL := hide hl
  have HC := hide hc
  have HB16 := hide hb16
  obtain ⟨D, hD⟩ : ∃ D, D = w.heap.size := ⟨_, rfl⟩
  obtain ⟨w0, hw0⟩ : ∃ w0, w0 = (w.alloc (.cells (cells16 l) 64)).alloc (.cells (cells16 c) 64) := ⟨_, rfl⟩
  have a0 : w0.heap[D]? = some (.cells (cells16 l) 64 (0, 0)) := by rw [hw0, hD]; exact heap_alloc2_old _ _ _
  have b0 : w0.heap[D + 1]? = some (.cells (cells16 c) 64 (0, 0)) := by rw [hw0, hD]; exact heap_alloc2_new _ _ _
  have bl0 : Below D w w0 := by rw [hw0, hD]; exact ((Below.refl _ _).alloc (Nat.le_refl _) _).alloc (by simp) _
  have s0 : D + 2 ≤ w0.heap.size := by rw [hw0, hD]; simp
  have HD := hide hD
  have H0 := hide (And.intro a0 (And.intro b0 bl0))
  clear hl hc hb hn he1 he2 he3 hD a0 b0 bl0 hb16
  go_enter Try.func11, Try.ntmps11
  go_upto_region 1 with fail
  rw [← hw0, ← unhide HD]
  clear hw0
  go_wp2_with (first
    | (refine wpList_load16 rfl (.tmp 2) rfl D rfl l (unhide HL) (unhide H0).1 ?_)
    | (refine wpList_load16 rfl (.tmp 3) rfl (D + 1) rfl c (unhide HC) (unhide H0).2.1 ?_))
  refine (unhide c1 _).mono ?_
  rintro e w1 ⟨rfl, hb1⟩
  have H1 := hide (And.intro ((hb1.block D (by omega)).trans (unhide H0).1) (And.intro ((hb1.block (D + 1) (by omega)).trans (unhide H0).2.1) ((unhide H0).2.2.trans (hb1.mono (by omega)))))
  have s1 := Nat.le_trans s0 hb1.size
  clear hb1 s0
  go_wp2_with (first
    | (refine wpList_load16 rfl (.tmp 3) rfl (D + 1) rfl c (unhide HC) (unhide H1).2.1 ?_))
  refine (unhide c2 _).mono ?_
  rintro e w2 ⟨rfl, hb2⟩
  have H2 := hide (And.intro ((hb2.block D (by omega)).trans (unhide H1).1) (And.intro ((hb2.block (D + 1) (by omega)).trans (unhide H1).2.1) ((unhide H1).2.2.trans (hb2.mono (by omega)))))
  have s2 := Nat.le_trans s1 hb2.size
  clear hb2 s1
  go_upto_region 3 with (first
    | (refine wpList_store_row rfl 64 (.tmp 7) (.tmp 22) rfl w2.heap.size (cells16 b) rfl rfl 64 _ (heap_alloc_new _ _) (by rw [sizeI, cells16_size (unhide HB16)]) (by rw [cells16_size (unhide HB16), cells16_size (Lf_len _)]) (cells16_one _) ?_))
  obtain ⟨w3, hw3⟩ : ∃ w3, w3 = (w2.alloc (.cells (cells16 (Lf fun _ => 0)) 64)).setRow w2.heap.size (cells16 b) := ⟨_, rfl⟩
  obtain ⟨E, hE⟩ : ∃ E, E = w2.heap.size := ⟨_, rfl⟩
  have a3 : w3.heap[E]? = some (.cells (cells16 b) 64 (0, 0)) := by rw [hw3, hE]; exact setRow_heap _ _ _ _ _ _ (heap_alloc_new _ _)
  have b3 : Below E w2 w3 := by rw [hw3, hE]; exact below_setRow ((Below.refl _ _).alloc (Nat.le_refl _) _) (Nat.le_refl _) _
  have s3 : E + 1 ≤ w3.heap.size := by rw [hw3, hE]; simp
  rw [← hw3, ← hE]
  have H3 := hide (And.intro ((b3.block D (by omega)).trans (unhide H2).1) (And.intro ((b3.block (D + 1) (by omega)).trans (unhide H2).2.1) (And.intro ((unhide H2).2.2.trans (b3.mono (by omega))) a3)))
  have hDE : D + 2 ≤ E := by omega
  clear a3 b3 hw3 hE s2
  go_wp2_with (first
    | (refine wpList_load16 rfl (.tmp 2) rfl D rfl l (unhide HL) (unhide H3).1 ?_)
    | (refine wpList_load16 rfl (.tmp 3) rfl (D + 1) rfl c (unhide HC) (unhide H3).2.1 ?_))
  refine (unhide c3 _).mono ?_
  rintro e w4 ⟨rfl, hb4⟩
  have H4 := hide (And.intro ((hb4.block D (by omega)).trans (unhide H3).1) (And.intro ((hb4.block (D + 1) (by omega)).trans (unhide H3).2.1) (And.intro ((unhide H3).2.2.1.trans (hb4.mono (by omega))) ((hb4.block E (by omega)).trans (unhide H3).2.2.2))))
  have s4 := Nat.le_trans s3 hb4.size
  clear hb4 s3
  go_wp2_with (first
    | (refine wpList_load16 rfl (.tmp 3) rfl (D + 1) rfl c (unhide HC) (unhide H4).2.1 ?_))
  refine (unhide c4 _).mono ?_
  rintro e w5 ⟨rfl, hb5⟩
  have H5 := hide (And.intro ((hb5.block D (by omega)).trans (unhide H4).1) (And.intro ((unhide H4).2.2.1.trans (hb5.mono (by omega))) ((hb5.block E (by omega)).trans (unhide H4).2.2.2)))
  have s5 := Nat.le_trans s4 hb5.size
  clear hb5 s4
  go_upto_region 5 with (first
    | (refine wpList_store_row rfl 64 (.tmp 11) (.tmp 33) rfl w5.heap.size (cells16 b) rfl rfl 64 _ (heap_alloc_new _ _) (by rw [sizeI, cells16_size (unhide HB16)]) (by rw [cells16_size (unhide HB16), cells16_size (Lf_len _)]) (cells16_one _) ?_))
  obtain ⟨w6, hw6⟩ : ∃ w6, w6 = (w5.alloc (.cells (cells16 (Lf fun _ => 0)) 64)).setRow w5.heap.size (cells16 b) := ⟨_, rfl⟩
  obtain ⟨F, hF⟩ : ∃ F, F = w5.heap.size := ⟨_, rfl⟩
  have a6 : w6.heap[F]? = some (.cells (cells16 b) 64 (0, 0)) := by rw [hw6, hF]; exact setRow_heap _ _ _ _ _ _ (heap_alloc_new _ _)
  have b6 : Below F w5 w6 := by rw [hw6, hF]; exact below_setRow ((Below.refl _ _).alloc (Nat.le_refl _) _) (Nat.le_refl _) _
  have s6 : F + 1 ≤ w6.heap.size := by rw [hw6, hF]; simp
  rw [← hw6, ← hF]
  have B6 := hide ((unhide H5).2.1.trans (b6.mono (by omega)))
  have R6 := hide (show Arr3 w6 D E F l b from ⟨range16 ((b6.block D (by omega)).trans (unhide H5).1), range16 ((b6.block E (by omega)).trans (unhide H5).2.2), range16 a6⟩)
  have hD6 : D ≤ w6.heap.size := by omega
  clear a6 b6 hw6 hF s5
  have hu := Try.underlying64
  have hi1 : (Try.prog.info? 64).map (·.size) = some (ic l).length := by rw [sizeI]; simp [ic, unhide HL]
  have hi2 : (Try.prog.info? 64).map (·.size) = some (ic b).length := by rw [sizeI]; simp [ic, unhide HB16]
  have KB := hide (fun (W W' : World) (h : Below D w W ∧ D ≤ W.heap.size ∧ Arr3 W D E F l b) (hb : Below W.heap.size W W') => show Below D w W' ∧ D ≤ W'.heap.size ∧ Arr3 W' D E F l b from ⟨h.1.trans (hb.mono h.2.1), Nat.le_trans h.2.1 hb.size, range16_below h.2.2.ra (unhide HL) hb, range16_below h.2.2.rb (unhide HB16) hb, range16_below h.2.2.rc (unhide HB16) hb⟩)
  refine wp_region_noPanic ?_
  refine wp_region_held_drew (S := fun w' => Below D w w' ∧ D ≤ w'.heap.size ∧ Arr3 w' D E F l b) (by kernel_rfl) ⟨(unhide B6).drew, hD6, (unhide R6).drew⟩ (fun hHeld => ?_)
  refine wpAnyH_ready (rs := [0]) (by kernel_rfl) (by simp) ?_
  refine AllReadyH.cons (o := _) rfl (fun K hK => ?_) AllReadyH.nil
  go_simp
  refine (unhide c5 _).mono ?_
  rintro e v7 ⟨rfl, hbv⟩
  refine hK.out _ _ (unhide KB _ _ hHeld hbv) (fun hHeld2 => ?_)
  clear hK K hHeld hbv
  have hHeld := hHeld2
  clear hHeld2
  try simp only [Act.put, List.getElem_toArray, List.getElem_cons_succ, List.getElem_cons_zero, List.setIfInBounds_toArray, List.set_cons_zero, List.set_cons_succ]
  refine wpAnyH_take (i := 1) (oi := _) (v := .bool true) rfl (by kernel_rfl) (by kernel_rfl) (by kernel_rfl) (fun _ _ _ h => h) (Or.inl ⟨by kernel_rfl, fun w _ => by go_simp⟩) hHeld ?_
  try simp only [Act.put, List.getElem_toArray, List.getElem_cons_succ, List.getElem_cons_zero, List.setIfInBounds_toArray, List.set_cons_zero, List.set_cons_succ]
  refine wpAnyH_take (i := 2) (oi := _) (v := A16 l) rfl (by kernel_rfl) (by kernel_rfl) (by kernel_rfl) (fun _ _ _ h => h) (yieldsIf_load16 (by kernel_rfl) _ rfl D rfl (unhide HL) fun w h => h.2.2.ra) hHeld ?_
  try simp only [Act.put, List.getElem_toArray, List.getElem_cons_succ, List.getElem_cons_zero, List.setIfInBounds_toArray, List.set_cons_zero, List.set_cons_succ]
  refine wpAnyH_take (i := 4) (oi := _) (v := A16 l) rfl (by kernel_rfl) (by kernel_rfl) (by kernel_rfl) (fun _ _ _ h => h) (yieldsIf_load16 (by kernel_rfl) _ rfl D rfl (unhide HL) fun w h => h.2.2.ra) hHeld ?_
  try simp only [Act.put, List.getElem_toArray, List.getElem_cons_succ, List.getElem_cons_zero, List.setIfInBounds_toArray, List.set_cons_zero, List.set_cons_succ]
  refine wpAnyH_ready (rs := [3]) (by kernel_rfl) (by simp) ?_
  refine AllReadyH.cons (o := _) rfl (fun K hK => ?_) AllReadyH.nil
  go_simp
  refine (unhide c6 _).mono ?_
  rintro e v8 ⟨rfl, hbv⟩
  refine hK.out _ _ (unhide KB _ _ hHeld hbv) (fun hHeld2 => ?_)
  clear hK K hHeld hbv
  have hHeld := hHeld2
  clear hHeld2
  try simp only [Act.put, List.getElem_toArray, List.getElem_cons_succ, List.getElem_cons_zero, List.setIfInBounds_toArray, List.set_cons_zero, List.set_cons_succ]
  refine wpAnyH_ready (rs := [5]) (by kernel_rfl) (by simp) ?_
  refine AllReadyH.cons (o := _) rfl (fun K hK => ?_) AllReadyH.nil
  go_simp
  refine (unhide c7 _).mono ?_
  rintro e v9 ⟨rfl, hbv⟩
  refine hK.out _ _ (unhide KB _ _ hHeld hbv) (fun hHeld2 => ?_)
  clear hK K hHeld hbv
  have hHeld := hHeld2
  clear hHeld2
  try simp only [Act.put, List.getElem_toArray, List.getElem_cons_succ, List.getElem_cons_zero, List.setIfInBounds_toArray, List.set_cons_zero, List.set_cons_succ]
  refine wpAnyH_take (i := 6) (oi := _) (v := .bool true) rfl (by kernel_rfl) (by kernel_rfl) (by kernel_rfl) (fun _ _ _ h => h) (Or.inl ⟨by kernel_rfl, fun w _ => by go_simp⟩) hHeld ?_
  try simp only [Act.put, List.getElem_toArray, List.getElem_cons_succ, List.getElem_cons_zero, List.setIfInBounds_toArray, List.set_cons_zero, List.set_cons_succ]
  refine wpAnyH_take (i := 7) (oi := _) (v := .bool true) rfl (by kernel_rfl) (by kernel_rfl) (by kernel_rfl) (fun _ _ _ h => h) (Or.inl ⟨by kernel_rfl, fun w _ => by go_simp⟩) hHeld ?_
  try simp only [Act.put, List.getElem_toArray, List.getElem_cons_succ, List.getElem_cons_zero, List.setIfInBounds_toArray, List.set_cons_zero, List.set_cons_succ]
  refine wpAnyH_take (i := 8) (oi := _) (v := .bool true) rfl (by kernel_rfl) (by kernel_rfl) (by kernel_rfl) (fun _ _ _ h => h) (Or.inl ⟨by kernel_rfl, fun w _ => by go_simp⟩) hHeld ?_
  try simp only [Act.put, List.getElem_toArray, List.getElem_cons_succ, List.getElem_cons_zero, List.setIfInBounds_toArray, List.set_cons_zero, List.set_cons_succ]
  refine wpAnyH_take (i := 9) (oi := _) (v := I n) rfl (by kernel_rfl) (by kernel_rfl) (by kernel_rfl) (fun _ _ _ h => h) (Or.inl ⟨by kernel_rfl, fun w _ => by go_simp⟩) hHeld ?_
  try simp only [Act.put, List.getElem_toArray, List.getElem_cons_succ, List.getElem_cons_zero, List.setIfInBounds_toArray, List.set_cons_zero, List.set_cons_succ]
  refine wpAnyH_take (i := 10) (oi := _) (v := I n) rfl (by kernel_rfl) (by kernel_rfl) (by kernel_rfl) (fun _ _ _ h => h) (Or.inl ⟨by kernel_rfl, fun w _ => by go_simp⟩) hHeld ?_
  try simp only [Act.put, List.getElem_toArray, List.getElem_cons_succ, List.getElem_cons_zero, List.setIfInBounds_toArray, List.set_cons_zero, List.set_cons_succ]
  refine wpAnyH_take (i := 11) (oi := _) (v := .bool true) rfl (by kernel_rfl) (by kernel_rfl) (by kernel_rfl) (fun _ _ _ h => h) (Or.inl ⟨by kernel_rfl, fun w _ => by go_simp⟩) hHeld ?_
  try simp only [Act.put, List.getElem_toArray, List.getElem_cons_succ, List.getElem_cons_zero, List.setIfInBounds_toArray, List.set_cons_zero, List.set_cons_succ]
  refine wpAnyH_take (i := 12) (oi := _) (v := .bool true) rfl (by kernel_rfl) (by kernel_rfl) (by kernel_rfl) (fun _ _ _ h => h) (Or.inl ⟨by kernel_rfl, fun w _ => by go_simp⟩) hHeld ?_
  try simp only [Act.put, List.getElem_toArray, List.getElem_cons_succ, List.getElem_cons_zero, List.setIfInBounds_toArray, List.set_cons_zero, List.set_cons_succ]
  refine wpAnyH_take (i := 13) (oi := _) (v := .bool true) rfl (by kernel_rfl) (by kernel_rfl) (by kernel_rfl) (fun _ _ _ h => h) (Or.inl ⟨by kernel_rfl, fun w _ => by go_simp⟩) hHeld ?_
  try simp only [Act.put, List.getElem_toArray, List.getElem_cons_succ, List.getElem_cons_zero, List.setIfInBounds_toArray, List.set_cons_zero, List.set_cons_succ]
  refine wpAnyH_take (i := 14) (oi := _) (v := I (e1 : Int)) rfl (by kernel_rfl) (by kernel_rfl) (by kernel_rfl) (fun _ _ _ h => h) (Or.inl ⟨by kernel_rfl, fun w _ => by go_simp⟩) hHeld ?_
  try simp only [Act.put, List.getElem_toArray, List.getElem_cons_succ, List.getElem_cons_zero, List.setIfInBounds_toArray, List.set_cons_zero, List.set_cons_succ]
  refine wpAnyH_take (i := 15) (oi := _) (v := I (e1 : Int)) rfl (by kernel_rfl) (by kernel_rfl) (by kernel_rfl) (fun _ _ _ h => h) (Or.inl ⟨by kernel_rfl, fun w _ => by go_simp⟩) hHeld ?_
  try simp only [Act.put, List.getElem_toArray, List.getElem_cons_succ, List.getElem_cons_zero, List.setIfInBounds_toArray, List.set_cons_zero, List.set_cons_succ]
  refine wpAnyH_take (i := 16) (oi := _) (v := .bool true) rfl (by kernel_rfl) (by kernel_rfl) (by kernel_rfl) (fun _ _ _ h => h) (Or.inl ⟨by kernel_rfl, fun w _ => by go_simp⟩) hHeld ?_
  try simp only [Act.put, List.getElem_toArray, List.getElem_cons_succ, List.getElem_cons_zero, List.setIfInBounds_toArray, List.set_cons_zero, List.set_cons_succ]
  refine wpAnyH_take (i := 17) (oi := _) (v := .bool true) rfl (by kernel_rfl) (by kernel_rfl) (by kernel_rfl) (fun _ _ _ h => h) (Or.inl ⟨by kernel_rfl, fun w _ => by go_simp⟩) hHeld ?_
  try simp only [Act.put, List.getElem_toArray, List.getElem_cons_succ, List.getElem_cons_zero, List.setIfInBounds_toArray, List.set_cons_zero, List.set_cons_succ]
  refine wpAnyH_take (i := 18) (oi := _) (v := .bool true) rfl (by kernel_rfl) (by kernel_rfl) (by kernel_rfl) (fun _ _ _ h => h) (Or.inl ⟨by kernel_rfl, fun w _ => by go_simp⟩) hHeld ?_
  try simp only [Act.put, List.getElem_toArray, List.getElem_cons_succ, List.getElem_cons_zero, List.setIfInBounds_toArray, List.set_cons_zero, List.set_cons_succ]
  refine wpAnyH_take (i := 19) (oi := _) (v := A16 b) rfl (by kernel_rfl) (by kernel_rfl) (by kernel_rfl) (fun _ _ _ h => h) (yieldsIf_load16 (by kernel_rfl) _ rfl E rfl (unhide HB16) fun w h => h.2.2.rb) hHeld ?_
  try simp only [Act.put, List.getElem_toArray, List.getElem_cons_succ, List.getElem_cons_zero, List.setIfInBounds_toArray, List.set_cons_zero, List.set_cons_succ]
  refine wpAnyH_take (i := 20) (oi := _) (v := A16 b) rfl (by kernel_rfl) (by kernel_rfl) (by kernel_rfl) (fun _ _ _ h => h) (yieldsIf_load16 (by kernel_rfl) _ rfl F rfl (unhide HB16) fun w h => h.2.2.rc) hHeld ?_
  try simp only [Act.put, List.getElem_toArray, List.getElem_cons_succ, List.getElem_cons_zero, List.setIfInBounds_toArray, List.set_cons_zero, List.set_cons_succ]
  refine wpAnyH_take (i := 21) (oi := _) (v := .bool true) rfl (by kernel_rfl) (by kernel_rfl) (by kernel_rfl) (fun _ _ _ h => h) (Or.inl ⟨by kernel_rfl, fun w _ => by go_simp⟩) hHeld ?_
  try simp only [Act.put, List.getElem_toArray, List.getElem_cons_succ, List.getElem_cons_zero, List.setIfInBounds_toArray, List.set_cons_zero, List.set_cons_succ]
  refine wpAnyH_take (i := 22) (oi := _) (v := .bool true) rfl (by kernel_rfl) (by kernel_rfl) (by kernel_rfl) (fun _ _ _ h => h) (Or.inl ⟨by kernel_rfl, fun w _ => by go_simp⟩) hHeld ?_
  try simp only [Act.put, List.getElem_toArray, List.getElem_cons_succ, List.getElem_cons_zero, List.setIfInBounds_toArray, List.set_cons_zero, List.set_cons_succ]
  refine wpAnyH_take (i := 23) (oi := _) (v := .bool true) rfl (by kernel_rfl) (by kernel_rfl) (by kernel_rfl) (fun _ _ _ h => h) (Or.inl ⟨by kernel_rfl, fun w _ => by go_simp⟩) hHeld ?_
  try simp only [Act.put, List.getElem_toArray, List.getElem_cons_succ, List.getElem_cons_zero, List.setIfInBounds_toArray, List.set_cons_zero, List.set_cons_succ]
  refine wpAnyH_take (i := 24) (oi := _) (v := I (e2 : Int)) rfl (by kernel_rfl) (by kernel_rfl) (by kernel_rfl) (fun _ _ _ h => h) (Or.inl ⟨by kernel_rfl, fun w _ => by go_simp⟩) hHeld ?_
  try simp only [Act.put, List.getElem_toArray, List.getElem_cons_succ, List.getElem_cons_zero, List.setIfInBounds_toArray, List.set_cons_zero, List.set_cons_succ]
  refine wpAnyH_take (i := 25) (oi := _) (v := I (e2 : Int)) rfl (by kernel_rfl) (by kernel_rfl) (by kernel_rfl) (fun _ _ _ h => h) (Or.inl ⟨by kernel_rfl, fun w _ => by go_simp⟩) hHeld ?_
  try simp only [Act.put, List.getElem_toArray, List.getElem_cons_succ, List.getElem_cons_zero, List.setIfInBounds_toArray, List.set_cons_zero, List.set_cons_succ]
  refine wpAnyH_take (i := 26) (oi := _) (v := .bool true) rfl (by kernel_rfl) (by kernel_rfl) (by kernel_rfl) (fun _ _ _ h => h) (Or.inl ⟨by kernel_rfl, fun w _ => by go_simp⟩) hHeld ?_
  try simp only [Act.put, List.getElem_toArray, List.getElem_cons_succ, List.getElem_cons_zero, List.setIfInBounds_toArray, List.set_cons_zero, List.set_cons_succ]
  refine wpAnyH_take (i := 27) (oi := _) (v := .bool true) rfl (by kernel_rfl) (by kernel_rfl) (by kernel_rfl) (fun _ _ _ h => h) (Or.inl ⟨by kernel_rfl, fun w _ => by go_simp⟩) hHeld ?_
  try simp only [Act.put, List.getElem_toArray, List.getElem_cons_succ, List.getElem_cons_zero, List.setIfInBounds_toArray, List.set_cons_zero, List.set_cons_succ]
  refine wpAnyH_take (i := 28) (oi := _) (v := .bool true) rfl (by kernel_rfl) (by kernel_rfl) (by kernel_rfl) (fun _ _ _ h => h) (Or.inl ⟨by kernel_rfl, fun w _ => by go_simp⟩) hHeld ?_
  try simp only [Act.put, List.getElem_toArray, List.getElem_cons_succ, List.getElem_cons_zero, List.setIfInBounds_toArray, List.set_cons_zero, List.set_cons_succ]
  refine wpAnyH_done (by kernel_rfl) ?_ _
  refine NoPanic.normal ?_
  go_wp2_with fail
  go_ret
  rw [← unhide HD]
  exact ⟨rfl, hHeld.1⟩

set_option maxHeartbeats 2000000 in
set_option maxRecDepth 100000 in
theorem codeWrites_any (l : List Int) (s b : Bytes) (n : Int) (w : World) (hl : l.length = 16) (hs : s.length ≤ 4611686018427387904) (hb : b.length ≤ 140737488355328) (hn1 : -9223372036854775808 ≤ n) (hn2 : n ≤ 9223372036854775807) :
    Calls Try.prog 12 #[A16 l, S s, S b, I n] w fun e w' => e = .returned (.bool true) ∧ Below w.heap.size w w' := by
  have c1 := hide (fun (W : World) => codeWrite_any codeWords_any l s W hl)
  have c2 := hide (fun (W : World) => writeCode_any l s W hl hs)
  have c3 := hide (fun (W : World) => codeRead_any codeWords_any l b n W hl hb hn1 hn2)
  have c4 := hide (fun (W : World) => readCode_any l b n W hl (by omega) hn1 hn2)
  have c5 := hide (fun (W : World) => codeBegun_any W)
  obtain ⟨e1, he1⟩ : ∃ e, e = writeE l s := ⟨_, rfl⟩
  obtain ⟨e2, he2⟩ : ∃ e, e = readE l b n := ⟨_, rfl⟩
  obtain ⟨s1, hs1⟩ : ∃ e, e = writeS l s := ⟨_, rfl⟩
  obtain ⟨s2, hs2⟩ : ∃ e, e = readS l b n := ⟨_, rfl⟩
  rw [← he1, ← hs1] at c1 c2
  rw [← he2, ← hs2] at c3 c4
  have HL := hide hl
  obtain ⟨D, hD⟩ : ∃ D, D = w.heap.size := ⟨_, rfl⟩
  obtain ⟨w0, hw0⟩ : ∃ w0, w0 = w.alloc (.cells (cells16 l) 64) := ⟨_, rfl⟩
  have H0 := hide (show w0.heap[D]? = some (.cells (cells16 l) 64 (0, 0)) ∧ Below D w w0 from ⟨by rw [hw0, hD]; exact heap_alloc_new _ _, by rw [hw0, hD]; exact (Below.refl _ _).alloc (Nat.le_refl _) _⟩)
  have s0 : D + 1 ≤ w0.heap.size := by rw [hw0, hD]; simp
  have HD := hide hD
  clear hl hs hb hn1 hn2 he1 he2 hs1 hs2 hD
  go_enter Try.func12, Try.ntmps12
  go_upto_region 1 with fail
  rw [← hw0, ← unhide HD]
  clear hw0
  go_wp2_with (first
    | (refine wpList_load16 rfl (.tmp 4) rfl D rfl l (unhide HL) (unhide H0).1 ?_))
  refine (unhide c1 _).mono ?_
  rintro e w1 ⟨rfl, hb1⟩
  have H1 := hide (And.intro ((hb1.block D (by omega)).trans (unhide H0).1) ((unhide H0).2.trans (hb1.mono (by omega))))
  have s1x := Nat.le_trans s0 hb1.size
  clear hb1 s0
  go_wp2_with (first
    | (refine wpList_load16 rfl (.tmp 4) rfl D rfl l (unhide HL) (unhide H1).1 ?_))
  refine (unhide c2 _).mono ?_
  rintro e w2 ⟨rfl, hb2⟩
  have H2 := hide (And.intro ((hb2.block D (by omega)).trans (unhide H1).1) ((unhide H1).2.trans (hb2.mono (by omega))))
  have s2x := Nat.le_trans s1x hb2.size
  clear hb2 s1x
  go_wp2_with (first
    | (refine wpList_load16 rfl (.tmp 4) rfl D rfl l (unhide HL) (unhide H2).1 ?_))
  refine (unhide c3 _).mono ?_
  rintro e w3 ⟨rfl, hb3⟩
  have H3 := hide (And.intro ((hb3.block D (by omega)).trans (unhide H2).1) ((unhide H2).2.trans (hb3.mono (by omega))))
  have s3x := Nat.le_trans s2x hb3.size
  clear hb3 s2x
  go_wp2_with (first
    | (refine wpList_load16 rfl (.tmp 4) rfl D rfl l (unhide HL) (unhide H3).1 ?_))
  refine (unhide c4 _).mono ?_
  rintro e w4 ⟨rfl, hb4⟩
  have H4 := hide ((unhide H3).2.trans (hb4.mono (by omega)))
  have s4x := Nat.le_trans s3x hb4.size
  clear hb4 s3x
  go_wp2_with fail
  refine (unhide c5 _).mono ?_
  rintro e w5 ⟨rfl, hb5⟩
  have H5 := hide ((unhide H4).trans (hb5.mono (by omega)))
  clear hb5
  go_wp2_with fail
  go_ret
  rw [← unhide HD]
  exact ⟨rfl, unhide H5⟩

end Go.Proofs.Ytgfkkjcnnecefaa

/- An argument that is a slice of toks, opened: it reads as a list. ('open_slice_fields' is from the guide's page of lemmas to copy.) -/
namespace Go.Proofs.Ytgfkkjcnnecefaa
open Go.ChangeShapes Go.WideShapes Go.Deep Go.RowKit Pl
section
variable {H : Type} {enc : TypeId × Value → H} {P : Program} {w : World} {base : Nat} {spare : Nat → Bool} {held : Bool}
theorem open_slice_fields {t e : TypeId} {fs : Array Field} {fuel : Nat} {cs : List Value} {x : DataW H × List MemPlace} (ht : P.underlying t = some (.slice e)) (he : P.underlying e = some (.struct fs))
    (hone : oneCellFields P fs = true) (hC : P.cellsOf e = fs.size) (h : DataW.trod enc P w base spare held fuel t cs = some x) :
    (cs = [.slice none 0 0] ∧ x = (.nil, [])) ∨
    ∃ (a : Addr) (len cap m : Nat) (D : Nat → DataW H) (Pl : Nat → List MemPlace), cs = [.slice (some a) len cap] ∧ base ≤ a.block ∧ len ≤ cap ∧ cap ≤ maxLen ∧ m = (if spare a.block then cap else len) ∧
      x = (.slice ((List.range len).map D) ((List.range (m - len)).map fun j => D (len + j)), MemPlace.row a (m * fs.size) ++ (List.range m).flatMap Pl) ∧
      ∀ i, i < m → ∃ (ys : List (DataW H × List MemPlace)) (n : Nat), D i = .agg (ys.map (·.1)) ∧ Pl i = ys.flatMap (·.2) ∧ ys.length = fs.size ∧
        ∀ (j : Nat) (f : Field), fs[j]? = some f → ∃ (v : Value) (y : DataW H × List MemPlace), w.cell? (a.add (i * fs.size + j)) = some v ∧ ys[j]? = some y ∧ DataW.trod enc P w base spare held n f.type [v] = some y := by
  rcases open_slice ht h with h0 | ⟨a, len, cap, m, n, D, Pl, hcs, hb, hl, hm, hmm, hx, hi⟩
  · exact .inl h0
  · refine .inr ⟨a, len, cap, m, D, Pl, hcs, hb, hl, hm, hmm, by rw [hC] at hx; exact hx, fun i him => ?_⟩
    obtain ⟨cs', hc, ht'⟩ := hi i him
    rw [hC] at hc
    obtain ⟨ys, n', hn', hy, hlen, hyl, hf⟩ := DataW.trod_struct he ht'
    obtain ⟨_, hcl, hat⟩ := World.cells?_some hc
    simp only [Prod.mk.injEq] at hy
    refine ⟨ys, n', hy.1, hy.2, hyl, fun j f hj => ?_⟩
    obtain ⟨ho, hk⟩ := hone_of hone j f hj
    have hjl : j < fs.size := (Array.getElem?_eq_some_iff.1 hj).1
    have hcell := hat j hjl
    have hv : cs'[j]? = some (cs'[j]'(by omega)) := List.getElem?_eq_getElem (by omega)
    have h1 := hf j f hj
    rw [ho, hk] at h1
    have hone' : (cs'.drop j).take 1 = [cs'[j]'(by omega)] := by
      rw [List.drop_eq_getElem_cons (by omega)]
      rfl
    rw [hone'] at h1
    have hys : ys[j]? = some (ys[j]'(by omega)) := List.getElem?_eq_getElem (by omega)
    refine ⟨_, _, ?_, hys, h1.trans hys⟩
    rw [← Go.Deep.add_add, hcell, hv]
end

theorem trodAll_pa {H : Type} {enc : TypeId × Value → H} {P : Program} {w : World} {base : Nat} {spare : Nat → Bool} {held : Bool} {ts : List TypeId} {vs : List Value} {ds : List (DataW H)} {p p' : List MemPlace} (h : DataW.TrodAll enc P w base spare held ts vs ds p) (e : p = p') : DataW.TrodAll enc P w base spare held ts vs ds p' := e ▸ h

theorem list_of {α : Type} (n : Nat) (p : Nat → α → Prop) (h : ∀ i, i < n → ∃ a, p i a) : ∃ l : List α, l.length = n ∧ ∀ i a, l[i]? = some a → p i a := by
  induction n with
  | zero => exact ⟨[], rfl, by simp⟩
  | succ n ih =>
    obtain ⟨l, hl, hp⟩ := ih fun i hi => h i (by omega)
    obtain ⟨a, ha⟩ := h n (by omega)
    refine ⟨l ++ [a], by simp [hl], fun i b hb => ?_⟩
    by_cases hi : i < n
    · rw [List.getElem?_append_left (by omega)] at hb; exact hp i b hb
    · rw [List.getElem?_append_right (by omega)] at hb
      have h0 : i - l.length = 0 := by
        rcases Nat.eq_zero_or_pos (i - l.length) with h0 | h0
        · exact h0
        · rw [List.getElem?_eq_none (by simp; omega)] at hb; cases hb
      rw [h0] at hb
      simp at hb
      subst hb
      have : i = n := by omega
      subst this; exact ha

set_option maxRecDepth 100000 in
theorem open_toks {H : Type} {enc : TypeId × Value → H} {w : World} {base : Nat} {v : Value} {d : DataW H} {p : List MemPlace}
    (hok : Value.okWide Try.prog w .any base 40 v) (h : DataW.Trod enc Try.prog w 0 (fun _ => true) true 40 v d p) (hlt : ∀ x ∈ p, x.block < w.heap.size) :
    ∃ A n cap l, v = .slice A n cap ∧ ToksAt w w.heap.size A n l ∧ (n = 0 ∨ ∃ es rest, d = .slice es rest ∧ es.length = n) := by
  obtain ⟨A, n, cap, rfl⟩ := okWide_slice Try.underlying40 hok
  obtain ⟨fuel, hf⟩ := h
  have hf : DataW.trod enc Try.prog w 0 (fun _ => true) true fuel 40 [.slice A n cap] = some (d, p) := hf
  rcases open_slice_fields Try.underlying40 Try.underlying80 (by kernel_rfl) (by kernel_rfl) hf with ⟨hcs, hx⟩ | ⟨a, len, cap', m, D, Pl, hcs, _, hlc, hcm, hm, hx, hi⟩
  · injection hcs with hcs
    injection hcs with h1 h2 h3
    subst h1; subst h2
    exact ⟨_, _, _, [], rfl, ⟨rfl, fun h => absurd h (by omega)⟩, .inl rfl⟩
  · injection hcs with hcs
    injection hcs with h1 h2 h3
    subst h1; subst h2; subst h3
    have hm : m = cap := by simpa using hm
    subst hm
    injection hx with hd hp
    have hl : ∀ i, i < n → ∃ t : Tok, w.cell? (a.add (i * 3)) = some (S t.lit) ∧ w.cell? (a.add (i * 3 + 1)) = some (I t.far) ∧ w.cell? (a.add (i * 3 + 2)) = some (I t.len) := by
      intro i hin
      obtain ⟨ys, k, _, _, _, hf⟩ := hi i (by omega)
      obtain ⟨v0, y0, c0, _, t0⟩ := hf 0 _ rfl
      obtain ⟨v1, y1, c1, _, t1⟩ := hf 1 _ rfl
      obtain ⟨v2, y2, c2, _, t2⟩ := hf 2 _ rfl
      obtain ⟨s, hs, _, _⟩ := DataW.trod_string Try.underlying9 t0
      obtain ⟨x, hx, _, _⟩ := DataW.trod_int Try.underlying3 t1
      obtain ⟨z, hz, _, _⟩ := DataW.trod_int Try.underlying3 t2
      injection hs with hs
      injection hx with hx
      injection hz with hz
      subst hs; subst hx; subst hz
      exact ⟨⟨s.data.toList, x, z⟩, c0, c1, c2⟩
    obtain ⟨l, hll, hlp⟩ := list_of n _ hl
    refine ⟨_, n, m, l, rfl, ⟨hll, fun hn => ?_⟩, .inr ⟨_, _, hd, by simp⟩⟩
    obtain ⟨b, off, spot⟩ := a
    have hspot : spot = none := by
      obtain ⟨t, c0, _⟩ := hl 0 hn
      simpa [Addr.add] using World.cell?_spot c0
    subst hspot
    have hb : b < w.heap.size := by
      refine hlt (.cell b off) ?_
      rw [hp]
      exact List.mem_append_left _ (MemPlace.mem_row.2 ⟨0, by simp; omega, rfl⟩)
    refine ⟨b, off, rfl, hb, fun i t ht => ?_⟩
    have := hlp i t ht
    simpa only [Go.WideShapes.add_plain, Nat.add_assoc] using this

end Go.Proofs.Ytgfkkjcnnecefaa

/- An argument that is an array of 16 numbers, opened. -/
namespace Go.Proofs.Ytgfkkjcnnecefaa
open Go.ChangeShapes Go.WideShapes Go.Deep Go.RowKit Pl

theorem mapM_each {α β : Type} {f : α → Option β} : ∀ (L : List α) (xs : List β), L.mapM f = some xs → ∀ i ∈ L, ∃ y, f i = some y
  | [], _, _, i, hi => by cases hi
  | a :: L, xs, h, i, hi => by
    rw [List.mapM_cons] at h
    simp only [bind, Option.bind_eq_some_iff, pure, Option.some.injEq] at h
    obtain ⟨y, hy, ys, hys, rfl⟩ := h
    rcases List.mem_cons.1 hi with rfl | hi
    · exact ⟨y, hy⟩
    · exact mapM_each L ys hys i hi
theorem ints_list : ∀ (l : List Value), (∀ i, i < l.length → ∃ a, l[i]? = some (Value.int .i64 a)) → ∃ xs : List Int, l = xs.map (Value.int .i64)
  | [], _ => ⟨[], rfl⟩
  | v :: l, h => by
    obtain ⟨a, ha⟩ := h 0 (by simp)
    obtain ⟨xs, hx⟩ := ints_list l fun i hi => by
      have := h (i + 1) (by simpa using hi)
      simpa using this
    refine ⟨a :: xs, ?_⟩
    rw [List.map_cons, hx]
    congr 1
    simpa using ha

set_option maxRecDepth 10000 in
theorem open_arr16 {H : Type} {enc : TypeId × Value → H} {w : World} {base : Nat} {v : Value} {d : DataW H} {p : List MemPlace}
    (hok : Value.okWide Try.prog w .any base 64 v) (h : DataW.Trod enc Try.prog w 0 (fun _ => true) true 64 v d p) : ∃ l : List Int, v = A16 l ∧ l.length = 16 := by
  have hu := Try.underlying64
  have hc1 : Try.prog.cellsOf 3 = 1 := by kernel_rfl
  have hc16 : Try.prog.cellsOf 64 = 16 := by kernel_rfl
  simp only [Value.okWide, hu] at hok
  obtain ⟨cs, rfl, h2, _⟩ := hok
  rw [hc16] at h2
  obtain ⟨fuel, hf⟩ := h
  cases fuel with
  | zero => simp [DataW.trod] at hf
  | succ m =>
    rw [DataW.trod_step] at hf
    unfold DataW.trodStep at hf
    simp only [hu, Value.cells] at hf
    rw [if_pos (by rw [hc16]; simpa using h2)] at hf
    simp only [Option.map_eq_some_iff] at hf
    obtain ⟨ys, hy, e1⟩ := hf
    have hall := mapM_each _ _ hy
    obtain ⟨xs, hx⟩ := ints_list cs.toList fun i hi => by
      have hi16 : i < 16 := by rw [Array.length_toList] at hi; omega
      obtain ⟨y, hyi⟩ := hall i (by simpa using hi16)
      obtain ⟨a, ea, _, _⟩ := DataW.trod_int Try.underlying3 hyi
      rw [hc1, Nat.mul_one] at ea
      refine ⟨a, ?_⟩
      have := congrArg (fun l : List Value => l[0]?) ea
      simpa [List.getElem?_take, List.getElem?_drop] using this
    refine ⟨xs, ?_, ?_⟩
    · show Value.agg cs = Value.agg (xs.map (Value.int .i64)).toArray
      rw [← hx]
    · have := congrArg List.length hx
      rw [List.length_map, Array.length_toList] at this
      omega

end Go.Proofs.Ytgfkkjcnnecefaa

namespace Go.Proofs.Ytgfkkjcnnecefaa.codeWrites
open Go.ChangeShapes Go.WideShapes Go.ChangeAt Go.RowKit
open Go.ChangeMaps (open_string shut_string)

set_option maxRecDepth 100000 in
theorem lifted (os : Os) (started : os.Started) (H : Type) (enc : TypeId × Value → H) :
    ReturnsInHanded {} Try.checked os 12 .any (Rows.codeWritesSpec.pre6 enc Try.prog Try.f12 Rows.codeWritesRow.domain false) (Rows.codeWritesSpec.post enc Try.prog Try.f12 false true false false) := by
  refine returnsInHanded_of_change_sized (C := Try.checked) Try.own started (by kernel_rfl) Try.func12
    (ChangeSpec.witness6 (enc := enc) (C := Try.checked) false ⟨#[], #[.agg #[.int .i64 0, .int .i64 0, .int .i64 0, .int .i64 0, .int .i64 0, .int .i64 0, .int .i64 0, .int .i64 0, .int .i64 0, .int .i64 0, .int .i64 0, .int .i64 0, .int .i64 0, .int .i64 0, .int .i64 0, .int .i64 0], .string ByteArray.empty, .string ByteArray.empty, .int .i64 0], []⟩ 8 (by kernel_rfl) (by kernel_rfl) (by kernel_rfl) (by kernel_rfl)) ?_
  intro W base args ds gs before hval0 hW _hcnd hsz0 _
  have hval : ∀ (j : Nat) t v, Try.f12.params[j]? = some t → args[j]? = some v → Value.okWide Try.prog W .any base t v := hval0
  have hsz : (DataW.weightsEach Try.prog (Try.f12.params.toList ++ Rows.codeWritesSpec.plain.varTypes Try.prog) (ds ++ gs)).all (· ≤ reachBytes) = true := hsz0
  have hW' := hW
  obtain ⟨p, q, hA0, hV, rfl, _hfz, _hnd⟩ := hW
  have hA : DataW.TrodAll enc Try.prog W 0 (fun _ => true) true Try.f12.params.toList args.toList ds p := hA0
  rw [Try.params12] at hA hval hsz
  obtain ⟨v0, vs0, d0, ds0, p0, q0, hargs, rfl, rfl, h0, r0⟩ := trodAll_cons hA
  obtain ⟨v1, vs1, d1, ds1, p1, q1, rfl, rfl, rfl, h1, r1⟩ := trodAll_cons r0
  obtain ⟨v2, vs2, d2, ds2, p2, q2, rfl, rfl, rfl, h2, r2⟩ := trodAll_cons r1
  obtain ⟨v3, vs3, d3, ds3, p3, q3, rfl, rfl, rfl, h3, r3⟩ := trodAll_cons r2
  obtain ⟨rfl, rfl, rfl⟩ := trodAll_nil r3
  obtain rfl : args = #[v0, v1, v2, v3] := by cases args; simp_all
  obtain ⟨rfl, rfl⟩ := trodVars_none hV
  have h0k := h0
  have hlt0 : ∀ x ∈ p0, x.block < W.heap.size := fun x hx => hW'.lt x (by simp [hx])
  obtain ⟨a0, rfl, z0⟩ := open_arr16 (hval 0 64 v0 rfl rfl) h0
  obtain ⟨a1, rfl, rfl, rfl, w1⟩ := open_string Try.underlying9 (hval 1 9 v1 rfl rfl) h1
  have l1 := sized_string hsz (j := 1) (t := 9) rfl rfl
  obtain ⟨a2, rfl, rfl, rfl, w2⟩ := open_string Try.underlying9 (hval 2 9 v2 rfl rfl) h2
  have l2 := sized_string hsz (j := 2) (t := 9) rfl rfl
  obtain ⟨a3, rfl, rfl, rfl, w3⟩ := open_int Try.underlying3 (hval 3 3 v3 rfl rfl) h3
  clear hA0 hval0 hsz0 hsz
  simp only [List.append_nil] at hW'
  have z1 : a1.data.toList.length ≤ 140737488351232 := l1
  have z2 : a2.data.toList.length ≤ 140737488351232 := l2
  refine (codeWrites_any a0 a1.data.toList a2.data.toList a3 W z0 (Nat.le_trans z1 (by decide)) (Nat.le_trans z2 (by decide)) (bounds_i64 w3).1 (bounds_i64 w3).2).mono fun e W' ⟨he, hg⟩ => ?_
  subst he
  exact ⟨_, rfl, post_of_below (pa := p0) (pv := []) hW' (fun _ _ _ => (trodAll_cons_mk (shut_bool Try.underlying4 _) trodAll_mk0)) (fun sp hsp => trodAll_pa (trodAll_cons_mk (Go.WideElems.Trod_stays Try.laidOut (by kernel_rfl) (of_decide_eq_true (by kernel_rfl)) h0k (fun x hx => hg.same (hlt0 x hx)) (fun x hx => hsp x (by simp [hx]))) (trodAll_cons_mk (shut_string Try.underlying9 w1) (trodAll_cons_mk (shut_string Try.underlying9 w2) (trodAll_cons_mk (shut_int Try.underlying3 w3) trodAll_mk0)))) (by simp)) (fun _ _ => rfl) (by simp)
    hg (ok_one (by kernel_rfl) rfl (okWide_bool_mk Try.underlying4 _))⟩

theorem proved : Rows.CodeWritesSaid :=
  OpenClaim.holds_of_wide 12 Try.f12 rfl rfl rfl rfl rfl rfl rfl ⟨rfl, rfl, rfl, rfl, rfl⟩ rfl rfl rfl rfl rfl (by kernel_rfl) Try.func12 (by kernel_rfl)
    (of_decide_eq_true (by kernel_rfl)) (by unfold Func.isWrapper; first | (rw [if_pos (by decide +kernel)]; kernel_rfl) | (rw [if_neg (by decide +kernel)]; exact ⟨rfl, rfl⟩))
    (fun os started H enc _ => lifted os started H enc)
end Go.Proofs.Ytgfkkjcnnecefaa.codeWrites
