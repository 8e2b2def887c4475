/- CodeBest: for every input the law returns true, and the input reads as it did. No condition. -/
import Derived.Test.YtgfkkjcnnecefabCtG5
import Derived.Laws.StructEq
import Derived.Deep.RegionHeld3
import Derived.Laws.Rows
import Derived.Deep.Slices
import Derived.Deep.Fields
import Derived.ChangeSame
import Derived.Carry
import Derived.OpenVars
import Derived.WideKeyArr2

/- The walk of the program's words. -/
namespace Go.Proofs.Ytgfkkjcnnecefab
open Go.RowKit Go.Lib Pl

theorem add_wrap {a b : Nat} (ha : a ≤ 32768) (hb : b ≤ 32768) : wrap64 ((a : Int) + (b : Int)) = ((a + b : Nat) : Int) := IntWalk.wrap64_in _ ⟨by omega, by omega⟩
/-- the words of the first so many signs are laid -/
structure WordsAt (l : List Int) (w wr : World) (B D : Nat) (f : Nat → Nat × Nat) : Prop where
  a : wr.heap[B]? = some (.cells (cells16 l) 22 (0, 0))
  z : wr.heap[B + 1]? = some (.cells (cellsP fun _ => (0, 0)) 39 (0, 0))
  o : wr.heap[D]? = some (.cells (cellsP f) 39 (0, 0))
  bel : Below B w wr

theorem WordsAt.put {l : List Int} {w wr : World} {B D i a b : Nat} {f : Nat → Nat × Nat} (h : WordsAt l w wr B D f) (hBD : B + 2 ≤ D) (hi : i < 16) :
    WordsAt l w ((wr.setCell ⟨D, i * 2, none⟩ (.int .i64 (a : Int))).setCell ⟨D, i * 2 + 1, none⟩ (.int .i64 (b : Int))).drew B D (fun j => if j = i then (a, b) else f j) := by
  refine ⟨?_, ?_, ?_, ?_⟩
  · show ((wr.setCell _ _).setCell _ _).heap[B]? = _
    rw [heap_setCell_other _ _ _ _ (by show B ≠ D; omega), heap_setCell_other _ _ _ _ (by show B ≠ D; omega)]; exact h.a
  · show ((wr.setCell _ _).setCell _ _).heap[B + 1]? = _
    rw [heap_setCell_other _ _ _ _ (by show B + 1 ≠ D; omega), heap_setCell_other _ _ _ _ (by show B + 1 ≠ D; omega)]; exact h.z
  · show ((wr.setCell _ _).setCell _ _).heap[D]? = _
    rw [heap_setCell_same _ _ _ _ _ _ (heap_setCell_same _ _ _ _ _ _ h.o), cellsP_set _ _ _ _ hi]
  · exact ((h.bel.setCell (by show B ≤ D; omega) _).setCell (by show B ≤ D; omega) _).drew
theorem row_other {w : World} {base n g cap D j : Nat} {e : TypeId} {xs : List Value} (h : w.ownsRow base e 1 (.slice (some ⟨g, 0, none⟩) n cap) n xs) (hD : g < D) (u : Value) : (w.setCell ⟨D, j, none⟩ u).ownsRow base e 1 (.slice (some ⟨g, 0, none⟩) n cap) n xs :=
  ownsRow_setCell_other h (fun e => by simp [Value.ownBlock] at e; omega) u
theorem div_pw {s m v : Nat} (h : v * pw m = s) : (s : Int) / 2 ^ (15 - m) = (v : Int) := by
  have h1 : (2 : Int) ^ (15 - m) = ((pw m : Nat) : Int) := by unfold pw; norm_cast
  rw [h1, ← h, Int.natCast_mul]
  exact Int.mul_ediv_cancel _ (by have := pw_pos m; omega)

set_option maxHeartbeats 4000000 in
set_option maxRecDepth 100000 in
theorem codeWords_any (l : List Int) (w : World) (hr : Right l) :
    Calls Try.prog 15 #[A16 l] w fun e w' => e = .returned (AP fun j => (wv l j, ln l j)) ∧ Below w.heap.size w w' := by
  have HR := hide hr
  have hz := zero16w
  obtain ⟨w0, hw0⟩ : ∃ w0, w0 = (w.alloc (.cells (cells16 l) 22)).alloc (.cells (cellsP fun _ => (0, 0)) 39) := ⟨_, rfl⟩
  obtain ⟨B, hB⟩ : ∃ B, B = w.heap.size := ⟨_, rfl⟩
  have h1 : w0.heap[B]? = some (.cells (cells16 l) 22 (0, 0)) := by subst hB; rw [hw0]; exact heap_alloc2_old _ _ _
  have h2 : w0.heap[B + 1]? = some (.cells (cellsP fun _ => (0, 0)) 39 (0, 0)) := by subst hB; rw [hw0]; exact heap_alloc2_new _ _ _
  have h3 : Below B w w0 := by subst hB; rw [hw0]; exact ((Below.refl _ _).alloc (Nat.le_refl _) _).alloc (by simp) _
  have h4 : w0.heap.size = B + 2 := by subst hB; rw [hw0]; simp
  have H1 := hide h1
  have H2 := hide h2
  have H3 := hide h3
  have H4 := hide h4
  have HW0 := hide hw0
  have HB := hide hB
  clear hr hw0 hB h1 h2 h3 h4
  obtain ⟨i0, hi, hz0, hz1, hz2⟩ := info_parts info_int
  go_enter Try.func15, Try.ntmps15
  go_wp2_with (first
    | (refine wpList_load16 rfl (.tmp 1) rfl B (by rw [unhide HB]; rfl) l (unhide HR).len (by rw [← unhide HW0]; exact unhide H1) ?_; rw [← unhide HW0, ← unhide HB]))
  go_loopw [3, 4, 5, 11] (fun v _ _ i wr => ∃ k : Nat, k ≤ 16 ∧ i = .int .i64 k ∧ wr.ownsRow (B + 2) 3 1 v (used l k).length ((used l k).map encF) ∧ Below (B + 2) w0 wr) (fun _ _ _ i _ => 16 - (intOf i).toNat)
  case atStart => exact ⟨0, by omega, rfl, World.ownsRow_nil _ _ _ _, Below.refl _ _⟩
  case round =>
    obtain ⟨k, hk, rfl, hown, hbel⟩ := hrel
    have hsz : B + 2 ≤ wr.heap.size := by have := hbel.2; have := unhide H4; exact Nat.le_trans (by omega) hbel.size
    by_cases hk16 : k < 16
    · have hix := run_index16 l (unhide HR).len k _ (ln_get (unhide HR) hk16)
      have hul := used_len l k
      obtain ⟨m, hm⟩ : ∃ m, m = ln l k := ⟨_, rfl⟩
      rw [← hm] at hix
      by_cases hp : 0 < m
      · have hus : used l (k + 1) = used l k ++ [⟨k, hk16⟩] := by rw [used, dif_pos ⟨hk16, by rw [← hm]; exact hp⟩]
        have HUS := hide hus
        clear hus hm
        go_wp2_with (at_builtin; refine wpList_push rfl _ _ _ rfl (B + 2) 3 i0 _ 8 Try.underlying48 hi hz0 hz1 hz2 rfl _ _ _ rfl hown _ _ rfl rfl ?_ ?_ hsz ?_; (unfold maxLen; omega); omega; intro v' w' hown' hb hg; have HOWN := hide hown'; clear hown' hg)
        go_roundw
        case rel =>
          refine ⟨k + 1, by omega, by go_num, ?_, hbel.trans hb⟩
          rw [unhide HUS, List.length_append, List.map_append]
          exact unhide HOWN
        case measure => simp [intOf]; omega
      · have hus : used l (k + 1) = used l k := by rw [used, dif_neg (fun h => hp (by rw [hm]; exact h.2)), List.append_nil]
        have HUS := hide hus
        clear hus hm
        go_wp2_with fail
        go_roundw
        case rel =>
          refine ⟨k + 1, by omega, by go_num, ?_, hbel⟩
          rw [unhide HUS]; exact hown
        case measure => simp [intOf]; omega
    · have hk' : k = 16 := by omega
      subst hk'
      obtain ⟨n, hn⟩ : ∃ n, n = (used l 16).length := ⟨_, rfl⟩
      have hn0 : n ≠ 0 := by
        rw [hn]; intro e
        exact used_some (unhide HR) (List.eq_nil_of_length_eq_zero e)
      have hn16 : n ≤ 16 := by rw [hn]; exact used_len l 16
      rw [← hn] at hown
      obtain ⟨g, cap, rfl⟩ := row_at hown hn0
      have hgB : B + 2 ≤ g := (hown.lt g rfl).1
      have hb0 := (hbel.block B (by have := unhide H4; omega)).trans (unhide H1)
      have hb1 := (hbel.block (B + 1) (by have := unhide H4; omega)).trans (unhide H2)
      have KS := hide (sortStable_any l (unhide HR) B (B + 2) n g cap (used l 16) (used_lt l 16) wr hn16 hb0 (by omega) hown)
      have HB0 := hide hb0
      have HB1 := hide hb1
      have HBEL := hide hbel
      have HN := hide hn
      clear hb0 hb1 hbel hown hn
      go_wp2_with (go_at_call 26; refine (unhide KS).mono ?_; rintro e w1 ⟨rfl, p, hpm, hps, hown1, hbel1⟩; have HPM := hide hpm; have HPS := hide hps; have HOWN1 := hide hown1; have HBEL1 := hide ((unhide HBEL).trans hbel1); have HC0 := hide ((hbel1.block B (by omega)).trans (unhide HB0)); have HC1 := hide ((hbel1.block (B + 1) (by omega)).trans (unhide HB1)); clear hpm hps hown1 hbel1)
      have hpl : p.length = n := by rw [unhide HN]; exact (unhide HPM).length_eq
      have hg1 := ((unhide HOWN1).lt g rfl).2
      have hs1 : B + 2 ≤ w1.heap.size := by omega
      obtain ⟨w2, hw2⟩ : ∃ w2, w2 = w1.alloc (.cells (cellsP fun _ => (0, 0)) 39) := ⟨_, rfl⟩
      obtain ⟨D, hD⟩ : ∃ D, D = w1.heap.size := ⟨_, rfl⟩
      have hwa : WordsAt l w w2 B D (outP l p 0) := by
        rw [hw2, hD, outP_zero]
        refine ⟨(Below.heap_alloc _ _ _ (by omega)).trans (unhide HC0), (Below.heap_alloc _ _ _ (by omega)).trans (unhide HC1), heap_alloc_new _ _, ?_⟩
        exact ((unhide H3).trans ((unhide HBEL1).mono (by omega))).alloc (by omega) _
      have hown2 : w2.ownsRow (B + 2) 3 1 (.slice (some ⟨g, 0, none⟩) n cap) n (p.map encF) := by rw [hw2]; exact (unhide HOWN1).alloc _
      have hgD : g < D := by rw [hD]; exact hg1
      have hBD : B + 2 ≤ D := by rw [hD]; exact hs1
      rw [← hw2, ← hD]
      have HWA := hide hwa
      have HPL := hide hpl
      clear hw2 hD hg1 hs1 hwa hpl
      go_loopw [7, 9, 27] (fun x _ i wr => ∃ (k : Nat), k ≤ n ∧ i = .int .i64 k ∧ x = .int .i64 (sumP l (p.take k) : Nat) ∧ WordsAt l w wr B D (outP l p k) ∧ wr.ownsRow (B + 2) 3 1 (.slice (some ⟨g, 0, none⟩) n cap) n (p.map encF)) (fun _ _ i _ => n - (intOf i).toNat)
      case atStart => exact ⟨0, by omega, rfl, rfl, unhide HWA, hown2⟩
      case round =>
        obtain ⟨k, hk, rfl, rfl, hwa, hown⟩ := hrel
        have HWK := hide hwa
        by_cases hkn : k < n
        · obtain ⟨x, hx⟩ : ∃ x, p[k]? = some x := ⟨_, List.getElem?_eq_getElem (by have := unhide HPL; omega)⟩
          have hst := sum_take l (unhide HPM) (unhide HPS) hx
          have hxu := (used_mem l 16 x).1 ((unhide HPM).mem_iff.1 (List.mem_of_getElem? hx))
          have hx0 := hown.cellAt k (by omega)
          rw [List.getElem?_map, hx] at hx0
          have hx1 : wr.cell? ⟨g, k, none⟩ = some (.int .i64 (x.val : Int)) := hx0
          clear hx0
          have c1 := cell16 hwa.a (ln_get (unhide HR) x.isLt)
          have c2 : wr.cell? ⟨D, x.val * 2, none⟩ = some (I (outP l p k x).1) := by rw [cell_of_row _ _ _ _ _ _ hwa.o]; exact cellsP_get0 _ _ x.isLt
          have c3 : wr.cell? ⟨D, x.val * 2 + 1, none⟩ = some (I (outP l p k x).2) := by rw [cell_of_row _ _ _ _ _ _ hwa.o]; exact cellsP_get1 _ _ x.isLt
          have f2 := frozen_of_row _ _ (x.val * 2) _ _ hwa.o
          have f3 := frozen_of_row _ _ (x.val * 2 + 1) _ _ hwa.o
          have hwv := wv_mul l x
          have hm15 := (unhide HR).one x
          have hsl : sumP l (p.take k) ≤ 32768 := by
            rw [hst]; exact Nat.le_trans (preS_le _ _ _) (unhide HR).sum
          have hstp := outP_step l hx
          have hst2 : sumP l (p.take (k + 1)) = sumP l (p.take k) + pw (ln l x) := by rw [List.take_add_one, hx, sumP_app]; simp [sumP]
          rw [← hst] at hwv
          obtain ⟨i, hi⟩ : ∃ i, i = x.val := ⟨_, rfl⟩
          have hi16 : i < 16 := by rw [hi]; exact x.isLt
          rw [← hi] at hxu hx1 c1 c2 c3 f2 f3 hwv hm15 hstp hst2
          obtain ⟨m, hm⟩ : ∃ m, m = ln l i := ⟨_, rfl⟩
          rw [← hm] at hxu c1 hwv hm15 hstp hst2
          obtain ⟨v, hv⟩ : ∃ v, v = wv l i := ⟨_, rfl⟩
          rw [← hv] at hwv hstp
          obtain ⟨sm, hsm⟩ : ∃ sm, sm = sumP l (p.take k) := ⟨_, rfl⟩
          rw [← hsm] at hwv hsl hst2 ⊢
          have hm0 := hxu.2
          have hw15 : IntKind.i64.wrap (15 - (m : Int)) = 15 - (m : Int) := IntWalk.i64_in _ ⟨by omega, by omega⟩
          have HM := hide hm
          have HWV := hide hwv
          have HSTP := hide hstp
          have HST2 := hide hst2
          have HOW := hide hown
          have hpwl := pw_le m
          have hpww := pw_wrap m
          clear hst hxu hwv hstp hst2 hwa hi hm hv hsm hx hown
          go_wp2_with fail
          go_region
          have hdiv : (sm : Int) / 2 ^ (15 - m) = (v : Int) := div_pw (unhide HWV)
          rw [hdiv]
          obtain ⟨w3, hw3⟩ : ∃ w3, w3 = ((wr.setCell ⟨D, i * 2, none⟩ (.int .i64 (v : Int))).setCell ⟨D, i * 2 + 1, none⟩ (.int .i64 (m : Int))).drew := ⟨_, rfl⟩
          have hwa3 : WordsAt l w w3 B D (outP l p (k + 1)) := by
            rw [hw3, unhide HSTP]; exact (unhide HWK).put hBD hi16
          have hown3 : w3.ownsRow (B + 2) 3 1 (.slice (some ⟨g, 0, none⟩) n cap) n (p.map encF) := by
            rw [hw3]
            exact (row_other (row_other (unhide HOW) (by omega) _) (by omega) _).drew
          have c4 := cell16 hwa3.a (ln_get (unhide HR) hi16)
          rw [← unhide HM] at c4
          rw [← hw3]
          have HWA3 := hide hwa3
          have HOWN3 := hide hown3
          clear hdiv hw3 hwa3 hown3 c1 c2 c3 f2 f3 hx1
          go_wp2_with fail
          go_roundw
          case rel =>
            refine ⟨k + 1, by omega, by go_num, ?_, unhide HWA3, unhide HOWN3⟩
            rw [unhide HST2, add_wrap hsl hpwl]
          case measure => exact meas_up hkn
        · have hk' : k = n := by omega
          subst hk'
          have hend := outP_end (unhide HPM) (k := k) (by have := unhide HPL; omega)
          have HEND := hide hend
          clear hwa hend
          go_wp2_with (first
            | (refine wpList_load_row rfl 39 (.tmp 6) rfl D rfl 39 _ (0, 0) _ (unhide HWK).o Try.underlying39 rfl (by rw [size16w, cellsP_size]) ?_; rw [unhide HEND])
            | (refine wpList_store_row rfl 39 (.tmp 2) (.tmp 51) rfl (B + 1) _ rfl rfl 39 _ (unhide HWK).z (by rw [size16w, cellsP_size]) (by rw [cellsP_size, cellsP_size]) (cellsP_one _) ?_))
          refine bodyPost_ret (results_cell_row rfl _ _ (B + 1) 39 (cellsP fun j => (wv l j, ln l j)) (0, 0) _ rfl (setRow_heap _ _ _ _ _ _ (unhide HWK).z) Try.underlying39 rfl (by rw [size16w, cellsP_size])) rfl ⟨rfl, ?_⟩
          rw [← unhide HB]
          exact below_setRow (unhide HWK).bel (by omega) _

end Go.Proofs.Ytgfkkjcnnecefab

/- The walk of the reference's CostOf. -/
namespace Go.Proofs.Ytgfkkjcnnecefab
open Go.RowKit Go.Lib Pl


end Go.Proofs.Ytgfkkjcnnecefab

/- Two arrays of 16 numbers compared. -/
namespace Go.Proofs.Ytgfkkjcnnecefab
open Go.RowKit Go.Lib Pl

theorem all_range_eqI : ∀ (xs ys : List Int), xs.length = ys.length → ((List.range xs.length).all fun i => xs.getD i 0 == ys.getD i 0) = (xs == ys)
  | [], [], _ => rfl
  | x :: xs, y :: ys, h => by
    have ih := all_range_eqI xs ys (by simpa using h)
    rw [List.length_cons, List.range_succ_eq_map, List.all_cons, List.all_map]
    simp only [List.getD_cons_zero, Function.comp_def, List.getD_cons_succ, ih]
    simp [List.cons_beq_cons]
  | [], _ :: _, h => by simp at h
  | _ :: _, [], h => by simp at h

theorem run_equalIn16 (d : Nat) (xs ys : List Int) (hx : xs.length = 16) (hy : ys.length = 16) (w : World) :
    (Op.equalIn (d + 2) 22 (A16 xs) (A16 ys)).run Try.prog w = .ok (xs == ys) w := by
  have ht := Try.underlying22
  have he := Try.underlying3
  have hsz := Try.sizeOf3
  rw [← all_range_eqI xs ys (hx.trans hy.symm), hx, List.range_eq_range', Op.equalIn]
  simp only [Sem.run_bind, run_underlying ht, Result.andThen_ok, hsz, Std.Legacy.Range.forIn_eq_forIn_range', Std.Legacy.Range.size, Nat.sub_zero, Nat.add_sub_cancel, Nat.div_one]
  have hl : ∀ i ∈ List.range' 0 16 1, i < 16 := fun i hi => by simpa using (List.mem_range'_1.1 hi).2
  generalize List.range' 0 16 1 = l at hl ⊢
  induction l with
  | nil => simp
  | cons i l ih =>
    have hi : i < 16 := hl i (by simp)
    have px : (part 3 (cells16 xs) (i * 1)).run Try.prog w = .ok (.int .i64 (xs.getD i 0)) w := by
      simp [part, isAgg, run_underlying he, List.getD, List.getElem?_eq_getElem (show i < xs.length by omega)]
    have py : (part 3 (cells16 ys) (i * 1)).run Try.prog w = .ok (.int .i64 (ys.getD i 0)) w := by
      simp [part, isAgg, run_underlying he, List.getD, List.getElem?_eq_getElem (show i < ys.length by omega)]
    have pe : (Op.equalIn (d + 1) 3 (.int .i64 (xs.getD i 0)) (.int .i64 (ys.getD i 0))).run Try.prog w = .ok (xs.getD i 0 == ys.getD i 0) w := by
      rw [run_equalIn_int w d 3 .i64 .i64 _ _ he]
    simp only [List.forIn_cons, Sem.run_bind, px, py, pe, Result.andThen_ok, List.all_cons]
    cases hb : (xs.getD i 0 == ys.getD i 0)
    · simp
    · simp only [Bool.not_true, Bool.false_eq_true, if_false, Sem.run_pure, Result.andThen_ok, Bool.true_and]
      exact ih fun j hj => hl j (by simp [hj])
theorem eql16 (xs ys : List Int) (hx : xs.length = 16) (hy : ys.length = 16) (w : World) :
    (binOp .eql 22 (A16 xs) (A16 ys)).run Try.prog w = .ok (.bool (xs == ys)) w := by
  rw [run_eql_struct, run_equalIn16 9998 xs ys hx hy w]
  rfl
theorem eql16_same (xs : List Int) (hx : xs.length = 16) (w : World) :
    (binOp .eql 22 (A16 xs) (A16 xs)).run Try.prog w = .ok (.bool true) w := by
  rw [eql16 xs xs hx hx w, beq_self_eq_true]

end Go.Proofs.Ytgfkkjcnnecefab

/- codeBegun: what must be in any case. -/
namespace Go.Proofs.Ytgfkkjcnnecefab
open Go.RowKit Go.Lib Pl

def bc0 : List Int := [5, 2, 0, 0, 0, 0, 1, 0, 0, 0, 0, 0, 0, 0, 0, 0]
def bl0 : List Int := [1, 2, 0, 0, 0, 0, 2, 0, 0, 0, 0, 0, 0, 0, 0, 0]
def bx0 : List Int := [1, 1, 1, 0, 0, 0, 0, 0, 0, 0, 0, 0, 0, 0, 0, 0]
theorem bc0_l : lensOf bc0 = bl0 := by decide +kernel
theorem bc0_e : buildE bc0 = 0 := by decide +kernel
theorem bc0_n : costN bl0 bc0 = 11 := by decide +kernel
theorem bc0_c : costE bl0 bc0 = 0 := by decide +kernel
theorem bc0_s : writeS bl0 [0, 22] = [44] := by decide +kernel
theorem bc0_w : writeE bl0 [0, 22] = 0 := by decide +kernel
theorem bc0_r : readS bl0 [44] 2 = [0, 22] := by decide +kernel
theorem bc0_f : readE bl0 [44] 2 = 0 := by decide +kernel
theorem bx0_e : checkE bx0 = 1 := by decide +kernel
abbrev bcV : Value := .agg #[.int .i64 5, .int .i64 2, .int .i64 0, .int .i64 0, .int .i64 0, .int .i64 0, .int .i64 1, .int .i64 0, .int .i64 0, .int .i64 0, .int .i64 0, .int .i64 0, .int .i64 0, .int .i64 0, .int .i64 0, .int .i64 0]
abbrev blV : Value := .agg #[.int .i64 1, .int .i64 2, .int .i64 0, .int .i64 0, .int .i64 0, .int .i64 0, .int .i64 2, .int .i64 0, .int .i64 0, .int .i64 0, .int .i64 0, .int .i64 0, .int .i64 0, .int .i64 0, .int .i64 0, .int .i64 0]
abbrev bxV : Value := .agg #[.int .i64 1, .int .i64 1, .int .i64 1, .int .i64 0, .int .i64 0, .int .i64 0, .int .i64 0, .int .i64 0, .int .i64 0, .int .i64 0, .int .i64 0, .int .i64 0, .int .i64 0, .int .i64 0, .int .i64 0, .int .i64 0]

set_option maxHeartbeats 2000000 in
set_option maxRecDepth 100000 in
theorem codeBegun_any (w : World) : Calls Try.prog 8 #[] w fun e w' => e = .returned (.bool true) ∧ Below w.heap.size w w' := by
  have c1 := fun (W : World) => build_any bc0 W rfl
  rw [bc0_l, bc0_e] at c1
  have C1 : Hid (∀ W : World, Calls Try.prog 9 #[bcV] W fun e w' => e = .returned (.tuple #[A16 bl0, I 0]) ∧ Below W.heap.size W w') := hide c1
  have c2 := fun (W : World) => cost_any bl0 bc0 W rfl rfl
  rw [bc0_n, bc0_c] at c2
  have C2 : Hid (∀ W : World, Calls Try.prog 10 #[A16 bl0, bcV] W fun e w' => e = .returned (.tuple #[I 11, I 0]) ∧ Below W.heap.size W w') := hide c2
  have c3 := fun (W : World) => codeWrite_any codeWords_any bl0 [0, 22] W rfl
  rw [bc0_s, bc0_w] at c3
  have C3 := hide c3
  have c4 := fun (W : World) => codeRead_any codeWords_any bl0 [44] 2 W rfl (by decide) (by decide) (by decide)
  rw [bc0_r, bc0_f] at c4
  have C4 := hide c4
  have c5 := fun (W : World) => checkCode_any bx0 W rfl
  rw [bx0_e] at c5
  have C5 : Hid (∀ W : World, Calls Try.prog 11 #[bxV] W fun e w' => e = .returned (I 1) ∧ Below W.heap.size W w') := hide c5
  clear c1 c2 c3 c4 c5
  have hz : ∀ W : World, (zeroValue 22).run Try.prog W = .ok (.agg #[.int .i64 0, .int .i64 0, .int .i64 0, .int .i64 0, .int .i64 0, .int .i64 0, .int .i64 0, .int .i64 0, .int .i64 0, .int .i64 0, .int .i64 0, .int .i64 0, .int .i64 0, .int .i64 0, .int .i64 0, .int .i64 0]) W := zero16v
  have heq : ∀ W : World, (binOp .eql 22 blV blV).run Try.prog W = .ok (.bool true) W := fun W => eql16_same bl0 rfl W
  go_enter Try.func8, Try.ntmps8
  go_wp2_with fail
  refine (unhide C1 _).mono ?_
  rintro e w1 ⟨rfl, hb1⟩
  have HB1 := hide hb1
  have hs1 := hb1.size
  clear hb1
  go_upto_region 2 with (first
    | (refine wpList_store_row rfl 22 (.tmp 1) (.tmp 12) rfl w1.heap.size (cells16 bl0) rfl rfl 22 _ (heap_alloc_new _ _) (by rw [sizeI, cells16_size rfl]) rfl (cells16_one _) ?_))
  obtain ⟨w2, hw2⟩ : ∃ w2, w2 = (w1.alloc (.cells #[.int .i64 0, .int .i64 0, .int .i64 0, .int .i64 0, .int .i64 0, .int .i64 0, .int .i64 0, .int .i64 0, .int .i64 0, .int .i64 0, .int .i64 0, .int .i64 0, .int .i64 0, .int .i64 0, .int .i64 0, .int .i64 0] 22)).setRow w1.heap.size (cells16 bl0) := ⟨_, rfl⟩
  obtain ⟨D, hD⟩ : ∃ D, D = w1.heap.size := ⟨_, rfl⟩
  have a2 : w2.heap[D]? = some (.cells (cells16 bl0) 22 (0, 0)) := by rw [hw2, hD]; exact setRow_heap _ _ _ _ _ _ (heap_alloc_new _ _)
  have b2 : Below w.heap.size w w2 := by rw [hw2]; exact below_setRow ((unhide HB1).alloc hs1 _) hs1 _
  rw [← hw2, ← hD]
  have A2 := hide a2
  have B2 := hide b2
  clear a2 b2 hw2 hD hs1
  go_wp2_with (first | (refine wpList_load16 rfl (.tmp 1) rfl D rfl bl0 rfl (unhide A2) ?_))
  refine (unhide C2 _).mono ?_
  rintro e w3 ⟨rfl, hb3⟩
  have A3 := hide ((hb3.block D (Array.getElem?_eq_some_iff.1 (unhide A2)).1).trans (unhide A2))
  have B3 := hide ((unhide B2).trans (hb3.mono (unhide B2).size))
  clear hb3
  go_wp2_with (first | (refine wpList_load16 rfl (.tmp 1) rfl D rfl bl0 rfl (unhide A3) ?_))
  refine (unhide C3 _).mono ?_
  rintro e w4 ⟨rfl, hb4⟩
  have A4 := hide ((hb4.block D (Array.getElem?_eq_some_iff.1 (unhide A3)).1).trans (unhide A3))
  have B4 := hide ((unhide B3).trans (hb4.mono (unhide B3).size))
  clear hb4
  go_wp2_with (first | (refine wpList_load16 rfl (.tmp 1) rfl D rfl bl0 rfl (unhide A4) ?_))
  refine (unhide C4 _).mono ?_
  rintro e w5 ⟨rfl, hb5⟩
  have A5 := hide ((hb5.block D (Array.getElem?_eq_some_iff.1 (unhide A4)).1).trans (unhide A4))
  have B5 := hide ((unhide B4).trans (hb5.mono (unhide B4).size))
  clear hb5
  obtain ⟨k0, k1, k2, k3, k4, k5, k6, k7, k8, k9, k10, k11, k12, k13, k14, k15⟩ : w5.cell? ⟨D, 0, none⟩ = some (.int .i64 1) ∧ w5.cell? ⟨D, 1, none⟩ = some (.int .i64 2) ∧ w5.cell? ⟨D, 2, none⟩ = some (.int .i64 0) ∧ w5.cell? ⟨D, 3, none⟩ = some (.int .i64 0) ∧ w5.cell? ⟨D, 4, none⟩ = some (.int .i64 0) ∧ w5.cell? ⟨D, 5, none⟩ = some (.int .i64 0) ∧ w5.cell? ⟨D, 6, none⟩ = some (.int .i64 2) ∧ w5.cell? ⟨D, 7, none⟩ = some (.int .i64 0) ∧ w5.cell? ⟨D, 8, none⟩ = some (.int .i64 0) ∧ w5.cell? ⟨D, 9, none⟩ = some (.int .i64 0) ∧ w5.cell? ⟨D, 10, none⟩ = some (.int .i64 0) ∧ w5.cell? ⟨D, 11, none⟩ = some (.int .i64 0) ∧ w5.cell? ⟨D, 12, none⟩ = some (.int .i64 0) ∧ w5.cell? ⟨D, 13, none⟩ = some (.int .i64 0) ∧ w5.cell? ⟨D, 14, none⟩ = some (.int .i64 0) ∧ w5.cell? ⟨D, 15, none⟩ = some (.int .i64 0) := ⟨cell16 (unhide A5) (l := bl0) rfl, cell16 (unhide A5) (l := bl0) rfl, cell16 (unhide A5) (l := bl0) rfl, cell16 (unhide A5) (l := bl0) rfl, cell16 (unhide A5) (l := bl0) rfl, cell16 (unhide A5) (l := bl0) rfl, cell16 (unhide A5) (l := bl0) rfl, cell16 (unhide A5) (l := bl0) rfl, cell16 (unhide A5) (l := bl0) rfl, cell16 (unhide A5) (l := bl0) rfl, cell16 (unhide A5) (l := bl0) rfl, cell16 (unhide A5) (l := bl0) rfl, cell16 (unhide A5) (l := bl0) rfl, cell16 (unhide A5) (l := bl0) rfl, cell16 (unhide A5) (l := bl0) rfl, cell16 (unhide A5) (l := bl0) rfl⟩
  go_wp2_with fail
  refine (unhide C5 _).mono ?_
  rintro e w6 ⟨rfl, hb6⟩
  go_wp2_with fail
  go_ret
  exact ⟨rfl, (unhide B5).trans (hb6.mono (unhide B5).size)⟩

end Go.Proofs.Ytgfkkjcnnecefab

/- Plain mathematics of chapter 3: read of write, write of read. No program in sight. -/
namespace Go.Proofs.Ytgfkkjcnnecefab
namespace Pl

theorem writeE_parts {l : List Int} {s : Bytes} (h : writeE l s = 0) : checkE l = 0 ∧ s.length ≤ 1024 ∧ lacks l (nibs s) = false := by
  unfold writeE at h
  by_cases h1 : checkE l = 0
  · rw [if_neg (by omega)] at h
    by_cases h2 : 1024 < s.length
    · rw [if_pos h2] at h; cases h
    · rw [if_neg h2] at h
      cases h3 : lacks l (nibs s) with
      | true => rw [h3] at h; simp at h
      | false => exact ⟨h1, by omega, rfl⟩
  · rw [if_pos h1] at h; exact absurd h h1
theorem code_read_write {l : List Int} (hr : Right l) {s : Bytes} (h : writeE l s = 0) : readE l (writeS l s) (s.length : Int) = 0 ∧ readS l (writeS l s) (s.length : Int) = s := by
  obtain ⟨h1, h2, h3⟩ := writeE_parts h
  have hk : ∀ i ∈ nibs s, i < 16 ∧ 0 < ln l i := fun i hi => by
    refine ⟨nibs_lt s i hi, ?_⟩
    unfold lacks at h3
    have := List.any_eq_false.1 h3 i hi
    simp at this; omega
  have hu : unpackB (writeS l s) = encK l (nibs s) ++ zeros (8 * (((encK l (nibs s)).length + 7) / 8) - (encK l (nibs s)).length) := by
    unfold writeS; rw [if_pos h]; exact unpack_packB _
  have hd := dec_enc hr (zeros (8 * (((encK l (nibs s)).length + 7) / 8) - (encK l (nibs s)).length)) (nibs s) hk
  rw [← hu, nibs_len] at hd
  have hg : goodRest (zeros (8 * (((encK l (nibs s)).length + 7) / 8) - (encK l (nibs s)).length)) = true := by
    rw [goodRest_iff, zeros_len]
    exact ⟨by omega, rfl⟩
  obtain ⟨e1, e2⟩ := readE_ok (l := l) (b := writeS l s) (n := (s.length : Int)) h1 (by omega) (by rw [Int.toNat_natCast]; exact hd) hg
  exact ⟨e1, by rw [e2, half_nibs]⟩
theorem code_write_read {l : List Int} {b : Bytes} {n : Int} (h : readE l b n = 0) : writeE l (readS l b n) = 0 ∧ writeS l (readS l b n) = b ∧ ((readS l b n).length : Int) = n := by
  have h1 : checkE l = 0 := by
    by_cases e : checkE l = 0
    · exact e
    · have := (readE_code (b := b) (n := n) e).1; omega
  have h2 : ¬ (n < 0 ∨ 1024 < n) := fun e => by have := (readE_range (b := b) h1 e).1; omega
  cases hd : decN l (2 * n.toNat) (unpackB b) with
  | none => have := (readE_none h1 h2 hd).1; omega
  | some q =>
    obtain ⟨ks, r⟩ := q
    cases hg : goodRest r with
    | false => have := (readE_left h1 h2 hd hg).1; omega
    | true =>
      obtain ⟨e1, e2⟩ := readE_ok h1 h2 hd hg
      obtain ⟨w1, w2, w3⟩ := write_dec h1 (n := n.toNat) (by omega) hd
      rw [e2]
      exact ⟨w1, w2.2 hg, by omega⟩

end Pl
end Go.Proofs.Ytgfkkjcnnecefab

/- An array of 16 numbers in a variable. -/
namespace Go.Proofs.Ytgfkkjcnnecefab
open Go.RowKit Go.Lib Pl

/-- an array in a variable -/
structure BoxL (l : List Int) (w wr : World) (B D : Nat) : Prop where
  o : wr.heap[D]? = some (.cells (cells16 l) 22 (0, 0))
  le : B ≤ D
  bel : Below B w wr
theorem BoxL.lt {l : List Int} {w wr : World} {B D : Nat} (h : BoxL l w wr B D) : D < wr.heap.size := (Array.getElem?_eq_some_iff.1 h.o).1
theorem BoxL.below {l : List Int} {w wr w1 : World} {B D : Nat} (h : BoxL l w wr B D) (hb : Below wr.heap.size wr w1) : BoxL l w w1 B D :=
  ⟨(hb.block _ h.lt).trans h.o, h.le, h.bel.trans (hb.mono (Nat.le_of_lt (Nat.lt_of_le_of_lt h.le h.lt)))⟩
theorem BoxL.put {l : List Int} {w wr : World} {B D : Nat} (h : BoxL l w wr B D) (i : Nat) (v : Int) : BoxL (l.set i v) w (wr.setCell ⟨D, i, none⟩ (.int .i64 v)) B D :=
  ⟨by rw [heap_setCell_same _ _ _ _ _ _ h.o, cells16_set], h.le, h.bel.setCell h.le _⟩
theorem BoxL.new (l : List Int) (w : World) : BoxL l w (w.alloc (.cells (cells16 l) 22)) w.heap.size w.heap.size := ⟨heap_alloc_new _ _, Nat.le_refl _, (Below.refl _ _).alloc (Nat.le_refl _) _⟩
/-- the array, laid into a new variable -/
theorem BoxL.laid {w w1 : World} {B : Nat} (l : List Int) (hb : Below B w w1) (hB : B ≤ w1.heap.size) : BoxL l w ((w1.alloc (.cells (cells16 (Lf fun _ => 0)) 22)).setRow w1.heap.size (cells16 l)) B w1.heap.size :=
  ⟨setRow_heap _ _ _ _ _ _ (heap_alloc_new _ _), hB, below_setRow (hb.alloc hB _) hB _⟩
theorem BoxL.free {l : List Int} {w wr : World} {B D : Nat} (h : BoxL l w wr B D) (i : Nat) : wr.frozen? ⟨D, i, none⟩ = false := frozen_of_row _ _ _ _ _ h.o
theorem BoxL.get {l : List Int} {w wr : World} {B D : Nat} (h : BoxL l w wr B D) {k : Nat} {x : Int} (hk : l[k]? = some x) : wr.cell? ⟨D, k, none⟩ = some (.int .i64 x) := cell16 h.o hk

end Go.Proofs.Ytgfkkjcnnecefab

/- The laws CodeBack and CodeBest: true for every input. -/
namespace Go.Proofs.Ytgfkkjcnnecefab
open Go.RowKit Go.Lib Pl
attribute [local go_sem] ext_list app_list

/-- the array, read out of its variable, behind a guard that holds -/
theorem wpList_load16_if {ops : Array Oper} {rest : List Oper} {o : Oper} {a : Act} {w : World} {Q : Exit → Act → World → Prop} (hw : Region.wanted o (yielded ops a.tmps) = true) (x : Operand) (ho : o.op = .load 22 x)
    (g : Nat) (hx : a.eval x = .pointer (some ⟨g, 0, none⟩)) (l : List Int) (hl : l.length = 16) {t : TypeId} {fz : Nat × Nat} (hg : w.heap[g]? = some (.cells (cells16 l) t fz))
    (h : wpList Try.prog ops Q rest (a.put o.dst (A16 l)) w) : wpList Try.prog ops Q (o :: rest) a w :=
  wpList_step fun _ hK => by
    rw [if_pos hw]
    exact wp_load_row 22 x ho g hx t (cells16 l) fz _ hg Try.underlying22 rfl (by rw [info16]; simp [hl]) (hK _ _ h)
theorem writeS_len {l : List Int} {s : Bytes} (hl : l.length = 16) (h : writeE l s = 0) : (writeS l s).length ≤ 3841 := by
  have hx := (writeE_parts h).2.1
  have hR := right_of hl (writeE_parts h).1
  unfold writeS
  rw [if_pos h, packB_len]
  have := encK_len hR (nibs s)
  rw [nibs_len] at this
  omega
set_option maxHeartbeats 2000000 in
set_option maxRecDepth 100000 in
theorem codeBack_any (l : List Int) (s b : Bytes) (n : Int) (w : World) (hl : l.length = 16) (hs : s.length ≤ 4611686018427387904) (hb : b.length ≤ 140737488355328) (hn1 : -9223372036854775808 ≤ n) (hn2 : n ≤ 9223372036854775807) :
    Calls Try.prog 3 #[A16 l, S s, S b, I n] w fun e w' => e = .returned (.bool true) ∧ Below w.heap.size w w' := by
  have c1 := hide (fun (W : World) => codeWrite_any codeWords_any l s W hl)
  have c3 := hide (fun (W : World) => codeRead_any codeWords_any l b n W hl hb hn1 hn2)
  have c4 := hide (fun (W : World) => codeWrite_any codeWords_any l (readS l b n) W hl)
  have c5 := hide (fun (W : World) => codeBegun_any W)
  have HL := hide hl
  obtain ⟨D, hD⟩ : ∃ D, D = w.heap.size := ⟨_, rfl⟩
  obtain ⟨w0, hw0⟩ : ∃ w0, w0 = w.alloc (.cells (cells16 l) 22) := ⟨_, rfl⟩
  have H0 := hide (show BoxL l w w0 D D from ⟨by rw [hw0, hD]; exact heap_alloc_new _ _, Nat.le_refl _, by rw [hw0, hD]; exact (Below.refl _ _).alloc (Nat.le_refl _) _⟩)
  have HD := hide hD
  have HW0 := hide hw0
  clear hD hw0
  have fin : ∀ W : World, BoxL l w W D D → ∀ W2 : World, Below W.heap.size W W2 → Below w.heap.size w W2 := fun W h W2 hb => by rw [← unhide HD]; exact (h.below hb).bel
  have FIN := hide fin
  clear fin
  obtain ⟨e2, he2⟩ : ∃ e2, e2 = readE l b n := ⟨_, rfl⟩
  obtain ⟨u, hu⟩ : ∃ u, u = readS l b n := ⟨_, rfl⟩
  have hwr := @code_write_read l b n
  rw [← he2, ← hu] at hwr
  have HWR := hide hwr
  rw [← he2, ← hu] at c3
  rw [← hu] at c4
  clear hwr
  by_cases h1 : writeE l s = 0
  · have hrw := code_read_write (right_of hl (writeE_parts h1).1) h1
    have hwl := writeS_len hl h1
    have c2 := fun (W : World) => codeRead_any codeWords_any l (writeS l s) (s.length : Int) W hl (by omega) (by omega) (by omega)
    rw [hrw.1, hrw.2] at c2
    have c2 := hide c2
    rw [h1] at c1
    obtain ⟨t, ht⟩ : ∃ t, t = writeS l s := ⟨_, rfl⟩
    rw [← ht] at c1 c2
    have c1 := hide c1
    clear ht hwl hrw h1 hl hs hb hn1 hn2
    by_cases h2 : e2 = 0
    · obtain ⟨k1, k2, k3⟩ := unhide HWR h2
      rw [h2] at c3
      rw [k1, k2] at c4
      have d3 : ((u.length : Int) == n) = true := by rw [beq_iff_eq]; exact k3
      have d4 : u.length = n.toNat := by omega
      have c3 := hide c3
      have c4 := hide c4
      have HK3 := hide k3
      clear k1 k2 k3 d4 h2 he2 hu
      go_enter Try.func3, Try.ntmps3
      go_upto_region 1 with fail
      rw [← unhide HW0, ← unhide HD]
      go_wp2_with (first
        | (refine wpList_load16 rfl (.tmp 4) rfl D rfl l (unhide HL) (unhide H0).o ?_))
      refine (unhide c1 _).mono ?_
      rintro e w1 ⟨rfl, hbb⟩
      have H1 := hide ((unhide H0).below hbb)
      clear hbb
      go_wp2_with (first
        | (refine wpList_load16 rfl (.tmp 4) rfl D rfl l (unhide HL) (unhide H1).o ?_))
      refine (unhide c2 _).mono ?_
      rintro e w2 ⟨rfl, hbb⟩
      have H2 := hide ((unhide H1).below hbb)
      clear hbb
      go_wp2_with (first
        | (refine wpList_load16 rfl (.tmp 4) rfl D rfl l (unhide HL) (unhide H2).o ?_))
      refine (unhide c3 _).mono ?_
      rintro e w7 ⟨rfl, hbb⟩
      have H7 := hide ((unhide H2).below hbb)
      clear hbb
      go_wp2_with (first
        | (refine wpList_load16 rfl (.tmp 4) rfl D rfl l (unhide HL) (unhide H7).o ?_))
      refine (unhide c4 _).mono ?_
      rintro e w8 ⟨rfl, hbb⟩
      have H8 := hide ((unhide H7).below hbb)
      clear hbb
      go_wp2_with fail
      refine (unhide c5 _).mono ?_
      rintro e w9 ⟨rfl, hb9⟩
      have H9 := hide (unhide FIN _ (unhide H8) _ hb9)
      clear hb9
      go_wp2_with fail
      go_ret
      exact ⟨rfl, unhide H9⟩
    · have d1 : ((e2 : Int) == 0) = false := by rw [beq_eq_false_iff_ne]; omega
      have d2 : ((e2 : Int) != 0) = true := by rw [bne_iff_ne]; omega
      have c3 := hide c3
      clear c4 h2 he2 hu
      go_enter Try.func3, Try.ntmps3
      go_upto_region 1 with fail
      rw [← unhide HW0, ← unhide HD]
      go_wp2_with (first
        | (refine wpList_load16 rfl (.tmp 4) rfl D rfl l (unhide HL) (unhide H0).o ?_))
      refine (unhide c1 _).mono ?_
      rintro e w1 ⟨rfl, hbb⟩
      have H1 := hide ((unhide H0).below hbb)
      clear hbb
      go_wp2_with (first
        | (refine wpList_load16 rfl (.tmp 4) rfl D rfl l (unhide HL) (unhide H1).o ?_))
      refine (unhide c2 _).mono ?_
      rintro e w2 ⟨rfl, hbb⟩
      have H2 := hide ((unhide H1).below hbb)
      clear hbb
      go_wp2_with (first
        | (refine wpList_load16 rfl (.tmp 4) rfl D rfl l (unhide HL) (unhide H2).o ?_))
      refine (unhide c3 _).mono ?_
      rintro e w7 ⟨rfl, hbb⟩
      have H7 := hide ((unhide H2).below hbb)
      clear hbb
      go_wp2_with fail
      refine (unhide c5 _).mono ?_
      rintro e w9 ⟨rfl, hb9⟩
      have H9 := hide (unhide FIN _ (unhide H7) _ hb9)
      clear hb9
      go_wp2_with fail
      go_ret
      exact ⟨rfl, unhide H9⟩
  · obtain ⟨e1, he1⟩ : ∃ e1, e1 = writeE l s := ⟨_, rfl⟩
    rw [← he1] at c1 h1
    have f1 : ((e1 : Int) == 0) = false := by rw [beq_eq_false_iff_ne]; omega
    have c1 := hide c1
    clear he1 h1 hl hs hb hn1 hn2
    by_cases h2 : e2 = 0
    · obtain ⟨k1, k2, k3⟩ := unhide HWR h2
      rw [h2] at c3
      rw [k1, k2] at c4
      have d3 : ((u.length : Int) == n) = true := by rw [beq_iff_eq]; exact k3
      have d4 : u.length = n.toNat := by omega
      have c3 := hide c3
      have c4 := hide c4
      have HK3 := hide k3
      clear k1 k2 k3 d4 h2 he2 hu
      go_enter Try.func3, Try.ntmps3
      go_upto_region 1 with fail
      rw [← unhide HW0, ← unhide HD]
      go_wp2_with (first
        | (refine wpList_load16 rfl (.tmp 4) rfl D rfl l (unhide HL) (unhide H0).o ?_))
      refine (unhide c1 _).mono ?_
      rintro e w1 ⟨rfl, hbb⟩
      have H1 := hide ((unhide H0).below hbb)
      clear hbb
      go_wp2_with (first
        | (refine wpList_load16 rfl (.tmp 4) rfl D rfl l (unhide HL) (unhide H1).o ?_))
      refine (unhide c3 _).mono ?_
      rintro e w7 ⟨rfl, hbb⟩
      have H7 := hide ((unhide H1).below hbb)
      clear hbb
      go_wp2_with (first
        | (refine wpList_load16 rfl (.tmp 4) rfl D rfl l (unhide HL) (unhide H7).o ?_))
      refine (unhide c4 _).mono ?_
      rintro e w8 ⟨rfl, hbb⟩
      have H8 := hide ((unhide H7).below hbb)
      clear hbb
      go_wp2_with fail
      refine (unhide c5 _).mono ?_
      rintro e w9 ⟨rfl, hb9⟩
      have H9 := hide (unhide FIN _ (unhide H8) _ hb9)
      clear hb9
      go_wp2_with fail
      go_ret
      exact ⟨rfl, unhide H9⟩
    · have d1 : ((e2 : Int) == 0) = false := by rw [beq_eq_false_iff_ne]; omega
      have d2 : ((e2 : Int) != 0) = true := by rw [bne_iff_ne]; omega
      have c3 := hide c3
      clear c4 h2 he2 hu
      go_enter Try.func3, Try.ntmps3
      go_upto_region 1 with fail
      rw [← unhide HW0, ← unhide HD]
      go_wp2_with (first
        | (refine wpList_load16 rfl (.tmp 4) rfl D rfl l (unhide HL) (unhide H0).o ?_))
      refine (unhide c1 _).mono ?_
      rintro e w1 ⟨rfl, hbb⟩
      have H1 := hide ((unhide H0).below hbb)
      clear hbb
      go_wp2_with (first
        | (refine wpList_load16 rfl (.tmp 4) rfl D rfl l (unhide HL) (unhide H1).o ?_))
      refine (unhide c3 _).mono ?_
      rintro e w7 ⟨rfl, hbb⟩
      have H7 := hide ((unhide H1).below hbb)
      clear hbb
      go_wp2_with fail
      refine (unhide c5 _).mono ?_
      rintro e w9 ⟨rfl, hb9⟩
      have H9 := hide (unhide FIN _ (unhide H7) _ hb9)
      clear hb9
      go_wp2_with fail
      go_ret
      exact ⟨rfl, unhide H9⟩

set_option maxHeartbeats 2000000 in
set_option maxRecDepth 100000 in
theorem codeBest_any (r c : List Int) (w : World) (hr : r.length = 16) (hc : c.length = 16) :
    Calls Try.prog 4 #[A16 r, A16 c] w fun e w' => e = .returned (.bool true) ∧ Below w.heap.size w w' := by
  have c1 := fun (W : World) => build_any c W hc
  have c2 := fun (W : World) => cost_any (lensOf c) c W (lensOf_len c) hc
  have c3 := fun (W : World) => cost_any r c W hr hc
  have c4 := fun (W : World) => checkCode_any (lensOf c) W (lensOf_len c)
  have c5 := hide (fun (W : World) => codeBegun_any W)
  have hz := zero16v
  obtain ⟨e, he⟩ : ∃ e, e = buildE c := ⟨_, rfl⟩
  obtain ⟨B, hB⟩ : ∃ B, B = w.heap.size := ⟨_, rfl⟩
  obtain ⟨w0, hw0⟩ : ∃ w0, w0 = (w.alloc (.cells (cells16 r) 22)).alloc (.cells (cells16 c) 22) := ⟨_, rfl⟩
  have HR0 := hide (show BoxL r w w0 B B from ⟨by rw [hw0, hB]; exact heap_alloc2_old _ _ _, Nat.le_refl _, by rw [hw0, hB]; exact ((Below.refl _ _).alloc (Nat.le_refl _) _).alloc (by simp) _⟩)
  have HC0 := hide (show BoxL c w w0 B (B + 1) from ⟨by rw [hw0, hB]; exact heap_alloc2_new _ _ _, by omega, by rw [hw0, hB]; exact ((Below.refl _ _).alloc (Nat.le_refl _) _).alloc (by simp) _⟩)
  have HB := hide hB
  have HW0 := hide hw0
  have HR := hide hr
  have HC := hide hc
  have hbc := @lens_cost c hc
  have hbr := @lens_right c
  have hbb := @lens_best c r hc hr
  rw [← he] at hbc hbr hbb c1
  clear hB hw0 hr hc
  obtain ⟨b, hb⟩ : ∃ b, b = lensOf c := ⟨_, rfl⟩
  have HL := hide (lensOf_len c)
  rw [← hb] at hbc hbr hbb c1 c2 c4 HL
  clear hb
  by_cases h0 : e = 0
  · obtain ⟨e3, he3⟩ : ∃ e3, e3 = costE r c := ⟨_, rfl⟩
    obtain ⟨n, hn⟩ : ∃ n, n = costN b c := ⟨_, rfl⟩
    obtain ⟨m, hm⟩ : ∃ m, m = costN r c := ⟨_, rfl⟩
    rw [hbc h0, ← hn] at c2
    rw [hbr h0] at c4
    rw [h0] at c1
    have hfin : ((e3 : Int) == 0) = false ∧ ((e3 : Int) != 0) = true ∨ ((e3 : Int) == 0) = true ∧ ((e3 : Int) != 0) = false ∧ decide (n ≤ m) = true := by
      by_cases h3 : e3 = 0
      · right
        have := hbb h0 (by rw [← he3]; exact h3)
        rw [← hn, ← hm] at this
        exact ⟨by rw [beq_iff_eq]; omega, by rw [bne_eq_false_iff_eq]; omega, decide_eq_true this⟩
      · left
        exact ⟨by rw [beq_eq_false_iff_ne]; omega, by rw [bne_iff_ne]; omega⟩
    rw [← he3, ← hm] at c3
    have c1 := hide c1
    have c2 := hide c2
    have c3 := hide c3
    have c4 := hide c4
    clear hbc hbr hbb he3 hn hm h0 he
    go_enter Try.func4, Try.ntmps4
    go_upto_region 1 with fail
    rw [← unhide HW0, ← unhide HB]
    go_wp2_with (first
      | (refine wpList_load16 rfl (.tmp 3) rfl (B + 1) rfl c (unhide HC) (unhide HC0).o ?_))
    refine (unhide c1 _).mono ?_
    rintro e w1 ⟨rfl, hb1⟩
    have HR1 := hide ((unhide HR0).below hb1)
    have HC1 := hide ((unhide HC0).below hb1)
    clear hb1
    go_upto_region 2 with (first
      | (refine wpList_store_row rfl 22 (.tmp 5) (.tmp 14) rfl w1.heap.size (cells16 b) rfl rfl 22 _ (heap_alloc_new _ _) (by rw [sizeI, cells16_size (unhide HL)]) (by rw [cells16_size (unhide HL), cells16_size (Lf_len _)]) (cells16_one _) ?_))
    obtain ⟨w2, hw2⟩ : ∃ w2, w2 = (w1.alloc (.cells (cells16 (Lf fun _ => 0)) 22)).setRow w1.heap.size (cells16 b) := ⟨_, rfl⟩
    obtain ⟨E, hE⟩ : ∃ E, E = w1.heap.size := ⟨_, rfl⟩
    have b2 : Below w1.heap.size w1 w2 := by rw [hw2]; exact below_setRow ((Below.refl _ _).alloc (Nat.le_refl _) _) (Nat.le_refl _) _
    have HR2 := hide ((unhide HR1).below b2)
    have HC2 := hide ((unhide HC1).below b2)
    have HB2 := hide (show BoxL b w w2 B E from ⟨by rw [hw2, hE]; exact setRow_heap _ _ _ _ _ _ (heap_alloc_new _ _), by have := (unhide HR1).lt; omega, (unhide HR2).bel⟩)
    rw [← hw2, ← hE]
    clear b2 hw2 hE
    go_wp2_with (first
      | (refine wpList_load16 rfl (.tmp 5) rfl E rfl b (unhide HL) (unhide HB2).o ?_)
      | (refine wpList_load16 rfl (.tmp 3) rfl (B + 1) rfl c (unhide HC) (unhide HC2).o ?_))
    refine (unhide c2 _).mono ?_
    rintro e w3 ⟨rfl, hb3⟩
    have HR3 := hide ((unhide HR2).below hb3)
    have HC3 := hide ((unhide HC2).below hb3)
    have HB3 := hide ((unhide HB2).below hb3)
    clear hb3
    go_wp2_with (first
      | (refine wpList_load16 rfl (.tmp 2) rfl B rfl r (unhide HR) (unhide HR3).o ?_)
      | (refine wpList_load16 rfl (.tmp 3) rfl (B + 1) rfl c (unhide HC) (unhide HC3).o ?_))
    refine (unhide c3 _).mono ?_
    rintro e w4 ⟨rfl, hb4⟩
    have HB4 := hide ((unhide HB3).below hb4)
    clear hb4
    rcases hfin with ⟨d1, d2⟩ | ⟨d1, d2, d3⟩
    all_goals
      go_wp2_with fail
      refine (unhide c5 _).mono ?_
      rintro e w5 ⟨rfl, hb5⟩
      have HB5 := hide ((unhide HB4).below hb5)
      clear hb5
      go_wp2_with (first
        | (refine wpList_load16_if (by kernel_rfl) (.tmp 5) rfl E rfl b (unhide HL) (unhide HB5).o ?_))
      refine (unhide c4 _).mono ?_
      rintro e w6 ⟨rfl, hb6⟩
      have HB6 := hide ((unhide HB5).below hb6)
      clear hb6
      go_wp2_with fail
      go_ret
      rw [← unhide HB]
      exact ⟨rfl, (unhide HB6).bel⟩
  · have d1 : ((e : Int) == 0) = false := by rw [beq_eq_false_iff_ne]; omega
    have d2 : ((e : Int) != 0) = true := by rw [bne_iff_ne]; omega
    have c1 := hide c1
    clear hbc hbr hbb he c2 c3 c4
    go_enter Try.func4, Try.ntmps4
    go_upto_region 1 with fail
    rw [← unhide HW0, ← unhide HB]
    go_wp2_with (first
      | (refine wpList_load16 rfl (.tmp 3) rfl (B + 1) rfl c (unhide HC) (unhide HC0).o ?_))
    refine (unhide c1 _).mono ?_
    rintro e' w1 ⟨rfl, hb1⟩
    have HC1 := hide ((unhide HC0).below hb1)
    clear hb1
    go_upto_region 2 with (first
      | (refine wpList_store_row rfl 22 (.tmp 5) (.tmp 14) rfl w1.heap.size (cells16 b) rfl rfl 22 _ (heap_alloc_new _ _) (by rw [sizeI, cells16_size (unhide HL)]) (by rw [cells16_size (unhide HL), cells16_size (Lf_len _)]) (cells16_one _) ?_))
    obtain ⟨w2, hw2⟩ : ∃ w2, w2 = (w1.alloc (.cells (cells16 (Lf fun _ => 0)) 22)).setRow w1.heap.size (cells16 b) := ⟨_, rfl⟩
    have b2 : Below w1.heap.size w1 w2 := by rw [hw2]; exact below_setRow ((Below.refl _ _).alloc (Nat.le_refl _) _) (Nat.le_refl _) _
    have HC2 := hide ((unhide HC1).below b2)
    rw [← hw2]
    clear b2 hw2
    go_wp2_with fail
    refine (unhide c5 _).mono ?_
    rintro e w5 ⟨rfl, hb5⟩
    have HC5 := hide ((unhide HC2).below hb5)
    clear hb5
    go_wp2_with fail
    go_ret
    rw [← unhide HB]
    exact ⟨rfl, (unhide HC5).bel⟩

end Go.Proofs.Ytgfkkjcnnecefab

/- An argument that is a slice of toks, opened: it reads as a list. ('open_slice_fields' is from the guide's page of lemmas to copy.) -/
namespace Go.Proofs.Ytgfkkjcnnecefab
open Go.ChangeShapes Go.WideShapes Go.Deep Go.RowKit Pl
section
variable {H : Type} {enc : TypeId × Value → H} {P : Program} {w : World} {base : Nat} {spare : Nat → Bool} {held : Bool}
theorem open_slice_fields {t e : TypeId} {fs : Array Field} {fuel : Nat} {cs : List Value} {x : DataW H × List MemPlace} (ht : P.underlying t = some (.slice e)) (he : P.underlying e = some (.struct fs))
    (hone : oneCellFields P fs = true) (hC : P.cellsOf e = fs.size) (h : DataW.trod enc P w base spare held fuel t cs = some x) :
    (cs = [.slice none 0 0] ∧ x = (.nil, [])) ∨
    ∃ (a : Addr) (len cap m : Nat) (D : Nat → DataW H) (Pl : Nat → List MemPlace), cs = [.slice (some a) len cap] ∧ base ≤ a.block ∧ len ≤ cap ∧ cap ≤ maxLen ∧ m = (if spare a.block then cap else len) ∧
      x = (.slice ((List.range len).map D) ((List.range (m - len)).map fun j => D (len + j)), MemPlace.row a (m * fs.size) ++ (List.range m).flatMap Pl) ∧
      ∀ i, i < m → ∃ (ys : List (DataW H × List MemPlace)) (n : Nat), D i = .agg (ys.map (·.1)) ∧ Pl i = ys.flatMap (·.2) ∧ ys.length = fs.size ∧
        ∀ (j : Nat) (f : Field), fs[j]? = some f → ∃ (v : Value) (y : DataW H × List MemPlace), w.cell? (a.add (i * fs.size + j)) = some v ∧ ys[j]? = some y ∧ DataW.trod enc P w base spare held n f.type [v] = some y := by
  rcases open_slice ht h with h0 | ⟨a, len, cap, m, n, D, Pl, hcs, hb, hl, hm, hmm, hx, hi⟩
  · exact .inl h0
  · refine .inr ⟨a, len, cap, m, D, Pl, hcs, hb, hl, hm, hmm, by rw [hC] at hx; exact hx, fun i him => ?_⟩
    obtain ⟨cs', hc, ht'⟩ := hi i him
    rw [hC] at hc
    obtain ⟨ys, n', hn', hy, hlen, hyl, hf⟩ := DataW.trod_struct he ht'
    obtain ⟨_, hcl, hat⟩ := World.cells?_some hc
    simp only [Prod.mk.injEq] at hy
    refine ⟨ys, n', hy.1, hy.2, hyl, fun j f hj => ?_⟩
    obtain ⟨ho, hk⟩ := hone_of hone j f hj
    have hjl : j < fs.size := (Array.getElem?_eq_some_iff.1 hj).1
    have hcell := hat j hjl
    have hv : cs'[j]? = some (cs'[j]'(by omega)) := List.getElem?_eq_getElem (by omega)
    have h1 := hf j f hj
    rw [ho, hk] at h1
    have hone' : (cs'.drop j).take 1 = [cs'[j]'(by omega)] := by
      rw [List.drop_eq_getElem_cons (by omega)]
      rfl
    rw [hone'] at h1
    have hys : ys[j]? = some (ys[j]'(by omega)) := List.getElem?_eq_getElem (by omega)
    refine ⟨_, _, ?_, hys, h1.trans hys⟩
    rw [← Go.Deep.add_add, hcell, hv]
end

theorem trodAll_pa {H : Type} {enc : TypeId × Value → H} {P : Program} {w : World} {base : Nat} {spare : Nat → Bool} {held : Bool} {ts : List TypeId} {vs : List Value} {ds : List (DataW H)} {p p' : List MemPlace} (h : DataW.TrodAll enc P w base spare held ts vs ds p) (e : p = p') : DataW.TrodAll enc P w base spare held ts vs ds p' := e ▸ h

theorem list_of {α : Type} (n : Nat) (p : Nat → α → Prop) (h : ∀ i, i < n → ∃ a, p i a) : ∃ l : List α, l.length = n ∧ ∀ i a, l[i]? = some a → p i a := by
  induction n with
  | zero => exact ⟨[], rfl, by simp⟩
  | succ n ih =>
    obtain ⟨l, hl, hp⟩ := ih fun i hi => h i (by omega)
    obtain ⟨a, ha⟩ := h n (by omega)
    refine ⟨l ++ [a], by simp [hl], fun i b hb => ?_⟩
    by_cases hi : i < n
    · rw [List.getElem?_append_left (by omega)] at hb; exact hp i b hb
    · rw [List.getElem?_append_right (by omega)] at hb
      have h0 : i - l.length = 0 := by
        rcases Nat.eq_zero_or_pos (i - l.length) with h0 | h0
        · exact h0
        · rw [List.getElem?_eq_none (by simp; omega)] at hb; cases hb
      rw [h0] at hb
      simp at hb
      subst hb
      have : i = n := by omega
      subst this; exact ha

set_option maxRecDepth 100000 in
theorem open_toks {H : Type} {enc : TypeId × Value → H} {w : World} {base : Nat} {v : Value} {d : DataW H} {p : List MemPlace}
    (hok : Value.okWide Try.prog w .any base 55 v) (h : DataW.Trod enc Try.prog w 0 (fun _ => true) true 55 v d p) (hlt : ∀ x ∈ p, x.block < w.heap.size) :
    ∃ A n cap l, v = .slice A n cap ∧ ToksAt w w.heap.size A n l ∧ (n = 0 ∨ ∃ es rest, d = .slice es rest ∧ es.length = n) := by
  obtain ⟨A, n, cap, rfl⟩ := okWide_slice Try.underlying55 hok
  obtain ⟨fuel, hf⟩ := h
  have hf : DataW.trod enc Try.prog w 0 (fun _ => true) true fuel 55 [.slice A n cap] = some (d, p) := hf
  rcases open_slice_fields Try.underlying55 Try.underlying75 (by kernel_rfl) (by kernel_rfl) hf with ⟨hcs, hx⟩ | ⟨a, len, cap', m, D, Pl, hcs, _, hlc, hcm, hm, hx, hi⟩
  · injection hcs with hcs
    injection hcs with h1 h2 h3
    subst h1; subst h2
    exact ⟨_, _, _, [], rfl, ⟨rfl, fun h => absurd h (by omega)⟩, .inl rfl⟩
  · injection hcs with hcs
    injection hcs with h1 h2 h3
    subst h1; subst h2; subst h3
    have hm : m = cap := by simpa using hm
    subst hm
    injection hx with hd hp
    have hl : ∀ i, i < n → ∃ t : Tok, w.cell? (a.add (i * 3)) = some (S t.lit) ∧ w.cell? (a.add (i * 3 + 1)) = some (I t.far) ∧ w.cell? (a.add (i * 3 + 2)) = some (I t.len) := by
      intro i hin
      obtain ⟨ys, k, _, _, _, hf⟩ := hi i (by omega)
      obtain ⟨v0, y0, c0, _, t0⟩ := hf 0 _ rfl
      obtain ⟨v1, y1, c1, _, t1⟩ := hf 1 _ rfl
      obtain ⟨v2, y2, c2, _, t2⟩ := hf 2 _ rfl
      obtain ⟨s, hs, _, _⟩ := DataW.trod_string Try.underlying9 t0
      obtain ⟨x, hx, _, _⟩ := DataW.trod_int Try.underlying3 t1
      obtain ⟨z, hz, _, _⟩ := DataW.trod_int Try.underlying3 t2
      injection hs with hs
      injection hx with hx
      injection hz with hz
      subst hs; subst hx; subst hz
      exact ⟨⟨s.data.toList, x, z⟩, c0, c1, c2⟩
    obtain ⟨l, hll, hlp⟩ := list_of n _ hl
    refine ⟨_, n, m, l, rfl, ⟨hll, fun hn => ?_⟩, .inr ⟨_, _, hd, by simp⟩⟩
    obtain ⟨b, off, spot⟩ := a
    have hspot : spot = none := by
      obtain ⟨t, c0, _⟩ := hl 0 hn
      simpa [Addr.add] using World.cell?_spot c0
    subst hspot
    have hb : b < w.heap.size := by
      refine hlt (.cell b off) ?_
      rw [hp]
      exact List.mem_append_left _ (MemPlace.mem_row.2 ⟨0, by simp; omega, rfl⟩)
    refine ⟨b, off, rfl, hb, fun i t ht => ?_⟩
    have := hlp i t ht
    simpa only [Go.WideShapes.add_plain, Nat.add_assoc] using this

end Go.Proofs.Ytgfkkjcnnecefab

/- An argument that is an array of 16 numbers, opened. -/
namespace Go.Proofs.Ytgfkkjcnnecefab
open Go.ChangeShapes Go.WideShapes Go.Deep Go.RowKit Pl

theorem mapM_each {α β : Type} {f : α → Option β} : ∀ (L : List α) (xs : List β), L.mapM f = some xs → ∀ i ∈ L, ∃ y, f i = some y
  | [], _, _, i, hi => by cases hi
  | a :: L, xs, h, i, hi => by
    rw [List.mapM_cons] at h
    simp only [bind, Option.bind_eq_some_iff, pure, Option.some.injEq] at h
    obtain ⟨y, hy, ys, hys, rfl⟩ := h
    rcases List.mem_cons.1 hi with rfl | hi
    · exact ⟨y, hy⟩
    · exact mapM_each L ys hys i hi
theorem ints_list : ∀ (l : List Value), (∀ i, i < l.length → ∃ a, l[i]? = some (Value.int .i64 a)) → ∃ xs : List Int, l = xs.map (Value.int .i64)
  | [], _ => ⟨[], rfl⟩
  | v :: l, h => by
    obtain ⟨a, ha⟩ := h 0 (by simp)
    obtain ⟨xs, hx⟩ := ints_list l fun i hi => by
      have := h (i + 1) (by simpa using hi)
      simpa using this
    refine ⟨a :: xs, ?_⟩
    rw [List.map_cons, hx]
    congr 1
    simpa using ha

set_option maxRecDepth 10000 in
theorem open_arr16 {H : Type} {enc : TypeId × Value → H} {w : World} {base : Nat} {v : Value} {d : DataW H} {p : List MemPlace}
    (hok : Value.okWide Try.prog w .any base 22 v) (h : DataW.Trod enc Try.prog w 0 (fun _ => true) true 22 v d p) : ∃ l : List Int, v = A16 l ∧ l.length = 16 := by
  have hu := Try.underlying22
  have hc1 : Try.prog.cellsOf 3 = 1 := by kernel_rfl
  have hc16 : Try.prog.cellsOf 22 = 16 := by kernel_rfl
  simp only [Value.okWide, hu] at hok
  obtain ⟨cs, rfl, h2, _⟩ := hok
  rw [hc16] at h2
  obtain ⟨fuel, hf⟩ := h
  cases fuel with
  | zero => simp [DataW.trod] at hf
  | succ m =>
    rw [DataW.trod_step] at hf
    unfold DataW.trodStep at hf
    simp only [hu, Value.cells] at hf
    rw [if_pos (by rw [hc16]; simpa using h2)] at hf
    simp only [Option.map_eq_some_iff] at hf
    obtain ⟨ys, hy, e1⟩ := hf
    have hall := mapM_each _ _ hy
    obtain ⟨xs, hx⟩ := ints_list cs.toList fun i hi => by
      have hi16 : i < 16 := by rw [Array.length_toList] at hi; omega
      obtain ⟨y, hyi⟩ := hall i (by simpa using hi16)
      obtain ⟨a, ea, _, _⟩ := DataW.trod_int Try.underlying3 hyi
      rw [hc1, Nat.mul_one] at ea
      refine ⟨a, ?_⟩
      have := congrArg (fun l : List Value => l[0]?) ea
      simpa [List.getElem?_take, List.getElem?_drop] using this
    refine ⟨xs, ?_, ?_⟩
    · show Value.agg cs = Value.agg (xs.map (Value.int .i64)).toArray
      rw [← hx]
    · have := congrArg List.length hx
      rw [List.length_map, Array.length_toList] at this
      omega

end Go.Proofs.Ytgfkkjcnnecefab

namespace Go.Proofs.Ytgfkkjcnnecefab.codeBest
open Go.ChangeShapes Go.WideShapes Go.ChangeAt Go.RowKit
open Go.ChangeMaps (open_string shut_string)

set_option maxRecDepth 100000 in
theorem lifted (os : Os) (started : os.Started) (H : Type) (enc : TypeId × Value → H) :
    ReturnsInHanded {} Try.checked os 4 .any (Rows.codeBestSpec.pre6 enc Try.prog Try.f4 Rows.codeBestRow.domain false) (Rows.codeBestSpec.post enc Try.prog Try.f4 false true false false) := by
  refine returnsInHanded_of_change_sized (C := Try.checked) Try.own started (by kernel_rfl) Try.func4
    (ChangeSpec.witness6 (enc := enc) (C := Try.checked) false ⟨#[], #[.agg #[.int .i64 0, .int .i64 0, .int .i64 0, .int .i64 0, .int .i64 0, .int .i64 0, .int .i64 0, .int .i64 0, .int .i64 0, .int .i64 0, .int .i64 0, .int .i64 0, .int .i64 0, .int .i64 0, .int .i64 0, .int .i64 0], .agg #[.int .i64 0, .int .i64 0, .int .i64 0, .int .i64 0, .int .i64 0, .int .i64 0, .int .i64 0, .int .i64 0, .int .i64 0, .int .i64 0, .int .i64 0, .int .i64 0, .int .i64 0, .int .i64 0, .int .i64 0, .int .i64 0]], []⟩ 8 (by kernel_rfl) (by kernel_rfl) (by kernel_rfl) (by kernel_rfl)) ?_
  intro W base args ds gs before hval0 hW _hcnd hsz0 _
  have hval : ∀ (j : Nat) t v, Try.f4.params[j]? = some t → args[j]? = some v → Value.okWide Try.prog W .any base t v := hval0
  have hsz : (DataW.weightsEach Try.prog (Try.f4.params.toList ++ Rows.codeBestSpec.plain.varTypes Try.prog) (ds ++ gs)).all (· ≤ reachBytes) = true := hsz0
  have hW' := hW
  obtain ⟨p, q, hA0, hV, rfl, _hfz, _hnd⟩ := hW
  have hA : DataW.TrodAll enc Try.prog W 0 (fun _ => true) true Try.f4.params.toList args.toList ds p := hA0
  rw [Try.params4] at hA hval hsz
  obtain ⟨v0, vs0, d0, ds0, p0, q0, hargs, rfl, rfl, h0, r0⟩ := trodAll_cons hA
  obtain ⟨v1, vs1, d1, ds1, p1, q1, rfl, rfl, rfl, h1, r1⟩ := trodAll_cons r0
  obtain ⟨rfl, rfl, rfl⟩ := trodAll_nil r1
  obtain rfl : args = #[v0, v1] := by cases args; simp_all
  obtain ⟨rfl, rfl⟩ := trodVars_none hV
  have h0k := h0
  have hlt0 : ∀ x ∈ p0, x.block < W.heap.size := fun x hx => hW'.lt x (by simp [hx])
  obtain ⟨a0, rfl, z0⟩ := open_arr16 (hval 0 22 v0 rfl rfl) h0
  have h1k := h1
  have hlt1 : ∀ x ∈ p1, x.block < W.heap.size := fun x hx => hW'.lt x (by simp [hx])
  obtain ⟨a1, rfl, z1⟩ := open_arr16 (hval 1 22 v1 rfl rfl) h1
  clear hA0 hval0 hsz0 hsz
  simp only [List.append_nil, List.nil_append] at hW'
  refine (codeBest_any a0 a1 W z0 z1).mono fun e W' ⟨he, hg⟩ => ?_
  subst he
  exact ⟨_, rfl, post_of_below (pa := p0 ++ p1) (pv := []) hW' (fun _ _ _ => (trodAll_cons_mk (shut_bool Try.underlying4 _) trodAll_mk0)) (fun sp hsp => trodAll_pa (trodAll_cons_mk (Go.WideElems.Trod_stays Try.laidOut (by kernel_rfl) (of_decide_eq_true (by kernel_rfl)) h0k (fun x hx => hg.same (hlt0 x hx)) (fun x hx => hsp x (by simp [hx]))) (trodAll_cons_mk (Go.WideElems.Trod_stays Try.laidOut (by kernel_rfl) (of_decide_eq_true (by kernel_rfl)) h1k (fun x hx => hg.same (hlt1 x hx)) (fun x hx => hsp x (by simp [hx]))) trodAll_mk0)) (by simp)) (fun _ _ => rfl) (by simp)
    hg (ok_one (by kernel_rfl) rfl (okWide_bool_mk Try.underlying4 _))⟩

theorem proved : Rows.CodeBestSaid :=
  OpenClaim.holds_of_wide 4 Try.f4 rfl rfl rfl rfl rfl rfl rfl ⟨rfl, rfl, rfl, rfl, rfl⟩ rfl rfl rfl rfl rfl (by kernel_rfl) Try.func4 (by kernel_rfl)
    (of_decide_eq_true (by kernel_rfl)) (by unfold Func.isWrapper; first | (rw [if_pos (by decide +kernel)]; kernel_rfl) | (rw [if_neg (by decide +kernel)]; exact ⟨rfl, rfl⟩))
    (fun os started H enc _ => lifted os started H enc)
end Go.Proofs.Ytgfkkjcnnecefab.codeBest
