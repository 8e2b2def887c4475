/- Parts of the proofs. -/
import Derived.Test.YtjpgoeimclipjaaGreatAd7
import Derived.Deep.AppendLies
import Derived.Maps.OwnRows
import Derived.Maps.Views
import Derived.Deep.LoopGhost
namespace Go.Proofs.YtjpgoeimclipjaaGreat
open Go.RowKit Go.Lib Pl
theorem add_wrap {a b : Nat} (ha : a ≤ 32768) (hb : b ≤ 32768) : wrap64 ((a : Int) + (b : Int)) = ((a + b : Nat) : Int) := IntWalk.wrap64_in _ ⟨by omega, by omega⟩
structure WordsAt (l : List Int) (w wr : World) (B D : Nat) (f : Nat → Nat × Nat) : Prop where
 a : wr.heap[B]? = some (.cells (cells16 l) 145 (0, 0))
 z : wr.heap[B + 1]? = some (.cells (cellsP fun _ => (0, 0)) 214 (0, 0))
 o : wr.heap[D]? = some (.cells (cellsP f) 214 (0, 0))
 bel : Below B w wr
theorem WordsAt.put {l : List Int} {w wr : World} {B D i a b : Nat} {f : Nat → Nat × Nat} (h : WordsAt l w wr B D f) (hBD : B + 2 ≤ D) (hi : i < 16) :
  WordsAt l w ((wr.setCell ⟨D, i * 2, none⟩ (.int .i64 (a : Int))).setCell ⟨D, i * 2 + 1, none⟩ (.int .i64 (b : Int))).drew B D (fun j => if j = i then (a, b) else f j) := by
 refine ⟨?_, ?_, ?_, ?_⟩
 ·show ((wr.setCell _ _).setCell _ _).heap[B]? = _
  rw [heap_setCell_other _ _ _ _ (by show B ≠ D; omega), heap_setCell_other _ _ _ _ (by show B ≠ D; omega)]; exact h.a
 ·show ((wr.setCell _ _).setCell _ _).heap[B + 1]? = _
  rw [heap_setCell_other _ _ _ _ (by show B + 1 ≠ D; omega), heap_setCell_other _ _ _ _ (by show B + 1 ≠ D; omega)]; exact h.z
 ·show ((wr.setCell _ _).setCell _ _).heap[D]? = _
  rw [heap_setCell_same _ _ _ _ _ _ (heap_setCell_same _ _ _ _ _ _ h.o), cellsP_set _ _ _ _ hi]
 ·exact ((h.bel.setCell (by show B ≤ D; omega) _).setCell (by show B ≤ D; omega) _).drew
theorem row_other {w : World} {base n g cap D j : Nat} {e : TypeId} {xs : List Value} (h : w.ownsRow base e 1 (.slice (some ⟨g, 0, none⟩) n cap) n xs) (hD : g < D) (u : Value) : (w.setCell ⟨D, j, none⟩ u).ownsRow base e 1 (.slice (some ⟨g, 0, none⟩) n cap) n xs :=
 ownsRow_setCell_other h (fun e => by simp [Value.ownBlock] at e; omega) u
theorem div_pw {s m v : Nat} (h : v * pw m = s) : (s : Int) / 2 ^ (15 - m) = (v : Int) := by
 have h1 : (2 : Int) ^ (15 - m) = ((pw m : Nat) : Int) := by unfold pw; norm_cast
 rw [h1, ← h, Int.natCast_mul]
 exact Int.mul_ediv_cancel _ (by have := pw_pos m; omega)
set_option maxHeartbeats 4000000 in
set_option maxRecDepth 100000 in
theorem codeWords_any (l : List Int) (w : World) (hr : Right l) :
  Calls Tryz.prog 176 #[A16 l] w fun e w' => e = .returned (AP fun j => (wv l j, ln l j)) ∧ Below w.heap.size w w' := by
 have HR := hide hr
 have hz := zero16w
 obtain ⟨w0, hw0⟩ : ∃ w0, w0 = (w.alloc (.cells (cells16 l) 145)).alloc (.cells (cellsP fun _ => (0, 0)) 214) := ⟨_, rfl⟩
 obtain ⟨B, hB⟩ : ∃ B, B = w.heap.size := ⟨_, rfl⟩
 have h1 : w0.heap[B]? = some (.cells (cells16 l) 145 (0, 0)) := by subst hB; rw [hw0]; exact heap_alloc2_old _ _ _
 have h2 : w0.heap[B + 1]? = some (.cells (cellsP fun _ => (0, 0)) 214 (0, 0)) := by subst hB; rw [hw0]; exact heap_alloc2_new _ _ _
 have h3 : Below B w w0 := by subst hB; rw [hw0]; exact ((Below.refl _ _).alloc (Nat.le_refl _) _).alloc (by simp) _
 have h4 : w0.heap.size = B + 2 := by subst hB; rw [hw0]; simp
 have H1 := hide h1
 have H2 := hide h2
 have H3 := hide h3
 have H4 := hide h4
 have HW0 := hide hw0
 have HB := hide hB
 clear hr hw0 hB h1 h2 h3 h4
 obtain ⟨i0, hi, hz0, hz1, hz2⟩ := info_parts info_intP
 go_enter Tryz.func176, Tryz.ntmps176
 go_wp2_with (first
  | (refine wpList_load16 rfl (.tmp 1) rfl B (by rw [unhide HB]; rfl) l (unhide HR).len (by rw [← unhide HW0]; exact unhide H1) ?_; rw [← unhide HW0, ← unhide HB]))
 go_loopw [3, 4, 5, 11] (fun v _ _ i wr => ∃ k : Nat, k ≤ 16 ∧ i = .int .i64 k ∧ wr.ownsRow (B + 2) 3 1 v (used l k).length ((used l k).map encF) ∧ Below (B + 2) w0 wr) (fun _ _ _ i _ => 16 - (intOf i).toNat)
 case atStart => exact ⟨0, by omega, rfl, World.ownsRow_nil _ _ _ _, Below.refl _ _⟩
 case round =>
  obtain ⟨k, hk, rfl, hown, hbel⟩ := hrel
  have hsz : B + 2 ≤ wr.heap.size := by have := hbel.2; have := unhide H4; exact Nat.le_trans (by omega) hbel.size
  by_cases hk16 : k < 16
  ·have hix := run_index16 l (unhide HR).len k _ (ln_get (unhide HR) hk16)
   have hul := used_len l k
   obtain ⟨m, hm⟩ : ∃ m, m = ln l k := ⟨_, rfl⟩
   rw [← hm] at hix
   by_cases hp : 0 < m
   ·have hus : used l (k + 1) = used l k ++ [⟨k, hk16⟩] := by rw [used, dif_pos ⟨hk16, by rw [← hm]; exact hp⟩]
    have HUS := hide hus
    clear hus hm
    go_wp2_with (at_builtin; refine wpList_push rfl _ _ _ rfl (B + 2) 3 i0 _ 8 Tryz.underlying24 hi hz0 hz1 hz2 rfl _ _ _ rfl hown _ _ rfl rfl ?_ ?_ hsz ?_; (unfold maxLen; omega); omega; intro v' w' hown' hb hg; have HOWN := hide hown'; clear hown' hg)
    go_roundw
    case rel =>
     refine ⟨k + 1, by omega, by go_num, ?_, hbel.trans hb⟩
     rw [unhide HUS, List.length_append, List.map_append]
     exact unhide HOWN
    case measure => simp [intOf]; omega
   ·have hus : used l (k + 1) = used l k := by rw [used, dif_neg (fun h => hp (by rw [hm]; exact h.2)), List.append_nil]
    have HUS := hide hus
    clear hus hm
    go_wp2_with fail
    go_roundw
    case rel =>
     refine ⟨k + 1, by omega, by go_num, ?_, hbel⟩
     rw [unhide HUS]; exact hown
    case measure => simp [intOf]; omega
  ·have hk' : k = 16 := by omega
   subst hk'
   obtain ⟨n, hn⟩ : ∃ n, n = (used l 16).length := ⟨_, rfl⟩
   have hn0 : n ≠ 0 := by
    rw [hn]; intro e
    exact used_some (unhide HR) (List.eq_nil_of_length_eq_zero e)
   have hn16 : n ≤ 16 := by rw [hn]; exact used_len l 16
   rw [← hn] at hown
   obtain ⟨g, cap, rfl⟩ := row_at hown hn0
   have hgB : B + 2 ≤ g := (hown.lt g rfl).1
   have hb0 := (hbel.block B (by have := unhide H4; omega)).trans (unhide H1)
   have hb1 := (hbel.block (B + 1) (by have := unhide H4; omega)).trans (unhide H2)
   have KS := hide (sortStable_any l (unhide HR) B (B + 2) n g cap (used l 16) (used_lt l 16) wr hn16 hb0 (by omega) hown)
   have HB0 := hide hb0
   have HB1 := hide hb1
   have HBEL := hide hbel
   have HN := hide hn
   clear hb0 hb1 hbel hown hn
   go_wp2_with (go_at_call 201; refine (unhide KS).mono ?_; rintro e w1 ⟨rfl, p, hpm, hps, hown1, hbel1⟩; have HPM := hide hpm; have HPS := hide hps; have HOWN1 := hide hown1; have HBEL1 := hide ((unhide HBEL).trans hbel1); have HC0 := hide ((hbel1.block B (by omega)).trans (unhide HB0)); have HC1 := hide ((hbel1.block (B + 1) (by omega)).trans (unhide HB1)); clear hpm hps hown1 hbel1)
   have hpl : p.length = n := by rw [unhide HN]; exact (unhide HPM).length_eq
   have hg1 := ((unhide HOWN1).lt g rfl).2
   have hs1 : B + 2 ≤ w1.heap.size := by omega
   obtain ⟨w2, hw2⟩ : ∃ w2, w2 = w1.alloc (.cells (cellsP fun _ => (0, 0)) 214) := ⟨_, rfl⟩
   obtain ⟨D, hD⟩ : ∃ D, D = w1.heap.size := ⟨_, rfl⟩
   have hwa : WordsAt l w w2 B D (outP l p 0) := by
    rw [hw2, hD, outP_zero]
    refine ⟨(Below.heap_alloc _ _ _ (by omega)).trans (unhide HC0), (Below.heap_alloc _ _ _ (by omega)).trans (unhide HC1), heap_alloc_new _ _, ?_⟩
    exact ((unhide H3).trans ((unhide HBEL1).mono (by omega))).alloc (by omega) _
   have hown2 : w2.ownsRow (B + 2) 3 1 (.slice (some ⟨g, 0, none⟩) n cap) n (p.map encF) := by rw [hw2]; exact (unhide HOWN1).alloc _
   have hgD : g < D := by rw [hD]; exact hg1
   have hBD : B + 2 ≤ D := by rw [hD]; exact hs1
   rw [← hw2, ← hD]
   have HWA := hide hwa
   have HPL := hide hpl
   clear hw2 hD hg1 hs1 hwa hpl
   go_loopw [7, 9, 27] (fun x _ i wr => ∃ (k : Nat), k ≤ n ∧ i = .int .i64 k ∧ x = .int .i64 (sumP l (p.take k) : Nat) ∧ WordsAt l w wr B D (outP l p k) ∧ wr.ownsRow (B + 2) 3 1 (.slice (some ⟨g, 0, none⟩) n cap) n (p.map encF)) (fun _ _ i _ => n - (intOf i).toNat)
   case atStart => exact ⟨0, by omega, rfl, rfl, unhide HWA, hown2⟩
   case round =>
    obtain ⟨k, hk, rfl, rfl, hwa, hown⟩ := hrel
    have HWK := hide hwa
    by_cases hkn : k < n
    ·obtain ⟨x, hx⟩ : ∃ x, p[k]? = some x := ⟨_, List.getElem?_eq_getElem (by have := unhide HPL; omega)⟩
     have hst := sum_take l (unhide HPM) (unhide HPS) hx
     have hxu := (used_mem l 16 x).1 ((unhide HPM).mem_iff.1 (List.mem_of_getElem? hx))
     have hx0 := hown.cellAt k (by omega)
     rw [List.getElem?_map, hx] at hx0
     have hx1 : wr.cell? ⟨g, k, none⟩ = some (.int .i64 (x.val : Int)) := hx0
     clear hx0
     have c1 := cell16 hwa.a (ln_get (unhide HR) x.isLt)
     have c2 : wr.cell? ⟨D, x.val * 2, none⟩ = some (I (outP l p k x).1) := by rw [cell_of_row _ _ _ _ _ _ hwa.o]; exact cellsP_get0 _ _ x.isLt
     have c3 : wr.cell? ⟨D, x.val * 2 + 1, none⟩ = some (I (outP l p k x).2) := by rw [cell_of_row _ _ _ _ _ _ hwa.o]; exact cellsP_get1 _ _ x.isLt
     have f2 := frozen_of_row _ _ (x.val * 2) _ _ hwa.o
     have f3 := frozen_of_row _ _ (x.val * 2 + 1) _ _ hwa.o
     have hwv := wv_mul l x
     have hm15 := (unhide HR).one x
     have hsl : sumP l (p.take k) ≤ 32768 := by
      rw [hst]; exact Nat.le_trans (preS_le _ _ _) (unhide HR).sum
     have hstp := outP_step l hx
     have hst2 : sumP l (p.take (k + 1)) = sumP l (p.take k) + pw (ln l x) := by rw [List.take_add_one, hx, sumP_app]; simp [sumP]
     rw [← hst] at hwv
     obtain ⟨i, hi⟩ : ∃ i, i = x.val := ⟨_, rfl⟩
     have hi16 : i < 16 := by rw [hi]; exact x.isLt
     rw [← hi] at hxu hx1 c1 c2 c3 f2 f3 hwv hm15 hstp hst2
     obtain ⟨m, hm⟩ : ∃ m, m = ln l i := ⟨_, rfl⟩
     rw [← hm] at hxu c1 hwv hm15 hstp hst2
     obtain ⟨v, hv⟩ : ∃ v, v = wv l i := ⟨_, rfl⟩
     rw [← hv] at hwv hstp
     obtain ⟨sm, hsm⟩ : ∃ sm, sm = sumP l (p.take k) := ⟨_, rfl⟩
     rw [← hsm] at hwv hsl hst2 ⊢
     have hm0 := hxu.2
     have hw15 : IntKind.i64.wrap (15 - (m : Int)) = 15 - (m : Int) := IntWalk.i64_in _ ⟨by omega, by omega⟩
     have HM := hide hm
     have HWV := hide hwv
     have HSTP := hide hstp
     have HST2 := hide hst2
     have HOW := hide hown
     have hpwl := pw_le m
     have hpww := pw_wrap m
     clear hst hxu hwv hstp hst2 hwa hi hm hv hsm hx hown
     go_wp2_with fail
     go_region
     have hdiv : (sm : Int) / 2 ^ (15 - m) = (v : Int) := div_pw (unhide HWV)
     rw [hdiv]
     obtain ⟨w3, hw3⟩ : ∃ w3, w3 = ((wr.setCell ⟨D, i * 2, none⟩ (.int .i64 (v : Int))).setCell ⟨D, i * 2 + 1, none⟩ (.int .i64 (m : Int))).drew := ⟨_, rfl⟩
     have hwa3 : WordsAt l w w3 B D (outP l p (k + 1)) := by
      rw [hw3, unhide HSTP]; exact (unhide HWK).put hBD hi16
     have hown3 : w3.ownsRow (B + 2) 3 1 (.slice (some ⟨g, 0, none⟩) n cap) n (p.map encF) := by
      rw [hw3]
      exact (row_other (row_other (unhide HOW) (by omega) _) (by omega) _).drew
     have c4 := cell16 hwa3.a (ln_get (unhide HR) hi16)
     rw [← unhide HM] at c4
     rw [← hw3]
     have HWA3 := hide hwa3
     have HOWN3 := hide hown3
     clear hdiv hw3 hwa3 hown3 c1 c2 c3 f2 f3 hx1
     go_wp2_with fail
     go_roundw
     case rel =>
      refine ⟨k + 1, by omega, by go_num, ?_, unhide HWA3, unhide HOWN3⟩
      rw [unhide HST2, add_wrap hsl hpwl]
     case measure => exact meas_up hkn
    ·have hk' : k = n := by omega
     subst hk'
     have hend := outP_end (unhide HPM) (k := k) (by have := unhide HPL; omega)
     have HEND := hide hend
     clear hwa hend
     go_wp2_with (first
      | (refine wpList_load_row rfl 214 (.tmp 6) rfl D rfl 214 _ (0, 0) _ (unhide HWK).o Tryz.underlying214 rfl (by rw [size16w, cellsP_size]) ?_; rw [unhide HEND])
      | (refine wpList_store_row rfl 214 (.tmp 2) (.tmp 51) rfl (B + 1) _ rfl rfl 214 _ (unhide HWK).z (by rw [size16w, cellsP_size]) (by rw [cellsP_size, cellsP_size]) (cellsP_one _) ?_))
     refine bodyPost_ret (results_cell_row rfl _ _ (B + 1) 214 (cellsP fun j => (wv l j, ln l j)) (0, 0) _ rfl (setRow_heap _ _ _ _ _ _ (unhide HWK).z) Tryz.underlying214 rfl (by rw [size16w, cellsP_size])) rfl ⟨rfl, ?_⟩
     rw [← unhide HB]
     exact below_setRow (unhide HWK).bel (by omega) _
end Go.Proofs.YtjpgoeimclipjaaGreat
namespace Go.Proofs.YtjpgoeimclipjaaGreat
open Go.RowKit Go.Lib Pl
attribute [local go_sem] ext_list app_list
theorem and15 (c : UInt8) : bits .and .u8 (c.toNat : Int) 15 = ((c.toNat % 16 : Nat) : Int) := by
 have h : ∀ y : Fin 256, bits .and .u8 (y.val : Int) 15 = ((y.val % 16 : Nat) : Int) := by decide +kernel
 exact h ⟨c.toNat, c.toNat_lt⟩
theorem and15hi (c : UInt8) : bits .and .u8 ((c.toNat : Int) / 16) 15 = ((c.toNat / 16 : Nat) : Int) := by
 have h : ∀ y : Fin 256, bits .and .u8 ((y.val : Int) / 16) 15 = ((y.val / 16 : Nat) : Int) := by decide +kernel
 exact h ⟨c.toNat, c.toNat_lt⟩
structure PAt (l : List Int) (w w3 : World) (B D : Nat) : Prop where
 o : w3.heap[D]? = some (.cells (cellsP fun j => (wv l j, ln l j)) 214 (0, 0))
 bel : Below B w w3
 lt : B ≤ D
theorem PAt.made {l : List Int} {w w1 : World} {B : Nat} (h : BoxAt l w w1 B) :
  PAt l w ((w1.alloc (.cells (cellsP fun _ => (0, 0)) 214)).setRow w1.heap.size (cellsP fun j => (wv l j, ln l j))) B w1.heap.size := by
 obtain ⟨ha, hb⟩ := h
 have s1 := (Array.getElem?_eq_some_iff.1 ha).1
 exact ⟨setRow_heap _ _ _ _ _ _ (heap_alloc_new _ _), below_setRow (hb.alloc (by omega) _) (by omega) _, by omega⟩
theorem bound30 {n : Nat} (h : n ≤ 30720) : n + 1 ≤ maxLen ∧ (n + 1) * 1 ≤ 140737488355328 := ⟨by unfold maxLen; omega, by omega⟩
theorem le8 {a b : Nat} (h : a + b = 8) : b ≤ 8 := by omega
theorem u8_mod (b : UInt8) : (b.toNat : Int) % 256 = (b.toNat : Int) := by have := b.toNat_lt; omega
theorem sum22 {a b c : Nat} (h : c = a + b) (h1 : a < 8) (h2 : b ≤ 15) : c ≤ 22 := by omega
theorem sum30 {a b c : Nat} (h : c = a + b) (h1 : a ≤ 4194304) (h2 : b < 32768) : c < 1000000000 := by omega
theorem waitFacts {hv m v : Nat} (h1 : hv < 128) (hm : m ≤ 15) (hv2 : v < 2 ^ m) :
  ∃ P, P = hv * 2 ^ m ∧ P ≤ 4194304 ∧ v < 32768 ∧ wrap64 ((hv : Int) * 2 ^ m) = (P : Int) ∧ bits .or .i64 (P : Int) (v : Int) = ((P + v : Nat) : Int) := by
 have h2 : 2 ^ m ≤ 32768 := Nat.pow_le_pow_right (n := 2) (by decide) hm
 have h3 : hv * 2 ^ m ≤ 128 * 32768 := Nat.mul_le_mul (Nat.le_of_lt h1) h2
 have h4 : v < 32768 := Nat.lt_of_lt_of_le hv2 h2
 have e : (hv : Int) * 2 ^ m = ((hv * 2 ^ m : Nat) : Int) := by norm_cast
 have h5 : ∀ P : Nat, P ≤ 4194304 → wrap64 (P : Int) = (P : Int) := fun P hP => IntWalk.wrap64_in _ ⟨by omega, by omega⟩
 refine ⟨hv * 2 ^ m, rfl, h3, h4, by rw [e]; exact h5 _ h3, ?_⟩
 have h6 : ∀ P : Nat, P ≤ 4194304 → bits .or .i64 (P : Int) (v : Int) = ((P ||| v : Nat) : Int) := fun P hP => i64_or_nat _ _ (by clear h2 h3 hv2 e h5; omega) (by clear h2 h3 hv2 e h5; omega)
 rw [h6 _ h3, ← Nat.shiftLeft_eq, Nat.shiftLeft_add_eq_or_of_lt hv2]
theorem shiftFacts (h p : Nat) : ∃ b : UInt8, b.toNat = h / 2 ^ p % 256 ∧ IntKind.u8.wrap ((h : Int) / 2 ^ p) = (b.toNat : Int) := by
 refine ⟨UInt8.ofNat (h / 2 ^ p), by rw [UInt8.toNat_ofNat'], ?_⟩
 have e : (h : Int) / 2 ^ p = ((h / 2 ^ p : Nat) : Int) := by norm_cast
 rw [e, IntKind.wrap_u8, UInt8.toNat_ofNat']
 generalize h / 2 ^ p = q
 simp
theorem maskFacts {h lf : Nat} (h1 : h < 1000000000) (h2 : lf < 8) :
  ∃ T U : Nat, wrap64 ((2 : Int) ^ lf) = (T : Int) ∧ wrap64 ((T : Int) - 1) = (U : Int) ∧ bits .and .i64 (h : Int) (U : Int) = ((h % 2 ^ lf : Nat) : Int) := by
 have h3 : 2 ^ lf ≤ 128 := Nat.pow_le_pow_right (n := 2) (by decide) (show lf ≤ 7 by omega)
 have h4 : 0 < 2 ^ lf := Nat.pow_pos (by decide)
 have e : (2 : Int) ^ lf = ((2 ^ lf : Nat) : Int) := by norm_cast
 have key : ∀ T : Nat, T ≤ 128 → 0 < T → wrap64 (T : Int) = (T : Int) ∧ wrap64 ((T : Int) - 1) = ((T - 1 : Nat) : Int) ∧ bits .and .i64 (h : Int) ((T - 1 : Nat) : Int) = ((h &&& (T - 1) : Nat) : Int) := by
  clear h3 h4 e
  intro T hT h0
  refine ⟨IntWalk.wrap64_in _ ⟨by omega, by omega⟩, ?_, i64_and_nat _ _ (by omega) (by omega)⟩
  rw [show (T : Int) - 1 = ((T - 1 : Nat) : Int) from by omega]
  exact IntWalk.wrap64_in _ ⟨by omega, by omega⟩
 obtain ⟨a, b, c⟩ := key _ h3 h4
 refine ⟨2 ^ lf, 2 ^ lf - 1, by rw [e]; exact a, b, ?_⟩
 rw [c, Nat.and_two_pow_sub_one_eq_mod]
theorem lastFacts {h left p : Nat} (h1 : h < 2 ^ left) (h2 : left + p = 8) : ∃ b : UInt8, b.toNat = h * 2 ^ p ∧ wrap64 ((h : Int) * 2 ^ p) = (b.toNat : Int) ∧ IntKind.u8.wrap (b.toNat : Int) = (b.toNat : Int) := by
 have h3 : h * 2 ^ p < 2 ^ left * 2 ^ p := Nat.mul_lt_mul_of_pos_right h1 (Nat.pow_pos (by decide))
 rw [← Nat.pow_add, h2] at h3
 have e : (h : Int) * 2 ^ p = ((h * 2 ^ p : Nat) : Int) := by norm_cast
 have key : ∀ q : Nat, q < 256 → ∃ b : UInt8, b.toNat = q ∧ wrap64 (q : Int) = (b.toNat : Int) ∧ IntKind.u8.wrap (b.toNat : Int) = (b.toNat : Int) := by
  clear h3 e h1 h2
  intro q hq
  have hb : (UInt8.ofNat q).toNat = q := by rw [UInt8.toNat_ofNat']; omega
  refine ⟨UInt8.ofNat q, hb, by rw [hb]; exact IntWalk.wrap64_in _ ⟨by omega, by omega⟩, ?_⟩
  rw [hb, IntKind.wrap_u8]; omega
 obtain ⟨b, b1, b2, b3⟩ := key _ h3
 exact ⟨b, b1, by rw [e]; exact b2, b3⟩
set_option maxHeartbeats 8000000 in
set_option maxRecDepth 100000 in
theorem codeWrite_any (KW : WordsSpec) (l : List Int) (s : Bytes) (w : World) (hl : l.length = 16) :
  Calls Tryz.prog 156 #[A16 l, S s] w fun e w' => e = .returned (.tuple #[S (writeS l s), I (writeE l s)]) ∧ Below w.heap.size w w' := by
 have hz := zero16w
 obtain ⟨i0, hi, hz0, hz1, hz2⟩ := info_parts info_u8
 obtain ⟨B, hB⟩ : ∃ B, B = w.heap.size := ⟨_, rfl⟩
 obtain ⟨w0, hw0⟩ : ∃ w0, w0 = w.alloc (.cells (cells16 l) 145) := ⟨_, rfl⟩
 have hx0 : BoxAt l w w0 B := by rw [hw0, hB]; exact BoxAt.boxed l w
 have CK := checkCode_any l w0 hl
 obtain ⟨e0, he0⟩ : ∃ e0, e0 = checkE l := ⟨_, rfl⟩
 rw [← he0] at CK
 have CK := hide CK
 have HE0 := hide he0
 have HB := hide hB
 have HW0 := hide hw0
 have HX0 := hide hx0
 have HL := hide hl
 have KW := hide KW
 clear he0 hB hw0 hx0 hl
 go_enter Tryz.func156, Tryz.ntmps156
 by_cases h0 : e0 = 0
 ·subst h0
  have HR := hide (right_of (unhide HL) (unhide HE0).symm)
  by_cases hs1 : s.length ≤ 1024
  ·go_wp2_with (first
    | (refine wpList_load16 rfl (.tmp 2) rfl B (by rw [unhide HB]; rfl) l (unhide HL) (by rw [← unhide HW0]; exact (unhide HX0).a) ?_; rw [← unhide HW0, ← unhide HB])
    | (go_at_call 175; refine (unhide CK).mono ?_; rintro e w1 ⟨rfl, hb1⟩; have HX1 := hide ((unhide HX0).below hb1); clear hb1)
    | (refine wpList_load16 rfl (.tmp 2) rfl B rfl l (unhide HL) (unhide HX1).a ?_)
    | (go_at_call 176; refine (unhide KW l _ (unhide HR)).mono ?_; rintro e w2 ⟨rfl, hb2⟩; have HX2 := hide ((unhide HX1).below hb2); clear hb2)
    | (refine wpList_store_row rfl 214 (.tmp 7) (.tmp 22) rfl w2.heap.size _ rfl rfl 214 _ (heap_alloc_new _ _) (by rw [size16w, cellsP_size]) (by rw [cellsP_size, cellsP_size]) (cellsP_one _) ?_; obtain ⟨w3, hw3⟩ : ∃ w3, w3 = (w2.alloc (.cells (cellsP fun _ => (0, 0)) 214)).setRow w2.heap.size (cellsP fun j => (wv l j, ln l j)) := ⟨_, rfl⟩; obtain ⟨g, hg⟩ : ∃ g, g = w2.heap.size := ⟨_, rfl⟩; have HC0 := hide (PAt.made (unhide HX2)); rw [← hw3, ← hg] at HC0; rw [← hw3, ← hg]; clear hw3 hg))
   have hD := (Array.getElem?_eq_some_iff.1 (unhide HC0).o).1
   go_loopw [8, 9, 10, 11, 12, 26] (fun v h m _ _ i wr => ∃ (k : Nat) (out : Bytes) (hv left : Nat), k ≤ 2 * s.length ∧ i = .int .i64 k ∧ h = .int .i64 hv ∧ m = .int .i64 left ∧ WSt l s k out hv left ∧ wr.ownsRow (g + 1) 5 1 v out.length (out.map Go.Proofs.YtjpgoeimclipjaaGreat.B) ∧ Below (g + 1) w3 wr) (fun _ _ _ _ _ i _ => 2 * s.length - (intOf i).toNat)
   case atStart => exact ⟨0, [], 0, 0, by omega, rfl, rfl, rfl, WSt.start l s, World.ownsRow_nil _ _ _ _, Below.refl _ _⟩
   case round =>
    obtain ⟨k, out, hv, left, hk, rfl, rfl, rfl, hx, hown, hbel⟩ := hrel
    have HX := hide hx
    have HOWN := hide hown
    have HBEL := hide hbel
    clear hx hown hbel
    by_cases hkn : k < 2 * s.length
    ·obtain ⟨q, r, hkq, hr2⟩ : ∃ q r, k = 2 * q + r ∧ r < 2 := ⟨k / 2, k % 2, by omega, by omega⟩
     have hq : q < s.length := by omega
     obtain ⟨c, hcc⟩ : ∃ c, (⟨s.toArray⟩ : ByteArray)[q]'hq = c := ⟨_, rfl⟩
     have hsc : s[q]? = some c := by rw [List.getElem?_eq_getElem hq]; exact congrArg some hcc
     obtain ⟨n1, n2⟩ := nibs_get hsc
     have hc256 : c.toNat < 256 := c.toNat_lt
     -- the sign
     obtain ⟨x, hx16, hnx, hxr⟩ : ∃ x, x < 16 ∧ (nibs s)[k]? = some x ∧ ((r = 0 ∧ x = c.toNat / 16) ∨ (r = 1 ∧ x = c.toNat % 16)) := by
      rcases (show r = 0 ∨ r = 1 by omega) with e | e
      ·exact ⟨c.toNat / 16, by omega, by rw [hkq, e]; exact n1, .inl ⟨e, rfl⟩⟩
      ·exact ⟨c.toNat % 16, by omega, by rw [hkq, e]; exact n2, .inr ⟨e, rfl⟩⟩
     have t1 : (k : Int).tdiv 2 = (q : Int) := by rw [Int.tdiv_eq_ediv_of_nonneg (by omega)]; omega
     have t2 : (k : Int) / 2 = (q : Int) := by omega
     have t3 : (k : Int).tmod 2 = (r : Int) := by rw [Int.tmod_eq_emod_of_nonneg (by omega)]; omega
     have a1 := and15 c
     have a2 := and15hi c
     have hgo := (unhide HC0).o
     have hgo2 := ((unhide HBEL).block g (by omega)).trans hgo
     have c1 : wr.cell? ⟨g, x * 2, none⟩ = some (I (wv l x)) := by rw [cell_of_row _ _ _ _ _ _ hgo2]; exact cellsP_get0 _ _ hx16
     have c2 : wr.cell? ⟨g, x * 2 + 1, none⟩ = some (I (ln l x)) := by rw [cell_of_row _ _ _ _ _ _ hgo2]; exact cellsP_get1 _ _ hx16
     have d1 : decide ((k : Int) < 2 * (s.length : Int)) = true := by rw [decide_eq_true_eq]; omega
     have hgs : g < wr.heap.size := Nat.lt_of_lt_of_le hD (unhide HBEL).size
     obtain ⟨m, hm⟩ : ∃ m, m = ln l x := ⟨_, rfl⟩
     obtain ⟨v, hv2⟩ : ∃ v, v = wv l x := ⟨_, rfl⟩
     rw [← hv2] at c1
     rw [← hm] at c2
     have hm15 : m ≤ 15 := by rw [hm]; exact (unhide HR).one x
     have HM := hide hm
     have HV := hide hv2
     have HNX := hide hnx
     have HSC := hide hsc
     have HKQ := hide hkq
     clear hm hv2 hnx hsc n1 n2 hgo hgo2
     have aa : (r = 0 ∧ bits .and .u8 ((c.toNat : Int) / 16) 15 = (x : Int)) ∨ (r = 1 ∧ bits .and .u8 (c.toNat : Int) 15 = (x : Int)) := by
      rcases hxr with ⟨e, hxc⟩ | ⟨e, hxc⟩
      ·exact .inl ⟨e, by rw [hxc]; exact a2⟩
      ·exact .inr ⟨e, by rw [hxc]; exact a1⟩
     clear a1 a2 hxr hkq
     have hst := hide (fun h0 => (unhide HX).next (unhide HR) (unhide HNX) hx16 h0)
     rw [← unhide HM, ← unhide HV] at hst
     by_cases hm0 : m = 0
     ·have hlx : lacks l (nibs s) = true := lacks_of_take (i := k + 1) (by rw [lacks_snoc (unhide HNX), ← unhide HM, hm0]; simp)
      have HLX := hide hlx
      have z1 : ((m : Int) == 0) = true := by rw [hm0]; rfl
      have z2 : (m == 0) = true := by rw [hm0]; rfl
      have hbw : Below B w w3 := (unhide HC0).bel
      have hbr : Below B w (wr.alloc (.cells #[Value.int .i64 v, Value.int .i64 m] 213)) := (hbw.trans ((unhide HBEL).mono (by have := (unhide HC0).lt; omega))).alloc (by have := hbw.size; have := (unhide HC0).lt; omega) _
      have HBR := hide hbr
      clear hlx hst hm0 hbw hbr
      rcases aa with ⟨rfl, a1⟩ | ⟨rfl, a1⟩
      all_goals
       go_wp2_with fail
       go_ret2
       obtain ⟨e1, e2⟩ := writeE_none (unhide HE0).symm (by omega) (unhide HLX)
       rw [e1, e2, ← unhide HB]
       exact ⟨rfl, unhide HBR⟩
     ·have hst2 := unhide hst (by omega)
      have hh128 := hst2.2.2
      have HST := hide hst2
      have z1 : ((m : Int) == 0) = false := by rw [beq_eq_false_iff_ne]; omega
      have z2 : (m == 0) = false := by rw [beq_eq_false_iff_ne]; omega
      clear hst hst2
      obtain ⟨P, hP, hP2, hvb, hsh, hor⟩ := waitFacts (v := v) hh128 hm15 (by rw [unhide HV, unhide HM]; exact wv_lt (unhide HR) hx16 (by rw [← unhide HM]; exact Nat.pos_of_ne_zero hm0))
      have HP := hide hP
      have HSH := hide hsh
      have HOR := hide hor
      clear hP hsh hor
      obtain ⟨h2, hh2⟩ : ∃ h2, h2 = P + v := ⟨_, rfl⟩
      obtain ⟨L, hL⟩ : ∃ L, L = left + m := ⟨_, rfl⟩
      obtain ⟨X, hX⟩ : ∃ X, X = encK l ((nibs s).take (k + 1)) := ⟨_, rfl⟩
      have hleft := (unhide HX).lt
      have hadd : wrap64 ((left : Int) + (m : Int)) = (L : Int) := by
       rw [hL]; exact IntWalk.wrap64_in _ ⟨by omega, by omega⟩
      have hwt := (unhide HST).1
      rw [← unhide HP, ← hh2, ← hL, ← hX] at hwt
      have hXl : X.length ≤ 30720 := by
       have := encK_len (unhide HR) ((nibs s).take (k + 1))
       rw [List.length_take, nibs_len] at this
       rw [hX]; omega
      have hL22 : L ≤ 22 := sum22 hL hleft hm15
      have hh30 : h2 < 1000000000 := sum30 hh2 hP2 hvb
      have hor := unhide HOR
      rw [← hh2] at hor
      have hsh := unhide HSH
      have HWT := hide hwt
      have HXX := hide hX
      clear hh2 hL hX hP2 hvb hwt hleft
      rcases aa with ⟨rfl, a1⟩ | ⟨rfl, a1⟩
      all_goals
       go_wp2_with fail
       go_quiet (fail)
       simp only [hsh, hadd]
       obtain ⟨w4, hw4⟩ : ∃ w4, w4 = (wr.alloc (.cells #[Value.int .i64 v, Value.int .i64 m] 213)).drewN nq := ⟨_, rfl⟩
       have hb4 : Below (g + 1) w3 w4 := by rw [hw4]; exact _root_.Go.below_drewN ((unhide HBEL).alloc (by omega) _) _
       have hown4 : w4.ownsRow (g + 1) 5 1 u8 out.length (out.map Go.Proofs.YtjpgoeimclipjaaGreat.B) := by rw [hw4]; exact (unhide HOWN).alloc _
       rw [← hw4]
       have HB4 := hide hb4
       have HOWN4 := hide hown4
       clear hw4 hb4 hown4 c1 c2 z1 z2 a1 t1 t2 t3 hsh hor hadd
       go_wp2_with fail
       go_loopw [8, 10] (fun v m w5 => ∃ (out2 : Bytes) (lf : Nat), m = .int .i64 lf ∧ lf ≤ 22 ∧ Wait X out.length out2 h2 lf ∧ w5.ownsRow (g + 1) 5 1 v out2.length (out2.map Go.Proofs.YtjpgoeimclipjaaGreat.B) ∧ Below (g + 1) w3 w5) (fun _ m _ => (intOf m).toNat)
       case atStart => exact ⟨out, L, rfl, hL22, unhide HWT, unhide HOWN4, unhide HB4⟩
       case round =>
        obtain ⟨out2, lf, rfl, hlf22, hw2, hown2, hbel2⟩ := hrel
        have HW2 := hide hw2
        have HOWN2 := hide hown2
        have HBEL2 := hide hbel2
        have hol : out2.length ≤ 30720 := by have := hw2.len; omega
        clear hw2
        by_cases hlf : lf < 8
        ·obtain ⟨T, U, m1, m2, m3⟩ := maskFacts hh30 hlf
         obtain ⟨h3, hh3⟩ : ∃ h3, h3 = h2 % 2 ^ lf := ⟨_, rfl⟩
         rw [← hh3] at m3
         have HH3 := hide hh3
         clear hh3 hown2 hbel2
         go_wp2_with fail
         go_roundw
         case rel => exact ⟨k + 1, out2, h3, lf, by omega, by go_num, rfl, rfl, ⟨by rw [unhide HH3, ← unhide HXX]; exact (unhide HW2).cut, hlf, (unhide HST).2.1⟩, unhide HOWN2, unhide HBEL2⟩
         case measure => simp [intOf]; omega
        ·obtain ⟨p, hp⟩ : ∃ p, lf = p + 8 := ⟨lf - 8, by omega⟩
         obtain ⟨b, hb1, hb2⟩ := shiftFacts h2 p
         have hw8 : IntKind.i64.wrap ((lf : Int) - 8) = (p : Int) := by
          rw [hp, show ((p + 8 : Nat) : Int) - 8 = (p : Int) from by omega]
          exact IntWalk.i64_in _ ⟨by omega, by omega⟩
         have hst3 := (unhide HW2).step (show 8 ≤ lf by omega) b (by rw [show lf - 8 = p from by omega]; exact hb1)
         rw [show lf - 8 = p from by omega] at hst3
         have HST3 := hide hst3
         have HP8 := hide hp
         have hsz := hbel2.size
         have hp22 : p ≤ 22 := by omega
         have hsz2 : g + 1 ≤ wr.heap.size := by omega
         clear hst3 hb1 hp
         go_wp2_with (at_builtin; refine wpList_push rfl _ _ _ rfl (g + 1) 5 i0 _ 1 Tryz.underlying77 hi hz0 hz1 hz2 rfl _ _ _ rfl hown2 _ _ rfl rfl ?_ ?_ hsz2 ?_; (unfold maxLen; omega); omega; intro v' w' hown' hb hg; have HOWN' := hide (own_byte b hown' rfl); have HB' := hide hb; clear hown' hb hg)
         go_roundw
         case rel =>
          first
           | exact ⟨out2 ++ [b], p, rfl, hp22, unhide HST3, by simpa using unhide HOWN', (unhide HBEL2).trans (unhide HB')⟩
           | ((repeat apply Exists.intro); exact ⟨⟨out2 ++ [b], p, rfl, hp22, unhide HST3, by simpa using unhide HOWN', (unhide HBEL2).trans (unhide HB')⟩, rfl⟩)
         case measure =>
          have := unhide HP8
          simp [intOf]; omega
    ·have hk' : k = 2 * s.length := by omega
     subst hk'
     have hfin := unhide HX
     have hnl : (nibs s).take (2 * s.length) = nibs s := List.take_of_length_le (by rw [nibs_len]; exact Nat.le_refl _)
     have hwt := hfin.wait
     have hlk := hfin.has
     rw [hnl] at hwt hlk
     obtain ⟨e1, e2⟩ := writeE_ok (unhide HE0).symm (by omega) hlk
     have hle8 := hfin.lt
     have hbw : Below B w wr := (unhide HC0).bel.trans ((unhide HBEL).mono (by have := (unhide HC0).lt; omega))
     have HBW := hide hbw
     have HE1 := hide e1
     have HE2 := hide e2
     by_cases hl0 : left = 0
     ·subst hl0
      have hd := hwt.done
      have hst := run_str_own (P := Tryz.prog) (unhide HOWN) 77 9 Tryz.underlying77 Tryz.underlying5 Tryz.underlying9
      have HD := hide hd
      clear hfin hwt hlk e1 e2 hbw hd hnl
      go_wp2_with fail
      go_ret2
      rw [unhide HE1, unhide HE2, ← unhide HD, ← unhide HB]
      exact ⟨rfl, unhide HBW⟩
     ·obtain ⟨p, hp⟩ : ∃ p, left + p = 8 := ⟨8 - left, by omega⟩
      have hvl := hwt.lt
      rw [Nat.sub_self, Nat.mul_zero, Nat.zero_add] at hvl
      obtain ⟨b, b1, b2, b3⟩ := lastFacts hvl hp
      have hd := hwt.last (by omega) hle8 b (by rw [show 8 - left = p from by omega]; exact b1)
      have hw8 : IntKind.i64.wrap (8 - (left : Int)) = (p : Int) := by
       rw [show 8 - (left : Int) = (p : Int) from by omega]
       exact IntWalk.i64_in _ ⟨by omega, by omega⟩
      have hol : out.length ≤ 30720 := by
       have := encK_len (unhide HR) (nibs s)
       rw [nibs_len] at this
       have := hwt.len
       omega
      have hown := unhide HOWN
      have hsz : g + 1 ≤ wr.heap.size := by have := (unhide HBEL).size; omega
      have HD := hide hd
      have hbd := bound30 hol
      have hp8 : p ≤ 8 := le8 hp
      have b4 := u8_mod b
      clear hfin hwt hlk e1 e2 hbw hd hnl hvl b1 hp
      go_wp2_with (at_builtin; refine wpList_push rfl _ _ _ rfl (g + 1) 5 i0 _ 1 Tryz.underlying77 hi hz0 hz1 hz2 rfl _ _ _ rfl hown _ _ rfl rfl ?_ ?_ hsz ?_; exact hbd.1; exact hbd.2; intro v' w' hown' hb hg; have hst := run_str_own (P := Tryz.prog) (own_byte b hown' rfl) 77 9 Tryz.underlying77 Tryz.underlying5 Tryz.underlying9; clear hown')
      go_ret2
      rw [unhide HE1, unhide HE2, ← unhide HD, ← unhide HB]
      exact ⟨rfl, (unhide HBW).trans (hb.mono (by have := (unhide HC0).lt; omega))⟩
  ·have HS1 := hide hs1
   have hs2 : (1024 : Int) < (s.length : Int) := by omega
   clear hs1
   go_wp2_with (first
    | (refine wpList_load16 rfl (.tmp 2) rfl B (by rw [unhide HB]; rfl) l (unhide HL) (by rw [← unhide HW0]; exact (unhide HX0).a) ?_; rw [← unhide HW0, ← unhide HB])
    | (go_at_call 175; refine (unhide CK).mono ?_; rintro e w1 ⟨rfl, hb1⟩; have HX1 := hide ((unhide HX0).below hb1); clear hb1))
   go_ret2
   obtain ⟨e1, e2⟩ := writeE_many (l := l) (unhide HE0).symm (show 1024 < s.length by have := unhide HS1; omega)
   rw [e1, e2, ← unhide HB]
   exact ⟨rfl, (unhide HX1).bel⟩
 ·have z1 : ((e0 : Int) == 0) = false := by rw [beq_eq_false_iff_ne]; omega
  have z2 : ((e0 : Int) != 0) = true := by rw [bne_iff_ne]; omega
  have H0 := hide h0
  clear h0
  go_wp2_with (first
   | (refine wpList_load16 rfl (.tmp 2) rfl B (by rw [unhide HB]; rfl) l (unhide HL) (by rw [← unhide HW0]; exact (unhide HX0).a) ?_; rw [← unhide HW0, ← unhide HB])
   | (go_at_call 175; refine (unhide CK).mono ?_; rintro e w1 ⟨rfl, hb1⟩; have HX1 := hide ((unhide HX0).below hb1); clear hb1))
  go_ret2
  obtain ⟨e1, e2⟩ := writeE_code (l := l) (s := s) (by rw [← unhide HE0]; exact unhide H0)
  rw [e1, e2, ← unhide HE0, ← unhide HB]
  exact ⟨rfl, (unhide HX1).bel⟩
end Go.Proofs.YtjpgoeimclipjaaGreat
namespace Go.Proofs.YtjpgoeimclipjaaGreat
open Go.RowKit Go.Lib Pl
attribute [local go_sem] ext_list app_list
theorem cntN_step2 {s : Bytes} {k : Nat} {c : UInt8} (hc : s[k]? = some c) :
  ((cntN (nibs (s.take k))).set (c.toNat / 16) (((nibs (s.take k)).count (c.toNat / 16) : Nat) + 1 : Int)).set (c.toNat % 16) (((nibs (s.take k) ++ [c.toNat / 16]).count (c.toNat % 16) : Nat) + 1 : Int) = cntN (nibs (s.take (k + 1))) := by
 rw [cntN_snoc, cntN_snoc, List.take_add_one, hc, nibs_app, List.append_assoc]; rfl
theorem count_le_nibs2 (s : Bytes) (k i : Nat) : (nibs (s.take k)).count i ≤ 2 * k := by
 have := List.count_le_length (a := i) (l := nibs (s.take k))
 rw [nibs_len, List.length_take] at this
 omega
theorem hdB_next {l : List Int} {j : Nat} (h : j < 8) : (hdB l).take (j + 1) = (hdB l).take j ++ [UInt8.ofNat (16 * ln l (2 * j) + ln l (2 * j + 1))] := by
 rw [List.take_add_one]
 unfold hdB
 rw [List.getElem?_map, List.getElem?_range h]
 rfl
theorem step_push_u8 {w : World} {ops : Array Oper} {o : Oper} {a : Act} {K : Act → World → Prop} {Q : Exit → Act → World → Prop} {E : Prop} (hgd : o.guard = none) (s x : Operand)
  (ho : o.op = .call { callee := .builtin .append, args := #[s, x], argTypes := #[77, 77] })
  (base : Nat) (v : Value) (n : Nat) (l : Bytes) (hs : a.eval s = v) (hown : w.ownsRow base 5 1 v n (l.map Go.Proofs.YtjpgoeimclipjaaGreat.B)) (g0 : Nat) (b : UInt8) (hx : a.eval x = .slice (some ⟨g0, 0, none⟩) 1 1)
  (hc : w.cell? ⟨g0, 0, none⟩ = some (.int .u8 (b.toNat : Int)))
  (hn : n ≤ 1000000) (hbase : base ≤ w.heap.size)
  (h : ∀ A' cap' w', w'.ownsRow base 5 1 (.slice A' (n + 1) cap') (n + 1) ((l ++ [b]).map Go.Proofs.YtjpgoeimclipjaaGreat.B) → w.grownBy w' v.ownBlock → K (a.put o.dst (.slice A' (n + 1) cap')) w') :
  if Region.wanted o (yielded ops a.tmps) = true then Oper.wp Tryz.prog o a w K Q else E := by
 obtain ⟨i0, hi0, hz0, hz1, hz2⟩ := info_parts info_u8
 refine step_append_lies _ hgd s x _ ho base 5 i0 _ 1 1 Tryz.underlying77 hi0 hz0 hz1 hz2 rfl (by decide) v n (l.map Go.Proofs.YtjpgoeimclipjaaGreat.B) hs hown ⟨g0, 0, none⟩ 1 1 [Go.Proofs.YtjpgoeimclipjaaGreat.B b] hx rfl ?_ (by intro y hy; simp at hy; subst hy; rfl) (by decide) (by unfold maxLen; omega) (by omega) hbase w.heap.size rfl ?_
 ·intro j u hj
  match j, hj with
  | 0, hj => simp at hj; subst hj; simpa [Addr.add] using hc
 ·intro g cap w' hown' hg _ _
  refine h _ cap w' ?_ hg
  rw [List.map_append]; exact hown'
theorem cell_drew_new (w : World) (v : Value) (t : TypeId) : ((w.alloc (.cells #[v] t)).drew).cell? ⟨w.heap.size, 0, none⟩ = some v := World.cell?_alloc_new _ _ _ _
theorem own_one (w : World) (base : Nat) (b : UInt8) (h : base ≤ w.heap.size) : (w.alloc (.cells #[Go.Proofs.YtjpgoeimclipjaaGreat.B b] 5)).ownsRow base 5 1 (.slice (some ⟨w.heap.size, 0, none⟩) 1 1) 1 ([b].map Go.Proofs.YtjpgoeimclipjaaGreat.B) :=
 ⟨rfl, .inr ⟨w.heap.size, 1, _, rfl, h, heap_alloc_new _ _, Nat.le_refl _, by unfold maxLen; omega, rfl, rfl⟩⟩
theorem or16 {x y : Nat} (hx : x < 16) (hy : y < 16) : bits .or .i64 ((16 * x : Nat) : Int) (y : Int) = ((16 * x + y : Nat) : Int) := by
 have h : ∀ a b : Fin 16, bits .or .i64 ((16 * a.val : Nat) : Int) (b.val : Int) = ((16 * a.val + b.val : Nat) : Int) := by decide +kernel
 exact h ⟨x, hx⟩ ⟨y, hy⟩
attribute [local go_sem ↓] concat_list in
set_option maxHeartbeats 2000000 in
set_option maxRecDepth 100000 in
theorem coded_any (s : Bytes) (w : World) (hs : s.length ≤ 1024) :
  Calls Tryz.prog 130 #[S s] w fun e w' => e = .returned (.tuple #[S (if s = [] then [] else third s), .bool (decide (s ≠ []))]) ∧ Below w.heap.size w w' := by
 have hz := zero16v
 obtain ⟨B, hB⟩ : ∃ B, B = w.heap.size := ⟨_, rfl⟩
 obtain ⟨w0, hw0⟩ : ∃ w0, w0 = w.alloc (.cells (cells16 (Lf fun _ => 0)) 145) := ⟨_, rfl⟩
 have H0 := hide (show BoxL (Lf fun _ => 0) w w0 B B by rw [hw0, hB]; exact BoxL.new _ _)
 have HB := hide hB
 go_enter Tryz.func130, Tryz.ntmps130
 go_wp2_with fail
 rw [← hw0, ← unhide HB]
 clear hw0 hB
 go_loopw [16] (fun iv wr => ∃ k : Nat, k ≤ s.length ∧ iv = .int .i64 k ∧ BoxL (cntN (nibs (s.take k))) w wr B B) (fun iv _ => s.length - (intOf iv).toNat)
 case atStart => exact ⟨0, by omega, rfl, by rw [List.take_zero, show nibs [] = [] from rfl, cntN_nil]; exact unhide H0⟩
 case round =>
  obtain ⟨k, hk, rfl, hat⟩ := hrel
  have HAT := hide hat
  have hsz := hat.lt
  clear hat
  by_cases hks : k < s.length
  ·obtain ⟨c, hcc⟩ : ∃ c, (⟨s.toArray⟩ : ByteArray)[k]'hks = c := ⟨_, rfl⟩
   have hsc : s[k]? = some c := by rw [List.getElem?_eq_getElem hks]; exact congrArg some hcc
   have hst := cntN_step2 hsc
   have a1 := and15 c
   obtain ⟨h, hh⟩ : ∃ h, h = c.toNat / 16 := ⟨_, rfl⟩
   obtain ⟨m, hm⟩ : ∃ m, m = c.toNat % 16 := ⟨_, rfl⟩
   rw [← hh, ← hm] at hst
   rw [← hm] at a1
   have hc256 := c.toNat_lt
   have hh16 : h < 16 := by omega
   have hm16 : m < 16 := by omega
   have a0 : (c.toNat : Int) / 16 = (h : Int) := by omega
   have b1 := count_le_nibs2 s k h
   have b2 : (nibs (s.take k) ++ [h]).count m ≤ 2 * k + 1 := by
    have := count_le_nibs2 s k m
    rw [List.count_append]
    have h2 := List.count_le_length (a := m) (l := [h])
    rw [List.length_singleton] at h2
    omega
   have c1 : wr.cell? ⟨B, h, none⟩ = some (.int .i64 ((nibs (s.take k)).count h : Nat)) := (unhide HAT).get (cntN_get _ hh16)
   have h1 := (unhide HAT).put h (((nibs (s.take k)).count h : Nat) + 1 : Int)
   rw [cntN_snoc] at h1 hst
   have c2 : (wr.setCell ⟨B, h, none⟩ (.int .i64 (((nibs (s.take k)).count h : Nat) + 1 : Int))).cell? ⟨B, m, none⟩ = some (.int .i64 ((nibs (s.take k) ++ [h]).count m : Nat)) := h1.get (cntN_get _ hm16)
   have h2 := h1.put m (((nibs (s.take k) ++ [h]).count m : Nat) + 1 : Int)
   rw [hst] at h2
   have f1 := (unhide HAT).free h
   have f2 := h1.free m
   obtain ⟨x, hx⟩ : ∃ x, x = (nibs (s.take k)).count h := ⟨_, rfl⟩
   obtain ⟨y, hy⟩ : ∃ y, y = (nibs (s.take k) ++ [h]).count m := ⟨_, rfl⟩
   rw [← hx] at b1 c1 c2 h2 f2
   rw [← hy] at b2 c2 h2
   have H2 := hide h2
   clear hsc hh hm hx hy h1 h2 hst
   have hx2 : x ≤ 9223372036854775806 := by omega
   have hy2 : y ≤ 9223372036854775806 := by omega
   obtain ⟨w1, hw1⟩ : ∃ w1, w1 = wr.setCell ⟨B, h, none⟩ (.int .i64 ((x : Int) + 1)) := ⟨_, rfl⟩
   rw [← hw1] at c2 H2 f2
   have HW1 := hide hw1
   clear hw1
   go_upto_region 6 with fail
   rw [← unhide HW1]
   go_wp2_with fail
   go_roundw
   case rel => exact ⟨k + 1, by omega, by go_num, unhide H2⟩
   case measure => simp [intOf]; omega
  ·have hk' : k = s.length := by omega
   subst hk'
   rw [List.take_length] at HAT
   obtain ⟨C, hC⟩ : ∃ C, C = cntN (nibs s) := ⟨_, rfl⟩
   rw [← hC] at HAT
   have hC16 : C.length = 16 := by rw [hC]; exact cntN_len _
   have c1 := fun (W : World) => build_any C W hC16
   obtain ⟨L, hL⟩ : ∃ L, L = lensS s := ⟨_, rfl⟩
   have hLd : lensOf C = L := by rw [hL, hC]; rfl
   have HC16 := hide hC16
   rw [hLd] at c1
   have hl16 : L.length = 16 := by rw [hL]; exact lensOf_len _
   have HL := hide hL
   have HL16 := hide hl16
   have HLD := hide hLd
   clear hLd hC16
   by_cases hnil : s = []
   ·have hb5 : buildE C = 5 := by rw [hC, hnil]; exact cntN_none
    rw [hb5] at c1
    have c1 := hide c1
    have HNIL := hide hnil
    clear hb5 hC hnil hL
    go_wp2_with (first
     | (refine wpList_load16 rfl (.tmp 4) rfl B rfl C (unhide HC16) (unhide HAT).o ?_))
    refine (unhide c1 _).mono ?_
    rintro e w1 ⟨rfl, hb1⟩
    have H1 := hide ((unhide HAT).below hb1)
    clear hb1
    go_upto_region 9 with (first
     | (refine wpList_store_row rfl 145 (.tmp 6) (.tmp 39) rfl w1.heap.size (cells16 L) rfl rfl 145 _ (heap_alloc_new _ _) (by rw [sizeI, cells16_size (unhide HL16)]) (by rw [cells16_size (unhide HL16), cells16_size (Lf_len _)]) (cells16_one _) ?_))
    have H2 := hide (BoxL.laid L (unhide H1).bel (Nat.le_of_lt (Nat.lt_of_le_of_lt (unhide H1).le (unhide H1).lt)))
    go_wp2_with fail
    go_ret2
    rw [← unhide HB]
    exact ⟨by first | rfl | (rw [if_pos (unhide HNIL), decide_eq_false (by simpa using unhide HNIL)]; rfl), (unhide H2).bel⟩
   ·have hb0 : buildE C = 0 := by rw [hC]; exact lensS_build hnil hs
    rw [hb0] at c1
    have c1 := hide c1
    have hr : checkE L = 0 := by rw [← unhide HLD]; exact lens_right hb0
    have HR := hide (right_of hl16 hr)
    have c2 := hide (fun (W : World) => put_ok s.length W (by omega))
    have c3 := hide (fun (W : World) => codeWrite_any codeWords_any L s W hl16)
    have HN := hide hnil
    have h015 := hide (checkE_zero hr).1
    clear hb0 hr hnil hL hl16 hC
    go_wp2_with (first
     | (refine wpList_load16 rfl (.tmp 4) rfl B rfl C (unhide HC16) (unhide HAT).o ?_))
    refine (unhide c1 _).mono ?_
    rintro e w1 ⟨rfl, hb1⟩
    have H1 := hide ((unhide HAT).below hb1)
    clear hb1
    go_upto_region 9 with (first
     | (refine wpList_store_row rfl 145 (.tmp 6) (.tmp 39) rfl w1.heap.size (cells16 L) rfl rfl 145 _ (heap_alloc_new _ _) (by rw [sizeI, cells16_size (unhide HL16)]) (by rw [cells16_size (unhide HL16), cells16_size (Lf_len _)]) (cells16_one _) ?_))
    obtain ⟨w2, hw2⟩ : ∃ w2, w2 = (w1.alloc (.cells (cells16 (Lf fun _ => 0)) 145)).setRow w1.heap.size (cells16 L) := ⟨_, rfl⟩
    obtain ⟨E, hE⟩ : ∃ E, E = w1.heap.size := ⟨_, rfl⟩
    have H2 := hide (show BoxL L w w2 B E by rw [hw2, hE]; exact BoxL.laid L (unhide H1).bel (Nat.le_of_lt (Nat.lt_of_le_of_lt (unhide H1).le (unhide H1).lt)))
    rw [← hw2, ← hE]
    clear hw2 hE
    have hE2 := (unhide H2).lt
    have O3 := hide (own_one w2 (E + 1) 2 hE2)
    have H3 := hide ((unhide H2).below ((Below.refl _ _).alloc (Nat.le_refl _) (.cells #[Go.Proofs.YtjpgoeimclipjaaGreat.B 2] 5)))
    go_wp2_with fail
    go_loopw [8, 9] (fun v iv wr => ∃ j : Nat, j ≤ 8 ∧ iv = .int .i64 ((2 * j : Nat) : Int) ∧ wr.ownsRow (E + 1) 5 1 v (j + 1) ((2 :: (hdB L).take j).map Go.Proofs.YtjpgoeimclipjaaGreat.B) ∧ BoxL L w wr B E) (fun _ iv _ => 16 - (intOf iv).toNat)
    case atStart => exact ⟨0, by omega, rfl, unhide O3, unhide H3⟩
    case round =>
     obtain ⟨j, hj, rfl, hown, hbx⟩ := hrel
     have HOWN := hide hown
     have HBX := hide hbx
     have hE3 := hbx.lt
     clear hown hbx
     by_cases hj8 : j < 8
     ·obtain ⟨x, hx⟩ : ∃ x, x = ln L (2 * j) := ⟨_, rfl⟩
      obtain ⟨y, hy⟩ : ∃ y, y = ln L (2 * j + 1) := ⟨_, rfl⟩
      have hx15 : x ≤ 15 := by rw [hx]; exact (unhide HR).one _
      have hy15 : y ≤ 15 := by rw [hy]; exact (unhide HR).one _
      obtain ⟨i, hi⟩ : ∃ i, i = 2 * j := ⟨_, rfl⟩
      have c1 : wr.cell? ⟨E, i, none⟩ = some (.int .i64 (x : Int)) := by rw [hi, hx]; exact (unhide HBX).get (ln_get (unhide HR) (by omega))
      have c2 : wr.cell? ⟨E, i + 1, none⟩ = some (.int .i64 (y : Int)) := by rw [hi, hy]; exact (unhide HBX).get (ln_get (unhide HR) (by omega))
      obtain ⟨b, hb⟩ : ∃ b, b = UInt8.ofNat (16 * x + y) := ⟨_, rfl⟩
      have hbn : b.toNat = 16 * x + y := by rw [hb, UInt8.toNat_ofNat']; omega
      have hnx : (hdB L).take (j + 1) = (hdB L).take j ++ [b] := by rw [hdB_next hj8, hb, hx, hy]
      have HNX := hide hnx
      rw [← hi]
      have hi16 : (i : Int) < 16 := by omega
      have hi15 : i < 15 := by omega
      have HI := hide hi
      have HBN := hide hbn
      clear hx hy hb hnx hi hbn
      have w1i : IntKind.i64.wrap ((i : Int) + 1) = (i : Int) + 1 := IntWalk.i64_in _ ⟨by omega, by omega⟩
      have w2i : (0 : Int) ≤ (i : Int) + 1 := by omega
      have w3i : (i : Int) + 1 < 16 := by omega
      have w4i : ((i : Int) + 1).toNat = i + 1 := by omega
      go_wp2_with fail
      have hv : IntKind.u8.wrap (bits BinOp.or IntKind.i64 (IntKind.i64.wrap ((x : Int) * 16)) (y : Int)) = (b.toNat : Int) := by
       have e1 : (x : Int) * 16 = ((16 * x : Nat) : Int) := by omega
       rw [e1, show IntKind.i64.wrap ((16 * x : Nat) : Int) = ((16 * x : Nat) : Int) from IntWalk.i64_in _ ⟨by omega, by omega⟩, or16 (by omega) (by omega), unhide HBN, IntKind.wrap_u8]
       omega
      go_region_law (go_loud (refine step_push_u8 rfl _ _ rfl (E + 1) _ (j + 1) (2 :: (hdB L).take j) rfl (by exact (unhide HOWN).alloc _) wr.heap.size b rfl (by exact cell_drew_new _ _ _) (by omega) (by simp; omega) ?_); intro A1 cap1 w5 hown5 hg5; have HOWN5 := hide hown5; have HG5 := hide hg5; clear hown5 hg5)
      all_goals
       go_wp2_with fail
       go_roundw
       case rel =>
        refine ⟨j + 1, by omega, by rw [unhide HI]; go_num, by rw [unhide HNX]; exact unhide HOWN5, ((unhide HBX).alloc _).drew.grown (unhide HG5) fun k hk => ((unhide HOWN).lt k hk).1⟩
       case measure => simp [intOf]; omega
     ·have hj' : j = 8 := by omega
      subst hj'
      have hown := unhide HOWN
      obtain ⟨A, cap, rfl⟩ := own_slice17 hown
      rw [List.take_of_length_le (by rw [hdB_len]; exact Nat.le_refl _)] at hown
      obtain ⟨T, hT⟩ : ∃ T, T = writeS L s := ⟨_, rfl⟩
      obtain ⟨te, hte⟩ : ∃ te, te = writeE L s := ⟨_, rfl⟩
      have hTl : T.length ≤ 4000 := by
       rw [hT]
       by_cases h : writeE L s = 0
       ·have hx := (writeE_parts h).2.1
        unfold writeS
        rw [if_pos h, packB_len]
        have := encK_len (unhide HR) (nibs s)
        rw [nibs_len] at this
        omega
       ·unfold writeS; rw [if_neg h]; simp
      have hnl := nb_len 4 s.length (by omega)
      obtain ⟨N, hN⟩ : ∃ N, N = nb s.length := ⟨_, rfl⟩
      obtain ⟨H, hH⟩ : ∃ H, H = 2 :: hdB L := ⟨_, rfl⟩
      have hHl : H.length = 9 := by rw [hH, List.length_cons, hdB_len]
      have c2' := unhide c2
      have c3' := unhide c3
      rw [← hN] at c2' hnl
      rw [← hT, ← hte] at c3'
      rw [← hH] at hown
      have c2' := hide c2'
      have c3' := hide c3'
      have HOWN2 := hide hown
      have hth : third s = H ++ (N ++ T) := by
       unfold third
       rw [← unhide HL, hH, hN, hT, List.cons_append, List.append_assoc]
      have HTH := hide hth
      have k1 : H.length + N.length ≤ 9223372036854775807 := by omega
      have k2 : H.length + N.length + T.length ≤ 9223372036854775807 := by omega
      have k3 : H.length + (N.length + T.length) ≤ 9223372036854775807 := by omega
      clear hown hT hte hN hH hth hHl hnl hTl
      go_wp2_with fail
      refine (unhide c2' _).mono ?_
      rintro e w6 ⟨rfl, hb6⟩
      have H6 := hide ((unhide HBX).below hb6)
      have O6 := hide (own_part (unhide HOWN2) fun k _ h2 => hb6.block k h2)
      clear hb6
      go_wp2_with (first
       | (refine wpList_load16 rfl (.tmp 6) rfl E rfl L (unhide HL16) (unhide H6).o ?_))
      refine (unhide c3' _).mono ?_
      rintro e w7 ⟨rfl, hb7⟩
      have H7 := hide ((unhide H6).below hb7)
      have hst := run_str_own (P := Tryz.prog) (own_part (unhide O6) fun k _ h2 => hb7.block k h2) 77 9 Tryz.underlying77 Tryz.underlying5 Tryz.underlying9
      clear hb7
      go_wp2_with fail
      go_ret2
      rw [unhide HTH, ← unhide HB]
      exact ⟨rfl, (unhide H7).bel⟩
end Go.Proofs.YtjpgoeimclipjaaGreat
namespace Go.Proofs.YtjpgoeimclipjaaGreat
open Go.RowKit Go.Lib Pl Go.ChangeMaps Go.MapKept Go.ChangeShapes
open Go.WideElems (Fit)
open Go.Maps (Keyed string_keyed IsMap atKey_put_same atKey_put_other)
theorem keyed_str : Keyed Tryz.prog 9 := string_keyed Tryz.underlying9
theorem zero_ints (w : World) : (zeroValue 24).run Tryz.prog w = .ok (.slice none 0 0) w := by kernel_rfl
section
variable {P : Program}
theorem findNow_some {k : TypeId} (hk : P.underlying k = some .string) (s : ByteArray) : ∀ (es : List MapEntry) (i : Nat), (∀ e ∈ es, ∃ l, keyOf P k e.key = some l) → ∃ r, Instr.findNow .string (.string s) es i = some r
 | [], i, _ => ⟨_, rfl⟩
 | e :: es, i, h => by
  obtain ⟨l, hl⟩ := h e (by simp)
  have hst : ∃ t, e.key = .string t := by
   obtain ⟨t, ht, _⟩ := WideMaps.string_of_keyOf hk hl
   exact ⟨t, ht⟩
  obtain ⟨t, ht⟩ := hst
  obtain ⟨r, hr⟩ := findNow_some hk s es (i + 1) (fun e he => h e (by simp [he]))
  cases hst : (s == t)
  ·exact ⟨r, by simp [Instr.findNow, Instr.sameNow, ht, hst, hr]⟩
  ·exact ⟨some (i, e.val), by simp [Instr.findNow, Instr.sameNow, ht, hst]⟩
theorem lookup_same {t k E : TypeId} (hk : P.underlying k = some .string) (ht : P.underlying t = some (.map k E)) {z : Value} (hz : ∀ w, (zeroValue E).run P w = .ok z w) {b : Nat} {es : Array MapEntry} {clock : Nat}
  (hkeys : ∀ e ∈ es.toList, ∃ l, keyOf P k e.key = some l) (s : ByteArray) (hs : s.size ≤ maxLen) :
  ∃ v, ∀ w : World, w.heap[b]? = some (.map es clock) → (Instr.lookup t (.map (some b)) (.string s) false).run P w = .ok v w := by
 obtain ⟨r, hr⟩ := findNow_some hk s es.toList 0 hkeys
 have hc := fun w => (string_keyed hk).check w es.isEmpty (WideMaps.keyOf_string_mk hk hs)
 have hf : ∀ w, (Instr.findKey k (.string s) es.toList).run P w = .ok r w := fun w => by
  unfold Instr.findKey
  simp [run_underlying hk, hr]
 cases r with
 | none => exact ⟨z, fun w hb => by simp [Instr.lookup, run_underlying ht, MapKept.run_getObj_map hb, hc w, hf w, hz w, Result.andThen]⟩
 | some p => exact ⟨p.2, fun w hb => by obtain ⟨j, v⟩ := p; simp [Instr.lookup, run_underlying ht, MapKept.run_getObj_map hb, hc w, hf w, Result.andThen]⟩
end
def places (s : Bytes) (m : Nat) (kb : Bytes) : List Int := ((List.range m).filter (fun p => slice s p (p + 3) == kb)).map Int.ofNat
theorem places_succ (s : Bytes) (m : Nat) (kb : Bytes) : places s (m + 1) kb = places s m kb ++ (if slice s m (m + 3) = kb then [(m : Int)] else []) := by
 unfold places
 rw [List.range_succ, List.filter_append, List.map_append]
 congr 1
 by_cases h : slice s m (m + 3) = kb
 ·simp [h]
 ·simp [h]
def Reads1 (d : DataW Unit) (zs : List Int) : Prop := (d = .nil ∧ zs = []) ∨ d = .slice (lits .i64 zs) []
def Whr (w : World) (base b m : Nat) (s : Bytes) : Prop :=
 ∃ D : DataW Unit, w.ownsGroups Tryz.prog 9 base 3 .i64 b m D ∧ IsMap D ∧ ∀ kb : Bytes, Reads1 (D.atKey (.string kb) .nil) (places s m kb)
def Fd (w : World) (base F b m : Nat) (s : Bytes) : Prop :=
 w.heap[F]? = some (.cells #[S s, .map (some b), I m] 191 (0, 0)) ∧ Whr w base b m s
theorem lits_inj {a b : List Int} (h : (lits .i64 a : List (DataW Unit)) = lits .i64 b) : a = b := by
 unfold lits at h
 exact (List.map_inj_right (fun x y hxy => by injection hxy with h1; injection h1)).1 h
theorem reads_inj {a b : List Int} (h : (.slice (lits .i64 a) [] : DataW Unit) = .slice (lits .i64 b) []) : a = b := lits_inj (DataW.slice.inj h).1
theorem ok_inj {α : Type} {a b : α} {w w' : World} (h : (Result.ok a w : Result α) = .ok b w') : a = b := (Result.ok.inj h).1
theorem Whr.at_ {w : World} {base b m : Nat} {s : Bytes} (h : Whr w base b m s) (hm : m ≤ 1000000) (kb : Bytes) (hkb : kb.length ≤ 1000000) :
  ∃ v, (∀ w' : World, w'.heap[b]? = w.heap[b]? → (Instr.lookup 189 (.map (some b)) (S kb) false).run Tryz.prog w' = .ok v w') ∧
   w.ownsInts base 3 .i64 v (places s m kb) ∧ b < base ∧
   (∀ (w1 : World) (v' : Value), w.grownBy w1 v.ownBlock → w1.ownsInts base 3 .i64 v' (places s m kb ++ [(m : Int)]) → (v'.ownBlock = v.ownBlock ∨ ∃ g, v'.ownBlock = some g ∧ w.heap.size ≤ g) → slice s m (m + 3) = kb →
    ∃ w2, (Instr.mapUpdate 189 (.map (some b)) (S kb) v').run Tryz.prog w1 = .ok () w2 ∧ Whr w2 base b (m + 1) s ∧ w1.grownBy w2 (some b)) := by
 obtain ⟨D, hg, hD, hr⟩ := h
 have hsz : (⟨kb.toArray⟩ : ByteArray).size ≤ maxLen := by show kb.length ≤ _; unfold maxLen; omega
 have hkey := WideMaps.keyOf_string_mk Tryz.underlying9 hsz
 have hkl : (⟨kb.toArray⟩ : ByteArray).data.toList = kb := by simp
 rw [hkl] at hkey
 obtain ⟨v, zs, hrun, hat, hoi, hzl, hback⟩ := hg.at keyed_str Tryz.underlying189 (zero_ints w) (by unfold maxLen; omega) hkey
 have hzs : zs = places s m kb := by
  have h1 := hr kb
  rw [hat] at h1
  rcases hoi.datum (H := Unit) with ⟨h2, h3⟩ | h2
  ·rw [h2] at h1
   rcases h1 with ⟨_, h4⟩ | h4
   ·rw [h3, h4]
   ·cases h4
  ·rw [h2] at h1
   rcases h1 with ⟨h4, _⟩ | h4
   ·cases h4
   ·exact reads_inj h4
 subst hzs
 have hg' := hg
 obtain ⟨es, clock, hb, F, hs, hDe, hbb, hlen, hap⟩ := hg
 obtain ⟨v2, hv2⟩ := lookup_same Tryz.underlying9 Tryz.underlying189 zero_ints F.keys ⟨kb.toArray⟩ hsz (b := b) (clock := clock)
 have hvv : v2 = v := by
  have h1 := hv2 w hb
  rw [hrun] at h1
  exact (ok_inj h1).symm
 subst hvv
 refine ⟨v2, fun w' hw' => hv2 w' (hw'.trans hb), hoi, hbb, ?_⟩
 intro w1 v' hg1 hown1 hloc hk
 have hlen1 : (places s m kb ++ [(m : Int)]).length ≤ m + 1 := by rw [List.length_append]; simp; exact hzl
 obtain ⟨w2, hrun2, hown2, hgr2⟩ := hback w1 v' _ hg1 hown1 hlen1 hloc
 refine ⟨w2, hrun2, ⟨_, hown2, hD.put _ _, ?_⟩, hgr2⟩
 intro kb'
 rw [places_succ, hk]
 by_cases he : kb' = kb
 ·subst he
  rw [atKey_put_same hD (keyed_str.key hkey), if_pos rfl]
  exact .inr (hown1.datum_pos (by simp))
 ·rw [atKey_put_other (by intro h; injection h with h; exact he h), if_neg (fun h => he h.symm), List.append_nil]
  exact hr kb'
theorem ints_keep {w w' : World} {base : Nat} {e : TypeId} {q : IntKind} {v : Value} {zs : List Int} (h : w.ownsInts base e q v zs) (hr : ∀ (g : Nat) (cs : Array Value), base ≤ g → w.heap[g]? = some (.cells cs e (0, 0)) → w'.heap[g]? = some (.cells cs e (0, 0))) : w'.ownsInts base e q v zs := by
 refine ⟨⟨h.1.1, ?_⟩, h.2⟩
 rcases h.1.2 with hn | ⟨g, cap, cur, hv, hbg, hgg, rest⟩
 ·exact .inl hn
 ·exact .inr ⟨g, cap, cur, hv, hbg, hr g cur hbg hgg, rest⟩
theorem Whr.keep {w w' : World} {base b m : Nat} {s : Bytes} (h : Whr w base b m s) (hb : w'.heap[b]? = w.heap[b]?) (hr : ∀ (g : Nat) (cs : Array Value), base ≤ g → w.heap[g]? = some (.cells cs 3 (0, 0)) → w'.heap[g]? = some (.cells cs 3 (0, 0))) : Whr w' base b m s := by
 obtain ⟨D, ⟨es, clock, hbk, F, hs, hDe, hbb, hlen, hap⟩, hD, hrd⟩ := h
 have hst : ∀ x ∈ es.toList, ∀ z, rowElem (H := Unit) w base 3 .i64 x.val = some z → rowElem (H := Unit) w' base 3 .i64 x.val = some z := by
  intro x _ z hz
  obtain ⟨zs, ho, rfl⟩ := rowElem_inv hz
  exact rowElem_mk (ints_keep ho hr)
 obtain ⟨F', hmap, _⟩ := F.stay hst
 refine ⟨D, ⟨es, clock, hb.trans hbk, F', hs, by rw [hDe, hmap], hbb, ?_, hap⟩, hD, hrd⟩
 intro x hx zs hzs
 obtain ⟨y, hy⟩ := F.reads x hx
 obtain ⟨zv, hzv, _⟩ := WideElems.rd_val hy
 obtain ⟨zs0, ho, _⟩ := rowElem_inv hzv
 have := hzs.unique (ints_keep ho hr)
 rw [this]
 exact hlen x hx zs0 ho
end Go.Proofs.YtjpgoeimclipjaaGreat
namespace Go.Proofs.YtjpgoeimclipjaaGreat
open Pl
theorem slice3 {s : Bytes} {a : Nat} (h : a + 3 ≤ s.length) : slice s a (a + 3) = [s.getD a 0, s.getD (a + 1) 0, s.getD (a + 2) 0] := by
 unfold slice
 have e : ∀ i, i < s.length → s[i]? = some (s.getD i 0) := fun i hi => by
  rw [List.getD_eq_getElem?_getD, List.getElem?_eq_getElem hi]; rfl
 apply List.ext_getElem?
 intro i
 rw [List.getElem?_drop, List.getElem?_take]
 match i with
 | 0 => rw [if_pos (by omega), Nat.add_zero, e a (by omega)]; rfl
 | 1 => rw [if_pos (by omega), e (a + 1) (by omega)]; rfl
 | 2 => rw [if_pos (by omega), e (a + 2) (by omega)]; rfl
 | i + 3 => rw [if_neg (by omega)]; rfl
theorem come3 {s : Bytes} {p y : Nat} (hy : y < p) (hp : p + 3 ≤ s.length) :
  (slice s y (y + 3) = slice s p (p + 3) → come s p (p - y) = comeF s p (p - y) 61 3) ∧ (slice s y (y + 3) = slice s p (p + 3) ↔ 3 ≤ come s p (p - y)) := by
 rw [slice3 (by omega), slice3 hp]
 have e0 : p + 0 - (p - y) = y := by omega
 have e1 : p + 1 - (p - y) = y + 1 := by omega
 have e2 : p + 2 - (p - y) = y + 2 := by omega
 have hle := comeF_le s p (p - y) (by omega) 61 3 (by omega)
 have key : come s p (p - y) = if s.getD p 0 = s.getD y 0 then (if s.getD (p + 1) 0 = s.getD (y + 1) 0 then (if s.getD (p + 2) 0 = s.getD (y + 2) 0 then comeF s p (p - y) 61 3 else 2) else 1) else 0 := by
  unfold come
  rw [comeF, e0, Nat.add_zero]
  by_cases h0 : s.getD p 0 = s.getD y 0
  ·rw [if_pos ⟨by omega, h0⟩, if_pos h0, comeF, e1]
   by_cases h1 : s.getD (p + 1) 0 = s.getD (y + 1) 0
   ·rw [if_pos ⟨by omega, h1⟩, if_pos h1, comeF, e2]
    by_cases h2 : s.getD (p + 2) 0 = s.getD (y + 2) 0
    ·rw [if_pos ⟨by omega, h2⟩, if_pos h2]
    ·rw [if_neg (fun h => h2 h.2), if_neg h2]
   ·rw [if_neg (fun h => h1 h.2), if_neg h1]
  ·rw [if_neg (fun h => h0 h.2), if_neg h0]
 constructor
 ·intro h
  injection h with a h; injection h with b h; injection h with c _
  rw [key, if_pos a.symm, if_pos b.symm, if_pos c.symm]
 ·constructor
  ·intro h
   injection h with a h; injection h with b h; injection h with c _
   rw [key, if_pos a.symm, if_pos b.symm, if_pos c.symm]
   exact hle.1
  ·intro h
   rw [key] at h
   by_cases h0 : s.getD p 0 = s.getD y 0
   ·rw [if_pos h0] at h
    by_cases h1 : s.getD (p + 1) 0 = s.getD (y + 1) 0
    ·rw [if_pos h1] at h
     by_cases h2 : s.getD (p + 2) 0 = s.getD (y + 2) 0
     ·rw [h0, h1, h2]
     ·rw [if_neg h2] at h; omega
    ·rw [if_neg h1] at h; omega
   ·rw [if_neg h0] at h; omega
def bestP (s : Bytes) (p x : Nat) : Nat × Nat := bestF s p (p - x)
theorem bestP_top (s : Bytes) (p : Nat) : bestP s p p = (0, 0) := by unfold bestP; rw [Nat.sub_self]; rfl
theorem bestP_zero (s : Bytes) (p : Nat) : bestP s p 0 = best s p := by unfold bestP best; rfl
theorem bestP_hit {s : Bytes} {p y : Nat} (hy : y < p) (h : 3 ≤ come s p (p - y)) :
  bestP s p y = if (bestP s p (y + 1)).2 < come s p (p - y) then (p - y, come s p (p - y)) else bestP s p (y + 1) := by
 unfold bestP
 obtain ⟨f, hf⟩ : ∃ f, p - y = f + 1 := ⟨p - y - 1, by omega⟩
 rw [hf] at h ⊢
 have e : p - (y + 1) = f := by omega
 rw [e, bestF]
 by_cases h1 : (bestF s p f).2 < come s p (f + 1)
 ·rw [if_pos ⟨h, h1⟩, if_pos h1]
 ·rw [if_neg (fun h2 => h1 h2.2), if_neg h1]
theorem bestP_miss {s : Bytes} {p y : Nat} (hy : y < p) (h : ¬ 3 ≤ come s p (p - y)) : bestP s p y = bestP s p (y + 1) := by
 unfold bestP
 obtain ⟨f, hf⟩ : ∃ f, p - y = f + 1 := ⟨p - y - 1, by omega⟩
 rw [hf] at h ⊢
 have e : p - (y + 1) = f := by omega
 rw [e, bestF, if_neg (fun h2 => h h2.1)]
theorem places_last {s : Bytes} {p : Nat} (hp : p + 3 ≤ s.length) : ∀ x, x ≤ p →
  (places s x (slice s p (p + 3)) = [] ∧ bestP s p x = best s p) ∨
  ∃ y, y < x ∧ slice s y (y + 3) = slice s p (p + 3) ∧ places s x (slice s p (p + 3)) = places s y (slice s p (p + 3)) ++ [(y : Int)] ∧ bestP s p x = bestP s p (y + 1)
 | 0, _ => .inl ⟨by simp [places], bestP_zero s p⟩
 | x + 1, hx => by
  rw [places_succ]
  by_cases h : slice s x (x + 3) = slice s p (p + 3)
  ·rw [if_pos h]
   exact .inr ⟨x, by omega, h, rfl, rfl⟩
  ·rw [if_neg h, List.append_nil]
   have hm : bestP s p x = bestP s p (x + 1) := bestP_miss (by omega) (fun h2 => h ((come3 (by omega) hp).2.2 h2))
   rw [← hm]
   rcases places_last hp x (by omega) with h1 | ⟨y, h1, h2, h3, h4⟩
   ·exact .inl h1
   ·exact .inr ⟨y, by omega, h2, h3, h4⟩
theorem best_short {s : Bytes} {p : Nat} (hp : p ≤ s.length) (h : s.length < p + 3) : best s p = (0, 0) := by
 have : ∀ f, bestF s p f = (0, 0) := fun f => by
  induction f with
  | zero => rfl
  | succ f ih =>
   have := (come_le s p (f + 1) hp).2
   rw [bestF, if_neg (by omega), ih]
 exact this p
theorem places_len (s : Bytes) (m : Nat) (kb : Bytes) : (places s m kb).length ≤ m := by
 unfold places
 rw [List.length_map]
 exact Nat.le_trans (List.length_filter_le _ _) (by simp)
end Go.Proofs.YtjpgoeimclipjaaGreat
namespace Go.Proofs.YtjpgoeimclipjaaGreat
open Go.RowKit Go.Lib Pl
attribute [local go_sem] ext_list app_list
structure FdFrame (base F b : Nat) (w w' : World) : Prop where
 os : w'.os = w.os
 tape : w'.tape = w.tape
 output : w'.output = w.output
 size : w.heap.size ≤ w'.heap.size
 block : ∀ (k : Nat) (o : Obj), w.heap[k]? = some o → k ≠ b → k ≠ F → (base ≤ k → ∀ cs, o ≠ .cells cs 3 (0, 0)) → w'.heap[k]? = some o
section
variable {base F b : Nat} {u v x : World}
theorem FdFrame.refl (base F b : Nat) (w : World) : FdFrame base F b w w := ⟨rfl, rfl, rfl, Nat.le_refl _, fun _ _ h _ _ _ => h⟩
theorem FdFrame.trans (h : FdFrame base F b u v) (k : FdFrame base F b v x) : FdFrame base F b u x :=
 ⟨k.os.trans h.os, k.tape.trans h.tape, k.output.trans h.output, Nat.le_trans h.size k.size, fun i o hi h1 h2 h3 => k.block i o (h.block i o hi h1 h2 h3) h1 h2 h3⟩
theorem FdFrame.of_below (h : Below u.heap.size u v) : FdFrame base F b u v :=
 ⟨h.os, h.tape, h.output, h.size, fun i _ hi _ _ _ => (h.block i (Array.getElem?_eq_some_iff.1 hi).1).trans hi⟩
theorem FdFrame.below (h : FdFrame base F b u v) {B : Nat} (h1 : B ≤ b) (h2 : B ≤ F) (h3 : B ≤ base) (h4 : B ≤ u.heap.size) : Below B u v :=
 ⟨h.os, h.tape, h.output, h.size, fun k hk => by
  have hlt : k < u.heap.size := by omega
  have := h.block k u.heap[k] (Array.getElem?_eq_getElem hlt) (by omega) (by omega) (fun h5 => by omega)
  rw [this, Array.getElem?_eq_getElem hlt]⟩
end
theorem finder_far {w : World} {base F : Nat} {cs : Array Value} {fz : Nat × Nat} {v : Value} {zs : List Int} (hblk : w.heap[F]? = some (.cells cs 191 fz)) (ho : w.ownsInts base 3 .i64 v zs) : v.ownBlock ≠ some F := by
 rcases ho.1.2 with ⟨rfl, _⟩ | ⟨g, cap, cur, rfl, _, hg, _⟩
 ·simp [Value.ownBlock]
 ·intro e
  have : g = F := by simpa [Value.ownBlock] using e
  subst this
  rw [hblk] at hg
  injection hg with hg
  injection hg with _ h2
  exact absurd h2 (by decide)
theorem info_int : (Tryz.prog.info? 3).map (fun i => (i.zero, i.size, i.bytes)) = some (some (.int .i64 0), 1, 8) := by kernel_rfl
theorem ints_drewN {w : World} {base : Nat} {e : TypeId} {q : IntKind} {v : Value} {zs : List Int} (h : w.ownsInts base e q v zs) (k : Nat) : (w.drewN k).ownsInts base e q v zs := h
theorem step_push_int {w : World} {ops : Array Oper} {o : Oper} {a : Act} {K : Act → World → Prop} {Q : Exit → Act → World → Prop} {E : Prop} (hgd : o.guard = none) (s x : Operand)
  (ho : o.op = .call { callee := .builtin .append, args := #[s, x], argTypes := #[24, 24] })
  (base : Nat) (v : Value) (zs : List Int) (hs : a.eval s = v) (hown : w.ownsInts base 3 .i64 v zs) (g0 : Nat) (z : Int) (hx : a.eval x = .slice (some ⟨g0, 0, none⟩) 1 1) (hc : w.cell? ⟨g0, 0, none⟩ = some (I z)) (hz : (Lit.int .i64 z).wf = true)
  (hn : zs.length ≤ 1000000) (hbase : base ≤ w.heap.size)
  (h : ∀ g cap w', w'.ownsInts base 3 .i64 (.slice (some ⟨g, 0, none⟩) (zs.length + 1) cap) (zs ++ [z]) → w.grownBy w' v.ownBlock → (v.ownBlock = some g ∨ g = w.heap.size) → K (a.put o.dst (.slice (some ⟨g, 0, none⟩) (zs.length + 1) cap)) w') :
  if Region.wanted o (yielded ops a.tmps) = true then Oper.wp Tryz.prog o a w K Q else E := by
 obtain ⟨i0, hi0, hz0, hz1, hz2⟩ := info_parts info_int
 refine step_append_lies _ hgd s x _ ho base 3 i0 _ 1 8 Tryz.underlying24 hi0 hz0 hz1 hz2 rfl (by decide) v zs.length (zs.map (Value.int .i64)) hs hown.1 ⟨g0, 0, none⟩ 1 1 [I z] hx rfl ?_ (by intro y hy; simp at hy; subst hy; rfl) (by decide) (by unfold maxLen; omega) (by omega) hbase w.heap.size rfl ?_
 ·intro j u hj
  match j, hj with
  | 0, hj => simp at hj; subst hj; simpa [Addr.add] using hc
 ·intro g cap w' hown' hg hat _
  exact h g cap w' (hown.appended hown' hz) hg hat
theorem cell_new_drewN (w : World) (k : Nat) (x : Value) (t : TypeId) : ((w.drewN k).alloc (.cells #[x] t)).cell? ⟨w.heap.size, 0, none⟩ = some x := by
 have := cell_one_new (w.drewN k) x t 0 x rfl
 simpa [Addr.add] using this
theorem far_row {w w1 : World} {F : Nat} {o : Obj} {row : Option Nat} (h : w.heap[F]? = some o) (hne : row ≠ some F) (hg : w.grownBy w1 row) : w1.heap[F]? = some o :=
 (hg.block F (Array.getElem?_eq_some_iff.1 h).1 (fun e => hne e.symm)).trans h
theorem Whr.ne_ {w : World} {base b m F : Nat} {s : Bytes} {cs : Array Value} {t : TypeId} {fz : Nat × Nat} (h : Whr w base b m s) (hF : w.heap[F]? = some (.cells cs t fz)) : b ≠ F := by
 rintro rfl
 obtain ⟨D, ⟨es, clock, hb, _⟩, _⟩ := h
 rw [hb] at hF
 cases hF
theorem grown_of_alloc {w w1 : World} {o : Obj} {k : Nat} {row : Option Nat} (h : ((w.drewN k).alloc o).grownBy w1 row) : w.grownBy w1 row :=
 ⟨h.os, h.tape, h.output, Nat.le_trans (by simp) h.size, fun i hi hne => (h.block i (by simp; omega) hne).trans (Below.heap_alloc (w.drewN k) o i hi)⟩
theorem own_at {w : World} {o : Obj} {k g n c : Nat} {v : Value} (h : v.ownBlock = some g ∨ g = ((w.drewN k).alloc o).heap.size) : (Value.slice (some ⟨g, 0, none⟩) n c).ownBlock = v.ownBlock ∨ ∃ g', (Value.slice (some ⟨g, 0, none⟩) n c).ownBlock = some g' ∧ w.heap.size ≤ g' := by
 rcases h with h | h
 ·exact .inl h.symm
 ·exact .inr ⟨g, rfl, by rw [h]; simp⟩
theorem note_step {wr w1 w2 : World} {base F b q : Nat} {s : Bytes} {v : Value} {zs : List Int} (hblk : wr.heap[F]? = some (.cells #[S s, .map (some b), I q] 191 (0, 0))) (ho : wr.ownsInts base 3 .i64 v zs) (hbF : some b ≠ some F)
  (hg1 : wr.grownBy w1 v.ownBlock) (hg2 : w1.grownBy w2 (some b)) (hW2 : Whr w2 base b (q + 1) s) :
  Fd (w2.setCell ⟨F, 2, none⟩ (.int .i64 ((q : Int) + 1))) base F b (q + 1) s ∧ FdFrame base F b wr (w2.setCell ⟨F, 2, none⟩ (.int .i64 ((q : Int) + 1))) := by
 have hF1 := far_row hblk (finder_far hblk ho) hg1
 have hF2 := far_row hF1 hbF hg2
 have hbF' : b ≠ F := fun e => hbF (by rw [e])
 refine ⟨⟨?_, hW2.keep (Below.heap_setCell _ _ _ _ hbF') ?_⟩, ⟨?_, ?_, ?_, ?_, ?_⟩⟩
 ·rw [set_row hF2]; rfl
 ·intro g cs _ hg
  rw [Below.heap_setCell _ _ _ _ (fun e => by
   have e' : g = F := e
   subst e'; rw [hF2] at hg; injection hg with hg; injection hg with _ h2; exact absurd h2 (by decide))]
  exact hg
 ·exact hg2.os.trans hg1.os
 ·exact hg2.tape.trans hg1.tape
 ·exact hg2.output.trans hg1.output
 ·rw [size_setCell]; exact Nat.le_trans hg1.size hg2.size
 ·intro k o hk h1 h2 h3
  have hlt : k < wr.heap.size := (Array.getElem?_eq_some_iff.1 hk).1
  have hne : some k ≠ v.ownBlock := fun e => by
   rcases ho.1.2 with ⟨rfl, _⟩ | ⟨g, cap, cur, rfl, hbg, hg, _⟩
   ·simp [Value.ownBlock] at e
   ·have e' : k = g := by simpa [Value.ownBlock] using e
    subst e'
    rw [hg] at hk; injection hk with hk
    exact h3 hbg cur hk.symm
  rw [Below.heap_setCell _ _ _ _ (fun e => h2 e), hg2.block k (Nat.lt_of_lt_of_le hlt hg1.size) (fun e => h1 (by injection e)), hg1.block k hlt hne]
  exact hk
set_option maxHeartbeats 2000000 in
set_option maxRecDepth 100000 in
theorem note_any (s : Bytes) (base F b m p : Nat) (w : World) (hF : Fd w base F b m s) (hbs : base ≤ w.heap.size) (hmp : m ≤ p) (hp : p ≤ s.length) (hs : s.length ≤ 768) :
  Calls Tryz.prog 169 #[.pointer (some ⟨F, 0, none⟩), I p] w fun e w' => e = .returned (.tuple #[]) ∧ ∃ m', m ≤ m' ∧ m' ≤ p ∧ (m' = p ∨ s.length < m' + 3) ∧ Fd w' base F b m' s ∧ FdFrame base F b w w' := by
 obtain ⟨i0, hi0, hz0, hz1, hz2⟩ := info_parts info_int
 go_enter Tryz.func169, Tryz.ntmps169
 go_wp2_with fail
 go_loopg [4] (p - m) (fun gk _ wr => ∃ m', gk = p - m' ∧ m ≤ m' ∧ m' ≤ p ∧ Fd wr base F b m' s ∧ FdFrame base F b w wr)
 case atStart => exact ⟨m, rfl, Nat.le_refl _, hmp, hF, FdFrame.refl _ _ _ _⟩
 case round =>
  obtain ⟨q, hgk, hmq, hqp, hFd, hfr⟩ := hrel
  obtain ⟨hblk, hwhr⟩ := hFd
  have hFlt : F < wr.heap.size := (Array.getElem?_eq_some_iff.1 hblk).1
  have c0 : wr.cell? ⟨F, 0, none⟩ = some (S s) := by rw [cell_of_row wr F 0 _ _ _ hblk]; rfl
  have c1 : wr.cell? ⟨F, 1, none⟩ = some (.map (some b)) := by rw [cell_of_row wr F 1 _ _ _ hblk]; rfl
  have c2 : wr.cell? ⟨F, 2, none⟩ = some (I q) := by rw [cell_of_row wr F 2 _ _ _ hblk]; rfl
  have f2 : wr.frozen? ⟨F, 2, none⟩ = false := by simp [World.frozen?, hblk]
  have hbs2 := hfr.size
  have HG := hide hgk
  clear hgk
  by_cases hlt : q < p
  ·have d1 : decide (q < p) = true := by simp; omega
   have d1i : decide ((q : Int) < (p : Int)) = true := by simp; omega
   have hw3 : IntKind.i64.wrap ((q : Int) + 3) = (q : Int) + 3 := IntWalk.i64_in _ ⟨by omega, by omega⟩
   by_cases h3 : q + 3 ≤ s.length
   ·have d2 : decide ((q : Int) + 3 ≤ (s.length : Int)) = true := by simp; omega
    have n1 : (0 : Int) ≤ (q : Int) := by omega
    have n2 : (0 : Int) ≤ (q : Int) + 3 := by omega
    have n3 : ((q : Int) + 3).toNat = q + 3 := by omega
    have n4 : (q : Int) ≤ (q : Int) + 3 := by omega
    have n5 : (q : Int) + 3 ≤ (s.length : Int) := by omega
    have hsl := slice_len s q (q + 3)
    obtain ⟨v, hv, hoi, hbb, hback⟩ := hwhr.at_ (by omega) (slice s q (q + 3)) (by omega)
    obtain ⟨A, cap, hvs⟩ : ∃ A cap, v = .slice A (places s q (slice s q (q + 3))).length cap := by
     rcases hoi.1.2 with ⟨rfl, h0⟩ | ⟨g, cap, cur, rfl, _⟩
     ·exact ⟨none, 0, by rw [h0]⟩
     ·exact ⟨_, _, rfl⟩
    subst hvs
    have hpl : (places s q (slice s q (q + 3))).length ≤ q := by
     unfold places
     rw [List.length_map]
     exact Nat.le_trans (List.length_filter_le _ _) (by simp)
    have HV := hide hv
    have HO := hide hoi
    have HB := hide hback
    have HK := hide hblk
    clear hv hoi hback hblk hsl
    go_wp2_with fail
    go_quiet (fail)
    go_wp2_with fail
    go_quiet (fail)
    go_wp2_with fail
    have hblt : b < wr.heap.size := by omega
    have hbF : some b ≠ some F := fun e => by injection e with e; exact hwhr.ne_ (unhide HK) e
    have hqwf : (Lit.int .i64 (q : Int)).wf = true := WalkArith.wf_i64 (by omega)
    have hl1 := fun (k : Nat) => unhide HV (wr.drewN k) rfl
    have hl2 := fun (k : Nat) (o : Obj) => unhide HV ((wr.drewN k).alloc o) (Below.heap_alloc (wr.drewN k) o b hblt)
    have hx1 := fun (k : Nat) (o : Obj) => (World.cell?_alloc_lt (wr.drewN k) o ⟨F, 1, none⟩ hFlt).trans c1
    have hx2 := fun (k : Nat) (o : Obj) => (World.cell?_alloc_lt (wr.drewN k) o ⟨F, 2, none⟩ hFlt).trans c2
    go_region_held3 (fun w' => w'.cell? ⟨F, 1, none⟩ = some (.map (some b)) ∧ w'.cell? ⟨F, 2, none⟩ = some (I q))
     (first
      | go_keep
      | (go_split_ands
         refine ⟨?_, ?_⟩
         ·exact hx1 _ _
         ·exact hx2 _ _)
      | (go_split_ands
         refine ⟨?_, ?_⟩
         ·first | exact (cell_of_row w1 F 1 _ _ _ hF1).trans rfl | exact (cell_of_row w2 F 1 _ _ _ hF2).trans rfl
         ·first | exact (cell_of_row w1 F 2 _ _ _ hF1).trans rfl | exact (cell_of_row w2 F 2 _ _ _ hF2).trans rfl))
     ((refine step_push_int rfl _ _ rfl base _ (places s q (slice s q (q + 3))) rfl (by exact ((ints_drewN (unhide HO) _).alloc _)) wr.heap.size (q : Int) rfl (cell_new_drewN wr _ _ _) hqwf (by omega) (by simp; omega) ?_; intro g1 cap1 w1 hown1 hgrow1 hat1; have hF1 := far_row (unhide HK) (finder_far (unhide HK) (unhide HO)) (grown_of_alloc hgrow1); obtain ⟨w2, hrun2, hW2, hg2⟩ := unhide HB w1 _ (grown_of_alloc hgrow1) hown1 (own_at hat1) (by first | trivial | rfl); have hF2 := far_row hF1 hbF hg2))
    all_goals
     obtain ⟨hc1', hc2'⟩ := ‹w2.cell? ⟨F, 1, none⟩ = some (.map (some b)) ∧ w2.cell? ⟨F, 2, none⟩ = some (I q)›
     have hf2' : w2.frozen? ⟨F, 2, none⟩ = false := free_row w2 F 2 _ _ hF2
     clear hl1 hl2 hx1 hx2 c0 c1 c2 f2
     go_wp2_with fail
     go_roundg (p - (q + 1))
     case measure => have := unhide HG; omega
     case rel =>
      obtain ⟨h1, h2⟩ := note_step (unhide HK) (unhide HO) hbF (grown_of_alloc hgrow1) hg2 hW2
      exact ⟨q + 1, rfl, by omega, by omega, h1, hfr.trans h2⟩
   ·have d2 : decide ((q : Int) + 3 ≤ (s.length : Int)) = false := by simp; omega
    clear hbs2
    go_wp2_with fail
    go_quiet (fail)
    go_wp2_with fail
    go_end0
    exact ⟨rfl, q, hmq, hqp, .inr (by omega), ⟨hblk, hwhr⟩, hfr.trans (FdFrame.of_below (_root_.Go.below_drewN (Below.refl _ _) _))⟩
  ·have d1 : decide (q < p) = false := by simp; omega
   have d1i : decide ((q : Int) < (p : Int)) = false := by simp; omega
   clear hbs2
   go_wp2_with fail
   go_quiet (fail)
   go_wp2_with fail
   go_end0
   exact ⟨rfl, q, hmq, hqp, .inl (by omega), ⟨hblk, hwhr⟩, hfr.trans (FdFrame.of_below (_root_.Go.below_drewN (Below.refl _ _) _))⟩
end Go.Proofs.YtjpgoeimclipjaaGreat
namespace Go.Proofs.YtjpgoeimclipjaaGreat
open Go.RowKit Go.Lib Pl
attribute [local go_sem] ext_list app_list
theorem places_prefix (s : Bytes) (kb : Bytes) (x : Nat) : ∀ d, ∃ r, places s (x + d) kb = places s x kb ++ r
 | 0 => ⟨[], by simp⟩
 | d + 1 => by
  obtain ⟨r, hr⟩ := places_prefix s kb x d
  rw [← Nat.add_assoc, places_succ, hr]
  exact ⟨_, List.append_assoc _ _ _⟩
theorem places_get {s : Bytes} {kb : Bytes} {x y p : Nat} (hx : x ≤ p) (h : places s x kb = places s y kb ++ [(y : Int)]) : (places s p kb)[(places s y kb).length]? = some (y : Int) := by
 obtain ⟨r, hr⟩ := places_prefix s kb x (p - x)
 rw [show x + (p - x) = p from by omega] at hr
 rw [hr, h, List.append_assoc, List.getElem?_append_right (Nat.le_refl _), Nat.sub_self]
 rfl
theorem get_lt {α : Type} {l : List α} {i : Nat} {a : α} (h : l[i]? = some a) : i < l.length := (List.getElem?_eq_some_iff.1 h).1
theorem len_snoc {α : Type} (l : List α) (a : α) : (((l ++ [a]).length : Nat) : Int) - 1 = (l.length : Int) := by simp
set_option maxHeartbeats 4000000 in
set_option maxRecDepth 100000 in
theorem best_any (s : Bytes) (base F b m p : Nat) (w : World) (hF : Fd w base F b m s) (hbs : base ≤ w.heap.size) (_hFb : F < base) (hmp : m ≤ p) (hp : p ≤ s.length) (hs : s.length ≤ 768) :
  Calls Tryz.prog 152 #[.pointer (some ⟨F, 0, none⟩), I p] w fun e w' => e = .returned (.tuple #[I (best s p).1, I (best s p).2]) ∧ ∃ m', m ≤ m' ∧ m' ≤ p ∧ Fd w' base F b m' s ∧ FdFrame base F b w w' := by
 have cN := hide (note_any s base F b m p w hF hbs hmp hp hs)
 go_enter Tryz.func152, Tryz.ntmps152
 go_wp2_with fail
 refine (unhide cN).mono ?_
 rintro e w1 ⟨rfl, q, hmq, hqp, hq, hFd, hfr⟩
 have hFd' := hFd
 obtain ⟨hblk, hwhr⟩ := hFd
 have hFlt : F < w1.heap.size := (Array.getElem?_eq_some_iff.1 hblk).1
 have c0 : w1.cell? ⟨F, 0, none⟩ = some (S s) := by rw [cell_of_row w1 F 0 _ _ _ hblk]; rfl
 have c1 : w1.cell? ⟨F, 1, none⟩ = some (.map (some b)) := by rw [cell_of_row w1 F 1 _ _ _ hblk]; rfl
 by_cases h3 : s.length < p + 3
 ·have hbest := best_short hp h3
  have HB := hide hbest
  have h3i : (s.length : Int) < (p : Int) + 3 := by omega
  clear hbest
  go_wp2_with fail
  go_ret2
  rw [unhide HB]
  exact ⟨rfl, q, hmq, hqp, hFd', hfr⟩
 ·have hqp2 : q = p := by omega
  have h3b : p + 3 ≤ s.length := by omega
  have h3i : (p : Int) + 3 ≤ (s.length : Int) := by omega
  have n1 : (0 : Int) ≤ (p : Int) := by omega
  have n2 : (0 : Int) ≤ (p : Int) + 3 := by omega
  have n3 : ((p : Int) + 3).toNat = p + 3 := by omega
  have n4 : (p : Int) ≤ (p : Int) + 3 := by omega
  have hw3 : IntKind.i64.wrap ((p : Int) + 3) = (p : Int) + 3 := IntWalk.i64_in _ ⟨by omega, by omega⟩
  have hsl := slice_len s p (p + 3)
  obtain ⟨v, hv, hoi, hbb, _⟩ := hwhr.at_ (by omega) (slice s p (p + 3)) (by omega)
  rw [hqp2] at hoi
  have hpl := places_len s p (slice s p (p + 3))
  obtain ⟨A, cap, hvs⟩ : ∃ A cap, v = .slice A (places s p (slice s p (p + 3))).length cap := by
   rcases hoi.1.2 with ⟨rfl, h0⟩ | ⟨g, cap, cur, rfl, _⟩
   ·exact ⟨none, 0, by rw [h0]⟩
   ·exact ⟨_, _, rfl⟩
  subst hvs
  have hl0 := fun (k : Nat) => hv (w1.drewN k) rfl
  have HV := hide hv
  have HO := hide hoi
  have HFD := hide hFd'
  have HQ := hide hqp2
  obtain ⟨P, hP⟩ : ∃ P, P = places s p (slice s p (p + 3)) := ⟨_, rfl⟩
  rw [← hP] at hl0 hpl
  clear hv hoi hsl hwhr hFd' hqp2 hblk hq
  go_wp2_with fail
  go_quiet (fail)
  go_wp2_with fail
  clear hl0 c1
  have hPi : (0 : Int) ≤ (P.length : Int) := by omega
  have hPj : IntKind.i64.wrap ((P.length : Int) - 1) = (P.length : Int) - 1 := IntWalk.i64_in _ ⟨by omega, by omega⟩
  have HP := hide hP
  clear hP
  go_wp2_with fail
  go_loopw [7, 8, 9] (fun fv sv i wr => ∃ x : Nat, x ≤ p ∧ i = .int .i64 (((places s x (slice s p (p + 3))).length : Int) - 1) ∧ fv = .int .i64 (bestP s p x).1 ∧ sv = .int .i64 (bestP s p x).2 ∧ Below w1.heap.size w1 wr)
   (fun _ _ i _ => (intOf i + 1).toNat)
  case atStart =>
   refine ⟨p, Nat.le_refl _, by rw [← unhide HP]; rw [IntWalk.wrap64_in _ ⟨by omega, by omega⟩], by rw [bestP_top]; rfl, by rw [bestP_top]; rfl, _root_.Go.below_drewN (Below.refl _ _) _⟩
  case round =>
   obtain ⟨x, hx, hi, hf7, hs8, hbel⟩ := hrel
   have c0' : wr.cell? ⟨F, 0, none⟩ = some (S s) := (hbel.cell (p := ⟨F, 0, none⟩) hFlt).trans c0
   rcases places_last h3b x hx with ⟨he, hb⟩ | ⟨y, hyx, hy3, hpe, hb⟩
   ·rw [he] at hi
    subst hi
    rw [hb] at hf7 hs8
    subst hf7 hs8
    clear he hb
    go_wp2_with fail
    go_ret2
    refine ⟨rfl, p, by omega, Nat.le_refl _, ?_, ?_⟩
    ·have h5 := unhide HFD
     have h6 := hfr.size
     rw [unhide HQ] at h5
     exact ⟨(hbel.block F hFlt).trans h5.1, h5.2.keep (hbel.block b (by omega)) (fun g cs _ hg => (hbel.block g (Array.getElem?_eq_some_iff.1 hg).1).trans hg)⟩
    ·exact hfr.trans (FdFrame.of_below hbel)
   ·have hget := places_get hx hpe
    rw [hpe, len_snoc] at hi
    obtain ⟨L, hL⟩ : ∃ L, L = (places s y (slice s p (p + 3))).length := ⟨_, rfl⟩
    have hLy : L ≤ y := by rw [hL]; exact places_len _ _ _
    rw [← hL] at hi hget
    rw [← unhide HP] at hget
    have hLP := get_lt hget
    subst hi
    obtain ⟨⟨bf, bs⟩, hbp⟩ : ∃ q : Nat × Nat, q = bestP s p x := ⟨_, rfl⟩
    rw [← hbp] at hf7 hs8
    subst hf7 hs8
    have hO := unhide HO
    rw [← unhide HP] at hO
    obtain ⟨g, hg⟩ : ∃ g, A = some ⟨g, 0, none⟩ := by
     rcases hO.1.2 with ⟨h5, _⟩ | ⟨g, _, _, h5, _⟩
     ·injection h5 with h6 h7 _; omega
     ·injection h5 with h6; exact ⟨g, h6⟩
    subst hg
    have hgl := (OwnM.of hO.1).lt g rfl
    have hcL := (OwnM.of hO.1).cells (g := g) rfl L (I y) (by rw [List.getElem?_map, hget]; rfl)
    rw [show (⟨g, 0, none⟩ : Addr).add L = ⟨g, L, none⟩ from by simp [Addr.add]; exact Eq.symm] at hcL
    obtain ⟨hcq, hc3⟩ := come3 (s := s) (p := p) (y := y) (by omega) h3b
    have hcome := hcq hy3
    have hge := hc3.1 hy3
    have hle := (come_le s p (p - y) hp)
    obtain ⟨c, hc⟩ : ∃ c, c = come s p (p - y) := ⟨_, rfl⟩
    have hhit := bestP_hit (s := s) (p := p) (y := y) (by omega) hge
    rw [← hb, ← hbp] at hhit
    rw [← hc] at hhit hge hle
    have HH := hide hhit
    have HC := hide hc
    have HCM := hide hcome
    have HB := hide hb
    have HBP := hide hbp
    have HPE := hide hpe
    have HLL := hide hL
    have q1 : decide ((L : Int) ≥ 0) = true := by simp
    have q2 : (0 : Int) ≤ (L : Int) := by omega
    have q4 : L < (places s p (slice s p (p + 3))).length := by rw [← unhide HP]; exact hLP
    have q3 : (L : Int) < ((places s p (slice s p (p + 3))).length : Int) := by omega
    clear hhit hc hcome hb hbp hpe hL hO hget hy3 hc3 hcq c0'
    go_wp2_with fail
    go_loopw [10] (fun i wn => ∃ n : Nat, 3 ≤ n ∧ n ≤ 64 ∧ i = .int .i64 n ∧ come s p (p - y) = comeF s p (p - y) (64 - n) n ∧ Below w1.heap.size w1 wn) (fun i _ => 64 - (intOf i).toNat)
    case atStart => exact ⟨3, by omega, by omega, rfl, unhide HCM, hbel⟩
    case round =>
     obtain ⟨n, hn3, hn64, rfl, hcn, hbeln⟩ := hrel
     have c0n : wr.cell? ⟨F, 0, none⟩ = some (S s) := (hbeln.cell (p := ⟨F, 0, none⟩) hFlt).trans c0
     have cLn : wr.cell? ⟨g, L, none⟩ = some (I y) := (hbeln.cell (p := ⟨g, L, none⟩) hgl.2).trans hcL
     clear c0 hcL
     have r2 : IntKind.i64.wrap ((p : Int) - (y : Int)) = (p : Int) - (y : Int) := IntWalk.i64_in _ ⟨by omega, by omega⟩
     by_cases hn : n < 64
     ·have d1 : decide ((n : Int) < 64) = true := by simp; omega
      have hpk : IntKind.i64.wrap ((p : Int) + (n : Int)) = (p : Int) + (n : Int) := IntWalk.i64_in _ ⟨by omega, by omega⟩
      have hyk : IntKind.i64.wrap ((y : Int) + (n : Int)) = (y : Int) + (n : Int) := IntWalk.i64_in _ ⟨by omega, by omega⟩
      by_cases hpn : p + n < s.length
      ·have d2 : decide ((p : Int) + (n : Int) < (s.length : Int)) = true := by simp; omega
       have hyl : y + n < s.length := by omega
       have e1 : (0 : Int) ≤ (p : Int) + (n : Int) := by omega
       have e2 : ((p : Int) + (n : Int)).toNat = p + n := by omega
       have e3 : (p : Int) + (n : Int) < (s.length : Int) := by omega
       have f1 : (0 : Int) ≤ (y : Int) + (n : Int) := by omega
       have f2 : ((y : Int) + (n : Int)).toNat = y + n := by omega
       have f3 : (y : Int) + (n : Int) < (s.length : Int) := by omega
       obtain ⟨a, ha⟩ : ∃ a, (⟨s.toArray⟩ : ByteArray)[y + n]'hyl = a := ⟨_, rfl⟩
       obtain ⟨b', hb'⟩ : ∃ b', (⟨s.toArray⟩ : ByteArray)[p + n]'hpn = b' := ⟨_, rfl⟩
       have hga : s.getD (p + n) 0 = b' := by rw [List.getD_eq_getElem?_getD, List.getElem?_eq_getElem hpn]; exact hb'
       have hgb : s.getD (p + n - (p - y)) 0 = a := by rw [show p + n - (p - y) = y + n from by omega, List.getD_eq_getElem?_getD, List.getElem?_eq_getElem hyl]; exact ha
       have h64 : 64 - n = (63 - n) + 1 := by omega
       rw [h64, comeF, hga, hgb] at hcn
       have HCN := hide hcn
       clear hcn hga hgb h64
       by_cases hab : a = b'
       ·subst hab
        have g1 : ((a.toNat : Int) == (a.toNat : Int)) = true := by simp
        go_wp2_with fail
        go_quiet (fail)
        go_wp2_with fail
        go_roundw
        case rel =>
         refine ⟨n + 1, by omega, by omega, by go_num, ?_, _root_.Go.below_drewN hbeln _⟩
         rw [unhide HCN, if_pos ⟨hpn, by first | trivial | rfl⟩, show 64 - (n + 1) = 63 - n from by omega]
        case measure => simp [intOf]; omega
       ·have g1 : ((a.toNat : Int) == (b'.toNat : Int)) = false := by
         rw [beq_eq_false_iff_ne]; intro h
         exact hab (UInt8.toNat_inj.1 (by omega))
        have hfin : c = n := by rw [unhide HC, unhide HCN, if_neg (fun h => hab h.2.symm)]
        subst hfin
        clear hab
        go_wp2_with fail
        go_quiet (fail)
        go_wp2_with fail
        all_goals
         have hh := unhide HH
         have hbe : Below w1.heap.size w1 (wr.drewN nq) := _root_.Go.below_drewN hbeln _
         refine ⟨⟨y, by omega, by rw [unhide HLL], ?_, ?_, by first | exact hbe | exact _root_.Go.below_drewN hbe _⟩, by simp [intOf] <;> omega⟩
         all_goals first
          | (rw [if_neg (by omega)] at hh; rw [hh])
          | (rw [if_pos (by omega)] at hh; rw [hh]; first | done | rfl | (apply congrArg <;> omega) | (rw [r2]; apply congrArg <;> omega))
      ·have d2 : decide ((p : Int) + (n : Int) < (s.length : Int)) = false := by simp; omega
       have hfin : c = n := by rw [unhide HC, hcn, show 64 - n = (63 - n) + 1 from by omega, comeF, if_neg (fun h => hpn h.1)]
       subst hfin
       clear hcn
       go_wp2_with fail
       go_quiet (fail)
       go_wp2_with fail
       all_goals
        have hh := unhide HH
        have hbe : Below w1.heap.size w1 (wr.drewN nq) := _root_.Go.below_drewN hbeln _
        refine ⟨⟨y, by omega, by rw [unhide HLL], ?_, ?_, by first | exact hbe | exact _root_.Go.below_drewN hbe _⟩, by simp [intOf] <;> omega⟩
        all_goals first
         | (rw [if_neg (by omega)] at hh; rw [hh])
         | (rw [if_pos (by omega)] at hh; rw [hh]; first | done | rfl | (apply congrArg <;> omega) | (rw [r2]; apply congrArg <;> omega))
     ·have d1 : decide ((n : Int) < 64) = false := by simp; omega
      have hfin : c = n := by rw [unhide HC, hcn, show 64 - n = 0 from by omega, comeF]
      subst hfin
      clear hcn
      go_wp2_with fail
      go_quiet (fail)
      go_wp2_with fail
      all_goals
       have hh := unhide HH
       have hbe : Below w1.heap.size w1 (wr.drewN nq) := _root_.Go.below_drewN hbeln _
       refine ⟨⟨y, by omega, by rw [unhide HLL], ?_, ?_, by first | exact hbe | exact _root_.Go.below_drewN hbe _⟩, by simp [intOf] <;> omega⟩
       all_goals first
        | (rw [if_neg (by omega)] at hh; rw [hh])
        | (rw [if_pos (by omega)] at hh; rw [hh]; first | done | rfl | (apply congrArg <;> omega) | (rw [r2]; apply congrArg <;> omega))
end Go.Proofs.YtjpgoeimclipjaaGreat
namespace Go.Proofs.YtjpgoeimclipjaaGreat
open Go.RowKit Go.Lib Pl
attribute [local go_sem] ext_list app_list
structure PSt (B : Nat) (w : World) (s : Bytes) (a p m : Nat) (v : Value) (n : Nat) (o : List Tok) : Prop where
 pf : w.heap[B + 2]? = some (.cells #[.pointer (some ⟨B + 1, 0, none⟩)] 188 (0, 0))
 po : w.heap[B + 3]? = some (.cells #[v] 147 (0, 0))
 pa : w.heap[B + 4]? = some (.cells #[I a] 3 (0, 0))
 pt : w.heap[B + 5]? = some (.cells #[I p] 3 (0, 0))
 own : w.ownsRow (B + 6) 183 3 v n (toksCells o)
 fd : Fd w (B + 6) (B + 1) B m s
theorem row_keep {w w' : World} {base e size n : Nat} {v : Value} {xs : List Value} (h : w.ownsRow base e size v n xs) (hk : ∀ g, v.ownBlock = some g → w'.heap[g]? = w.heap[g]?) : w'.ownsRow base e size v n xs := by
 refine ⟨h.1, ?_⟩
 rcases h.2 with hn | ⟨g, cap, cur, hv, hb, hg, rest⟩
 ·exact .inl hn
 ·exact .inr ⟨g, cap, cur, hv, hb, (hk g (by rw [hv]; rfl)).trans hg, rest⟩
theorem row_type {w : World} {base e size n g : Nat} {v : Value} {xs : List Value} {cs : Array Value} {t : TypeId} {fz : Nat × Nat} (h : w.ownsRow base e size v n xs) (hv : v.ownBlock = some g) (hg : w.heap[g]? = some (.cells cs t fz)) : t = e := by
 rcases h.2 with ⟨rfl, _⟩ | ⟨g', cap, cur, rfl, hb, hgg, rest⟩
 ·simp [Value.ownBlock] at hv
 ·have e' : g' = g := by simpa [Value.ownBlock] using hv
  subst e'
  rw [hg] at hgg
  injection hgg with hgg
  injection hgg
section
variable {B : Nat} {w w1 : World} {s : Bytes} {a p m n : Nat} {v : Value} {o : List Tok}
theorem PSt.pushed (h : PSt B w s a p m v n o) {v1 : Value} {n1 : Nat} {o1 : List Tok} (hg : w.grownBy w1 v.ownBlock) (ho : w1.ownsRow (B + 6) 183 3 v1 n1 (toksCells o1)) :
  PSt B (w1.setCell ⟨B + 3, 0, none⟩ v1) s a p m v1 n1 o1 ∧ Below B w (w1.setCell ⟨B + 3, 0, none⟩ v1) := by
 have hlo := h.own.lt
 have far : ∀ k, k < B + 6 → k < w.heap.size → w1.heap[k]? = w.heap[k]? := fun k hk hks => hg.block k hks (fun e => by have := (hlo k e.symm).1; omega)
 have hs5 := (Array.getElem?_eq_some_iff.1 h.pt).1
 have st : ∀ k, k ≠ B + 3 → (w1.setCell ⟨B + 3, 0, none⟩ v1).heap[k]? = w1.heap[k]? := fun k hk => Below.heap_setCell _ _ _ _ hk
 have one : ∀ k, k < B + 6 → k ≠ B + 3 → (w1.setCell ⟨B + 3, 0, none⟩ v1).heap[k]? = w.heap[k]? := fun k h1 h2 => (st k h2).trans (far k h1 (by omega))
 have hpo : w1.heap[B + 3]? = some (.cells #[v] 147 (0, 0)) := (far _ (by omega) (by omega)).trans h.po
 have hlo1 := ho.lt
 refine ⟨⟨(one _ (by omega) (by omega)).trans h.pf, ?_, (one _ (by omega) (by omega)).trans h.pa, (one _ (by omega) (by omega)).trans h.pt, ?_, ⟨(one _ (by omega) (by omega)).trans h.fd.1, h.fd.2.keep (one _ (by omega) (by omega)) ?_⟩⟩, ?_⟩
 ·rw [set_row hpo]; rfl
 ·exact row_keep ho fun g e => st g (by have := (hlo1 g e).1; omega)
 ·intro g cs hbg hgg
  have hne : some g ≠ v.ownBlock := fun e => by
   have := row_type h.own e.symm hgg
   exact absurd this (by decide)
  exact (st g (by omega)).trans ((hg.block g (Array.getElem?_eq_some_iff.1 hgg).1 hne).trans hgg)
 ·exact ⟨hg.os, hg.tape, hg.output, by rw [size_setCell]; exact hg.size, fun k hk => one k (by omega) (by omega)⟩
theorem PSt.drewN (h : PSt B w s a p m v n o) (k : Nat) : PSt B (w.drewN k) s a p m v n o := ⟨h.pf, h.po, h.pa, h.pt, h.own, h.fd⟩
end
theorem step_push_tok {w : World} {ops : Array Oper} {o : Oper} {a : Act} {K : Act → World → Prop} {Q : Exit → Act → World → Prop} {E : Prop} (hgd : o.guard = none) (s x : Operand)
  (ho : o.op = .call { callee := .builtin .append, args := #[s, x], argTypes := #[147, 147] })
  (base : Nat) (v : Value) (n : Nat) (l : List Tok) (hs : a.eval s = v) (hown : w.ownsRow base 183 3 v n (toksCells l)) (g0 : Nat) (b : Bytes) (f m : Int) (hx : a.eval x = .slice (some ⟨g0, 0, none⟩) 1 1)
  (hc : ∀ j u, [S b, I f, I m][j]? = some u → w.cell? ((⟨g0, 0, none⟩ : Addr).add j) = some u)
  (hn : n ≤ 1000000) (hbase : base ≤ w.heap.size)
  (h : ∀ A' cap' w', w'.ownsRow base 183 3 (.slice A' (n + 1) cap') (n + 1) (toksCells (l ++ [⟨b, f, m⟩])) → w.grownBy w' v.ownBlock → K (a.put o.dst (.slice A' (n + 1) cap')) w') :
  if Region.wanted o (yielded ops a.tmps) = true then Oper.wp Tryz.prog o a w K Q else E := by
 obtain ⟨i0, hi0, hz0, hz1, hz2⟩ := info_parts info_tok
 refine step_append_lies _ hgd s x _ ho base 183 i0 _ 3 32 Tryz.underlying147 hi0 hz0 hz1 hz2 rfl (by decide) v n (toksCells l) hs hown ⟨g0, 0, none⟩ 1 1 [S b, I f, I m] hx rfl hc ?_ (by decide) (by unfold maxLen; omega) (by omega) hbase w.heap.size rfl ?_
 ·intro y hy
  simp at hy
  rcases hy with rfl | rfl | rfl <;> rfl
 ·intro g cap w' hown' hg _ _
  refine h _ cap w' ?_ hg
  rw [toksCells_snoc]; exact hown'
theorem cells3_drewN (w : World) (k : Nat) (x y z : Value) (t : TypeId) : ∀ j u, [x, y, z][j]? = some u → ((w.drewN k).alloc (.cells #[x, y, z] t)).cell? ((⟨w.heap.size, 0, none⟩ : Addr).add j) = some u :=
 fun j u h => by simpa using cells3_new (w.drewN k) x y z t j u h
theorem flush_cells {B : Nat} {w w1 : World} {s : Bytes} {a p m n : Nat} {v : Value} {o : List Tok} (h : PSt B w s a p m v n o) (hg : w.grownBy w1 v.ownBlock) :
  w1.heap[B + 3]? = some (.cells #[v] 147 (0, 0)) ∧ w1.cell? ⟨B + 1, 0, none⟩ = some (S s) ∧ w1.cell? ⟨B + 2, 0, none⟩ = some (.pointer (some ⟨B + 1, 0, none⟩)) ∧ w1.cell? ⟨B + 4, 0, none⟩ = some (I a) ∧ w1.cell? ⟨B + 5, 0, none⟩ = some (I p) := by
 have hlo := h.own.lt
 have hs5 := (Array.getElem?_eq_some_iff.1 h.pt).1
 have far : ∀ k, k < B + 6 → w1.heap[k]? = w.heap[k]? := fun k hk => hg.block k (by omega) (fun e => by have := (hlo k e.symm).1; omega)
 refine ⟨(far _ (by omega)).trans h.po, ?_, ?_, ?_, ?_⟩
 ·rw [cell_of_row w1 _ 0 _ _ _ ((far _ (by omega)).trans h.fd.1)]; rfl
 ·rw [cell_of_row w1 _ 0 _ _ _ ((far _ (by omega)).trans h.pf)]; rfl
 ·rw [cell_of_row w1 _ 0 _ _ _ ((far _ (by omega)).trans h.pa)]; rfl
 ·rw [cell_of_row w1 _ 0 _ _ _ ((far _ (by omega)).trans h.pt)]; rfl
attribute [local go_sem] World.cell?_alloc_some in
set_option maxHeartbeats 2000000 in
set_option maxRecDepth 100000 in
theorem flush_any (B : Nat) (w : World) (s : Bytes) (a p m : Nat) (v : Value) (n : Nat) (o : List Tok) (hP : PSt B w s a p m v n o) (ha : a ≤ p) (hp : p ≤ s.length) (hn : n ≤ 10000) :
  Calls Tryz.prog 151 #[.pointer (some ⟨B + 4, 0, none⟩), .pointer (some ⟨B + 5, 0, none⟩), .pointer (some ⟨B + 3, 0, none⟩), .pointer (some ⟨B + 2, 0, none⟩)] w fun e w' => e = .returned (.tuple #[]) ∧ (∃ v' n', n' ≤ n + 1 ∧ PSt B w' s a p m v' n' (o ++ flush s a p)) ∧ Below B w w' := by
 have c5 : w.cell? ⟨B + 5, 0, none⟩ = some (I p) := by rw [cell_of_row w _ 0 _ _ _ hP.pt]; rfl
 have c4 : w.cell? ⟨B + 4, 0, none⟩ = some (I a) := by rw [cell_of_row w _ 0 _ _ _ hP.pa]; rfl
 have c3 : w.cell? ⟨B + 3, 0, none⟩ = some v := by rw [cell_of_row w _ 0 _ _ _ hP.po]; rfl
 have c2 : w.cell? ⟨B + 2, 0, none⟩ = some (.pointer (some ⟨B + 1, 0, none⟩)) := by rw [cell_of_row w _ 0 _ _ _ hP.pf]; rfl
 have c1 : w.cell? ⟨B + 1, 0, none⟩ = some (S s) := by rw [cell_of_row w _ 0 _ _ _ hP.fd.1]; rfl
 have hs5 := (Array.getElem?_eq_some_iff.1 hP.pt).1
 have HPS := hide hP
 by_cases hap : a < p
 ·have d1 : decide (a < p) = true := by simp; omega
  have n1 : (0 : Int) ≤ (a : Int) := by omega
  have n2 : (0 : Int) ≤ (p : Int) := by omega
  have n3 : (a : Int) ≤ (p : Int) := by omega
  have n4 : (p : Int) ≤ (s.length : Int) := by omega
  have hfl : flush s a p = [litTok (slice s a p)] := by unfold flush; rw [if_pos hap]
  have HF := hide hfl
  have hown := hP.own
  have HO := hide hown
  clear hfl hP hown
  have ne3 := World.new_ne w ⟨B + 3, 0, none⟩ c3
  go_enter Tryz.func151, Tryz.ntmps151
  go_wp2_with fail
  have hx := fun (k : Nat) (o : Obj) (i : Nat) (hi : i ≤ B + 5) => World.cell?_alloc_lt (w.drewN k) o ⟨i, 0, none⟩ (by show i < w.heap.size; omega)
  have hx3 := fun (k : Nat) (o : Obj) => (hx k o (B + 3) (by omega)).trans c3
  go_region_law ((refine step_push_tok rfl _ _ rfl (B + 6) _ n o rfl (by exact ((row_keep (unhide HO) (fun g e => rfl)).alloc _)) w.heap.size (slice s a p) 0 0 rfl (cells3_drewN w _ _ _ _ _) (by omega) (by simp; omega) ?_; intro A1 cap1 w1 hown1 hgrow1; have hg1 := grown_of_alloc hgrow1; obtain ⟨hpo1, hcs⟩ := flush_cells (unhide HPS) hg1; have hf1 : w1.frozen? ⟨B + 3, 0, none⟩ = false := free_row w1 (B + 3) 0 _ _ hpo1; have hc1 : w1.cell? ⟨B + 3, 0, none⟩ = some v := by rw [cell_of_row w1 _ 0 _ _ _ hpo1]; rfl))
  all_goals
   go_end0
   obtain ⟨h1, h2⟩ := (unhide HPS).pushed hg1 hown1
   rw [unhide HF]
   exact ⟨rfl, ⟨_, n + 1, Nat.le_refl _, h1⟩, h2⟩
 ·have d1 : decide (a < p) = false := by simp; omega
  have hfl : flush s a p = [] := by unfold flush; rw [if_neg hap]
  have HF := hide hfl
  clear hfl hP
  go_enter Tryz.func151, Tryz.ntmps151
  go_wp2_with fail
  go_end0
  rw [unhide HF, List.append_nil]
  exact ⟨rfl, ⟨_, n, by omega, (unhide HPS)⟩, Below.refl _ _⟩
end Go.Proofs.YtjpgoeimclipjaaGreat
namespace Go.Proofs.YtjpgoeimclipjaaGreat
open Go.RowKit Go.Lib Pl
attribute [local go_sem] ext_list app_list
set_option maxHeartbeats 1000000 in
set_option maxRecDepth 100000 in
theorem come_any (l : Bytes) (p far : Nat) (w : World) (hl : l.length ≤ 4611686018427387904) (hp : p ≤ l.length) (hf : far ≤ p) :
  Calls Tryz.prog 158 #[S l, I p, I far] w fun e w' => e = .returned (I (come l p far)) ∧ Below w.heap.size w w' := by
 go_enter Tryz.func158, Tryz.ntmps158
 go_wp2_with fail
 go_loopw [7] (fun i wr => ∃ k : Nat, k ≤ 64 ∧ i = .int .i64 k ∧ come l p far = comeF l p far (64 - k) k ∧ Below w.heap.size w wr) (fun i _ => 64 - (intOf i).toNat)
 case atStart => exact ⟨0, by omega, rfl, rfl, Below.refl _ _⟩
 case round =>
  obtain ⟨k, hk, rfl, hc, hbel⟩ := hrel
  by_cases hk64 : k < 64
  ·have d1 : decide ((k : Int) < 64) = true := by simp; omega
   have hpk : IntKind.i64.wrap ((p : Int) + (k : Int)) = (p : Int) + (k : Int) := IntWalk.i64_in _ ⟨by omega, by omega⟩
   by_cases hpl : p + k < l.length
   ·have d2 : decide ((p : Int) + (k : Int) < (l.length : Int)) = true := by simp; omega
    have hsub : IntKind.i64.wrap ((p : Int) + (k : Int) - (far : Int)) = (p : Int) + (k : Int) - (far : Int) := IntWalk.i64_in _ ⟨by omega, by omega⟩
    have n1 : (0 : Int) ≤ (p : Int) + (k : Int) := by omega
    have n2 : ((p : Int) + (k : Int)).toNat = p + k := by omega
    have n3 : (p : Int) + (k : Int) < (l.length : Int) := by omega
    obtain ⟨q, hq⟩ : ∃ q, q = p + k - far := ⟨_, rfl⟩
    have hql : q < l.length := by omega
    have m1 : (0 : Int) ≤ (p : Int) + (k : Int) - (far : Int) := by omega
    have m2 : ((p : Int) + (k : Int) - (far : Int)).toNat = q := by omega
    have m3 : (p : Int) + (k : Int) - (far : Int) < (l.length : Int) := by omega
    obtain ⟨a, ha⟩ : ∃ a, (⟨l.toArray⟩ : ByteArray)[p + k]'hpl = a := ⟨_, rfl⟩
    obtain ⟨b, hb⟩ : ∃ b, (⟨l.toArray⟩ : ByteArray)[q]'hql = b := ⟨_, rfl⟩
    have hga : l.getD (p + k) 0 = a := by rw [List.getD_eq_getElem?_getD, List.getElem?_eq_getElem hpl]; exact ha
    have hgb : l.getD (p + k - far) 0 = b := by rw [← hq, List.getD_eq_getElem?_getD, List.getElem?_eq_getElem hql]; exact hb
    have h64 : 64 - k = (63 - k) + 1 := by omega
    rw [h64, comeF, hga, hgb] at hc
    have HC := hide hc
    have HQ := hide hq
    clear hc hq hga hgb h64
    by_cases hab : a = b
    ·subst hab
     have e1 : ((a.toNat : Int) == (a.toNat : Int)) = true := by simp
     go_wp2_with fail
     go_quiet (fail)
     go_wp2_with fail
     go_roundw
     case rel =>
      refine ⟨k + 1, by omega, by go_num, ?_, _root_.Go.below_drewN hbel _⟩
      rw [unhide HC, if_pos ⟨hpl, by first | trivial | rfl⟩, show 64 - (k + 1) = 63 - k from by omega]
     case measure => simp [intOf]; omega
    ·have e1 : ((a.toNat : Int) == (b.toNat : Int)) = false := by
      rw [beq_eq_false_iff_ne]; intro h
      exact hab (UInt8.toNat_inj.1 (by omega))
     have hfin : come l p far = k := by rw [unhide HC, if_neg (fun h => hab h.2)]
     have HF := hide hfin
     clear hfin hab
     go_wp2_with fail
     go_quiet (fail)
     go_wp2_with fail
     go_ret
     rw [unhide HF]
     exact ⟨rfl, _root_.Go.below_drewN hbel _⟩
   ·have d2 : decide ((p : Int) + (k : Int) < (l.length : Int)) = false := by simp; omega
    have hfin : come l p far = k := by rw [hc, show 64 - k = (63 - k) + 1 from by omega, comeF, if_neg (fun h => hpl h.1)]
    have HF := hide hfin
    clear hfin hc
    go_wp2_with fail
    go_quiet (fail)
    go_wp2_with fail
    go_ret
    rw [unhide HF]
    exact ⟨rfl, _root_.Go.below_drewN hbel _⟩
  ·have d1 : decide ((k : Int) < 64) = false := by simp; omega
   have hfin : come l p far = k := by rw [hc, show 64 - k = 0 from by omega, comeF]
   have HF := hide hfin
   clear hfin hc
   go_wp2_with fail
   go_quiet (fail)
   go_wp2_with fail
   go_ret
   rw [unhide HF]
   exact ⟨rfl, _root_.Go.below_drewN hbel _⟩
end Go.Proofs.YtjpgoeimclipjaaGreat
namespace Go.Proofs.YtjpgoeimclipjaaGreat
open Go.RowKit Go.Lib Pl
attribute [local go_sem] ext_list app_list
def ToksV (w' : World) (v : Value) (l : List Tok) : Prop := ∃ A n cap, v = .slice A n cap ∧ ToksAt w' w'.heap.size A n l
theorem slice_same (l : Bytes) (a : Nat) : slice l a a = [] := by
 unfold slice; exact List.drop_of_length_le (by simp; omega)
theorem slice_snoc {l : Bytes} {a p : Nat} (ha : a ≤ p) (hp : p < l.length) : slice l a (p + 1) = slice l a p ++ slice l p (p + 1) := by
 have h : l[p]? = some l[p] := List.getElem?_eq_getElem hp
 rw [slice_one h]
 unfold slice
 rw [List.take_add_one, h, List.drop_append_of_le_length (by simp; omega)]
 rfl
set_option maxHeartbeats 2000000 in
set_option maxRecDepth 100000 in
theorem parseOf_walk (dict text : Bytes) (w : World) (hd : dict.length ≤ 256) (ht : text.length ≤ 512) :
  Calls Tryz.prog 134 #[S dict, S text] w fun e w' => (∃ v, e = .returned v ∧ ToksV w' v (parse dict text)) ∧ Below w.heap.size w w' := by
 obtain ⟨l, hl⟩ : ∃ l, l = dict ++ text := ⟨_, rfl⟩
 have hll : l.length = dict.length + text.length := by rw [hl, List.length_append]
 have hlb : l.length ≤ 768 := by omega
 have hdl : dict.length ≤ l.length := by omega
 have hap := app_list dict text
 rw [← hl] at hap
 have hpe : parse dict text = parseF l (l.length - dict.length) dict.length dict.length := by
  unfold parse; rw [← hl, hll]; congr 1; omega
 have HPE := hide hpe
 have HLL := hide hll
 clear hl hll hpe
 go_enter Tryz.func134, Tryz.ntmps134
 go_wp2_with fail
 go_loopw [6, 7, 8] (fun v sv i wr => ∃ (p a n fu : Nat) (o : List Tok), p ≤ l.length ∧ a ≤ p ∧ l.length ≤ p + fu ∧ i = .int .i64 p ∧ sv = S (slice l a p) ∧ wr.ownsRow w.heap.size 183 3 v n (toksCells o) ∧ n ≤ 2 * p ∧
   o ++ parseF l fu p a = parse dict text ∧ Below w.heap.size w wr)
  (fun _ _ i _ => l.length - (intOf i).toNat)
 case atStart =>
  refine ⟨dict.length, dict.length, 0, l.length - dict.length, [], hdl, Nat.le_refl _, by omega, rfl, ?_, World.ownsRow_nil _ _ _ _, by omega, ?_, Below.refl _ _⟩
  ·simp [slice]
  ·rw [unhide HPE]; rfl
 case round =>
  obtain ⟨p, a, n, fu, o, hp, ha, hfu, rfl, rfl, hown, hn, hpa, hbel⟩ := hrel
  have HPA := hide hpa
  clear hpa
  by_cases hpl : p < l.length
  ·have hbl := bestR_le l p hp p
   go_wp2_with fail
   obtain ⟨wo, hwo⟩ : ∃ wo : World, wo = wr := ⟨_, rfl⟩
   go_loopw [9, 10, 11] (fun bv fv i w2 => ∃ f : Nat, f ≤ p ∧ i = .int .i64 (f + 1 : Nat) ∧ bv = .int .i64 (bestR l p f).2 ∧ fv = .int .i64 (bestR l p f).1 ∧ Below wr.heap.size wr w2)
    (fun _ _ i _ => p + 1 - (intOf i).toNat)
   case atStart => exact ⟨0, by omega, rfl, rfl, rfl, Below.refl _ _⟩
   case round =>
    obtain ⟨f, hf, rfl, rfl, rfl, hb2⟩ := hrel
    obtain ⟨x, hx⟩ : ∃ x, x = (bestR l p f).1 := ⟨_, rfl⟩
    obtain ⟨y, hy⟩ : ∃ y, y = (bestR l p f).2 := ⟨_, rfl⟩
    have hbf := bestR_le l p hp f
    rw [← hx, ← hy] at hbf ⊢
    obtain ⟨hbf1, hbf2, hbf3⟩ := hbf
    by_cases hfp : f < p
    ·obtain ⟨c, hc⟩ : ∃ c, c = come l p (f + 1) := ⟨_, rfl⟩
     have hcl := (come_le l p (f + 1) hp).1
     rw [← hc] at hcl
     have c1 := fun (W : World) => come_any l p (f + 1) W (by omega) hp (by omega)
     rw [← hc, Int.natCast_add] at c1
     have C1 := hide c1
     have HX := hide hx
     have HY := hide hy
     have HC := hide hc
     clear c1 hx hy hc hwo
     by_cases hyc : y < c
     ·go_wp2_with (go_at_call 158; refine (unhide C1 _).mono ?_; rintro e w3 ⟨rfl, hb3⟩)
      go_roundw
      case rel =>
       refine ⟨f + 1, by omega, by go_num, ?_, ?_, hb2.trans (hb3.mono hb2.size)⟩
       ·rw [bestR, ← unhide HY, ← unhide HC, if_pos hyc]
       ·rw [bestR, ← unhide HY, ← unhide HC, if_pos hyc]; go_num
      case measure => simp [intOf]; omega
     ·go_wp2_with (go_at_call 158; refine (unhide C1 _).mono ?_; rintro e w3 ⟨rfl, hb3⟩)
      go_roundw
      case rel =>
       refine ⟨f + 1, by omega, by go_num, ?_, ?_, hb2.trans (hb3.mono hb2.size)⟩
       ·rw [bestR, ← unhide HY, ← unhide HC, if_neg hyc, ← unhide HY]
       ·rw [bestR, ← unhide HY, ← unhide HC, if_neg hyc, ← unhide HX]
      case measure => simp [intOf]; omega
    ·have hfp2 : f = p := by omega
     subst hfp2
     have hbest := best_eq l f
     have hown2 := own_below hown hb2
     obtain ⟨A0, cap0, rfl⟩ := own_slice hown2
     have hsz2 := hb2.size
     have hszw := hbel.size
     have hbel2 := hbel.trans (hb2.mono hszw)
     obtain ⟨fu', rfl⟩ : ∃ fu', fu = fu' + 1 := ⟨fu - 1, by omega⟩
     have hpa := unhide HPA
     rw [parseF, if_pos hpl] at hpa
     by_cases hy3 : y < 3
     ·rw [← hy, if_pos hy3] at hbest
      rw [hbest] at hpa
      simp only [if_true] at hpa
      have hsl := slice_snoc (l := l) (a := a) (p := f) ha hpl
      have HS := hide hsl
      have hl1 := slice_len l a f
      have hl2 := slice_len l f (f + 1)
      have hl3 : (slice l a f).length ≤ 768 := by omega
      have hl4 : (slice l f (f + 1)).length ≤ 768 := by omega
      have HPA2 := hide hpa
      clear hx hy hbest hpa HPA hsl hl1 hl2 hwo
      go_wp2_with fail
      go_roundw
      case rel =>
       refine ⟨f + 1, a, n, fu', o, by omega, by omega, by omega, by go_num, ?_, hown2, by omega, unhide HPA2, hbel2⟩
       rw [unhide HS]
      case measure => simp [intOf]; omega
     ·rw [← hy, if_neg hy3] at hbest
      have e1 : (best l f).1 = x := by rw [hbest, hx]
      have e2 : (best l f).2 = y := by rw [hbest, hy]
      rw [e1, e2, if_neg (by omega)] at hpa
      have HPA2 := hide hpa
      clear hx hy hbest hpa HPA e1 e2 hwo
      by_cases haf : a < f
      ·have hne : (slice l a f).isEmpty = false := by
        rw [List.isEmpty_eq_false_iff]; intro h
        have := slice_len l a f; rw [h] at this; simp at this; omega
       have hne2 : (slice l a f == []) = false := by
        rw [beq_eq_false_iff_ne]; intro h; rw [h] at hne; simp at hne
       have HN := hide hne
       go_wp2_with (first | (at_builtin; refine wpList_push_tok rfl (.tmp 49) (.tmp 52) rfl w.heap.size _ n o rfl hown2 (slice l a f) 0 0 rfl (by omega) (by omega) ?_; intro A3 cap3 w3 hown3 hb3 hg3; have hsz3 := hb3.size) | (at_builtin; refine wpList_push_tok rfl (.tmp 54) (.tmp 58) rfl w.heap.size _ (n + 1) (o ++ [⟨slice l a f, 0, 0⟩]) rfl hown3 [] x y rfl (by omega) (by omega) ?_; intro A4 cap4 w4 hown4 hb4 hg4))
       go_roundw
       case rel =>
        refine ⟨f + y, f + y, n + 1 + 1, fu', o ++ [⟨slice l a f, 0, 0⟩] ++ [⟨[], x, y⟩], by omega, by omega, by omega, by go_num, ?_, hown4, by omega, ?_, (hbel2.trans hb3).trans hb4⟩
        ·rw [slice_same]
        ·rw [← unhide HPA2]
         unfold flush litTok copyTok
         rw [if_pos haf]
         simp
       case measure => simp [intOf]; omega
      ·have haf2 : a = f := by omega
       subst haf2
       have hsa := slice_same l a
       go_wp2_with (first | (at_builtin; refine wpList_push_tok rfl (.tmp 54) (.tmp 58) rfl w.heap.size _ n o rfl hown2 [] x y rfl (by omega) (by omega) ?_; intro A3 cap3 w3 hown3 hb3 hg3; have hsz3 := hb3.size))
       go_roundw
       case rel =>
        refine ⟨a + y, a + y, n + 1, fu', o ++ [⟨[], x, y⟩], by omega, by omega, by omega, by go_num, ?_, hown3, by omega, ?_, hbel2.trans hb3⟩
        ·rw [slice_same]
        ·rw [← unhide HPA2]
         unfold flush copyTok
         rw [if_neg haf]
         simp
       case measure => simp [intOf]; omega
  ·have hpl2 : p = l.length := by omega
   obtain ⟨A0, cap0, rfl⟩ := own_slice hown
   have hszw := hbel.size
   have hpa := unhide HPA
   have hfl : parseF l fu p a = flush l a p := by
    cases fu with
    | zero => rw [parseF]
    | succ fu => rw [parseF, if_neg hpl]
   rw [hfl] at hpa
   have HPA2 := hide hpa
   clear hpa hfl HPA hpl2
   by_cases haf : a < p
   ·have hne : (slice l a p).isEmpty = false := by
     rw [List.isEmpty_eq_false_iff]; intro h
     have := slice_len l a p; rw [h] at this; simp at this; omega
    have hne2 : (slice l a p == []) = false := by
     rw [beq_eq_false_iff_ne]; intro h; rw [h] at hne; simp at hne
    go_wp2_with (first | (at_builtin; refine wpList_push_tok rfl (.tmp 65) (.tmp 68) rfl w.heap.size _ n o rfl hown (slice l a p) 0 0 rfl (by omega) (by omega) ?_; intro A3 cap3 w3 hown3 hb3 hg3; have hsz3 := hb3.size))
    go_ret
    obtain ⟨A9, cap9, hv9, ht9, _⟩ := toksAt_of_own hown3
    refine ⟨⟨_, rfl, A9, n + 1, cap9, hv9, ?_⟩, hbel.trans hb3⟩
    rw [← unhide HPA2]
    unfold flush litTok
    rw [if_pos haf]
    exact ht9
   ·have haf2 : a = p := by omega
    subst haf2
    have hsa := slice_same l a
    go_wp2_with fail
    go_ret
    obtain ⟨A9, cap9, hv9, ht9, _⟩ := toksAt_of_own hown
    refine ⟨⟨_, rfl, A9, n, cap9, hv9, ?_⟩, hbel⟩
    rw [← unhide HPA2]
    unfold flush
    rw [if_neg haf, List.append_nil]
    exact ht9
end Go.Proofs.YtjpgoeimclipjaaGreat
