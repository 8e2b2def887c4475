/- Parts of the proofs. -/
import Derived.Test.YtjpgoeimclipjaaGreatAd11
namespace Go.Proofs.YtjpgoeimclipjaaGreat
open Go.RowKit Go.Lib Pl
attribute [local go_sem] ext_list app_list
theorem AR.grownO {A A2 : Option Addr} {n cap n2 cap2 : Nat} {a : Arc} {w W W' : World} {B : Nat} {row : Option Nat} (hi : ArcIn w A n A2 n2 a) (hB : B = w.heap.size) (h : AR A n cap A2 n2 cap2 a w W B) (hg : W.grownBy W' row) (hV : ∀ k, row = some k → B + 1 < k) : AR A n cap A2 n2 cap2 a w W' B := by
 have h1 := h.lt
 have hb : Below B w W' := h.ab.bel.grown hg (by omega) (fun k hk => by have := hV k hk; omega)
 exact ⟨⟨(hg.block B (by omega) (fun e => by have := hV B e.symm; omega)).trans h.ab.o, hi.up (by rw [← hB]; exact hb), hb⟩, (hg.block (B + 1) h1 (fun e => by have := hV (B + 1) e.symm; omega)).trans h.z⟩
structure RT (W : World) (P D tb o : Nat) (v1 v2 : Value) (name t : Bytes) : Prop where
 p0 : W.cell? ⟨P, 0, none⟩ = some v1
 p1 : W.cell? ⟨P, 1, none⟩ = some v2
 d0 : W.cell? ⟨D, 0, none⟩ = some (S name)
 t0 : W.cell? ⟨tb, o, none⟩ = some (S t)
theorem RT.below {W W1 : World} {P D tb o : Nat} {v1 v2 : Value} {name t : Bytes} (h : RT W P D tb o v1 v2 name t) (hb : Below W.heap.size W W1) : RT W1 P D tb o v1 v2 name t :=
 ⟨(hb.cell (block_lt_of_cell h.p0)).trans h.p0, (hb.cell (block_lt_of_cell h.p1)).trans h.p1, (hb.cell (block_lt_of_cell h.d0)).trans h.d0, (hb.cell (block_lt_of_cell h.t0)).trans h.t0⟩
theorem RT.drew {W : World} {P D tb o : Nat} {v1 v2 : Value} {name t : Bytes} (h : RT W P D tb o v1 v2 name t) : RT W.drew P D tb o v1 v2 name t := h.below (Below.refl _ _).drew
theorem take_texts {a : Arc} {k : Nat} {f : Fil} (h : a.fs[k]? = some f) : (a.fs.take (k + 1)).map (textD a.ds) = (a.fs.take k).map (textD a.ds) ++ [textD a.ds f] := by
 rw [List.take_add_one, h, List.map_append]; rfl
set_option maxHeartbeats 8000000 in
set_option maxRecDepth 100000 in
theorem retrain_any (A : Option Addr) (n cap : Nat) (A2 : Option Addr) (n2 cap2 : Nat) (a : Arc) (size : Int) (w : World) (h : ArcIn w A n A2 n2 a) (hz : ArcSz a) (hml : MaxLenIs w) :
  Calls Tryz.prog 37 #[arcV A n cap A2 n2 cap2, I size] w fun e w' => ArcRes w.heap.size (retrain a size) e w' ∧ Below w.heap.size w w' := by
 obtain ⟨B, hB⟩ : ∃ B, B = w.heap.size := ⟨_, rfl⟩
 obtain ⟨w0, hw0⟩ : ∃ w0, w0 = (w.alloc (.cells #[.slice A n cap, .slice A2 n2 cap2] 33)).alloc (.cells #[.slice none 0 0, .slice none 0 0] 33) := ⟨_, rfl⟩
 have H0 := hide (show AR A n cap A2 n2 cap2 a w w0 B by rw [hw0, hB]; exact AR.new h cap cap2)
 have hl1 := h.s.1
 have hl2 := h.f.1
 have CK : ∀ W, AR A n cap A2 n2 cap2 a w W B → Calls Tryz.prog 31 #[arcV A n cap A2 n2 cap2] W fun e w' => e = .returned (I (checkA a)) ∧ Below W.heap.size W w' := fun W hW => check_arch A n cap A2 n2 cap2 a W hW.ab.i hz
 obtain ⟨r, hr⟩ : ∃ r, r = retrain a size := ⟨_, rfl⟩
 rw [← hr, ← hB]
 have hput : r = if checkA a ≠ 0 then (arc0, checkA a) else if trainE (textsA a) size ≠ 0 then (arc0, trainE (textsA a) size) else if 4 ≤ a.ds.length then (arc0, 2) else (⟨a.ds ++ [trainD (textsA a) size], a.fs.map fun f => packedF (a.ds ++ [trainD (textsA a) size]) f.name (textD a.ds f) (a.ds.length + 1 : Nat)⟩, 0) := hr
 have HB := hide hB
 have HW0 := hide hw0
 have HI := hide h
 have HML := hide hml
 clear hB hw0 h hr hml
 by_cases hck : checkA a ≠ 0
 ·rw [if_pos hck] at hput
  obtain ⟨c, hc⟩ : ∃ c, c = checkA a := ⟨_, rfl⟩
  rw [← hc] at CK hput hck
  have CK := hide CK
  have d1 : ((c : Int) != 0) = true := by rw [bne_iff_ne]; omega
  have d2 : ((c : Int) == 0) = false := by rw [beq_eq_false_iff_ne]; omega
  have d3 : ¬ (c : Int) = 0 := by omega
  subst hput
  clear hck hc hz
  go_enter Tryz.func37, Tryz.ntmps37
  go_upto_region 1 with fail
  rw [← unhide HW0, ← unhide HB]
  obtain ⟨q0, q1⟩ := (unhide H0).ab.c
  go_wp2_with fail
  refine (unhide CK _ (unhide H0)).mono ?_
  rintro e w1 ⟨rfl, hb1⟩
  have H1 := hide ((unhide H0).below hb1)
  clear hb1 q0 q1
  go_wp2_with (refine wpList_store_row rfl 33 (.tmp 4) (.tmp 21) rfl (B + 1) #[.slice none 0 0, .slice none 0 0] rfl rfl 33 _ (unhide H1).z sizeArc rfl all_nil2 ?_)
  refine bodyPost_ret (results_row_tmp rfl _ _ (B + 1) 33 #[.slice none 0 0, .slice none 0 0] (0, 0) _ rfl ((unhide H1).end_ _).1 Tryz.underlying33 rfl sizeArc) rfl ⟨⟨_, _, rfl, ?_⟩, ((unhide H1).end_ _).2⟩
  exact OwnA.nil _ _
 have hck0 : checkA a = 0 := Decidable.not_not.1 hck
 have hra := (check_iff a).1 hck0
 rw [if_neg hck] at hput
 rw [hck0] at CK
 have CK := hide CK
 have HRA := hide hra
 have h12 := hra.nf
 have h4 := hra.nd
 have HZ := hide hz
 have CT : ∀ (f : Fil), f ∈ a.fs → ∀ W, AR A n cap A2 n2 cap2 a w W B → Calls Tryz.prog 83 #[arcV A n cap A2 n2 cap2, filV f] W fun e w' => e = .returned (.tuple #[S (textD a.ds f), .bool true]) ∧ Below W.heap.size W w' := fun f hf W hW => by
  refine (text_any A n cap A2 n2 cap2 a f W hW.ab.i (hz.fs f hf) (by have := hz.nd; omega) hra.sd).mono ?_
  rintro e w' ⟨hr, hb⟩
  have ht := fileB_text (hra.fr.each f hf)
  rcases hr with ⟨t, h1, h2⟩ | ⟨t, h1, _⟩
  ·rw [ht] at h1; injection h1 with h1; rw [← h1] at h2; exact ⟨h2, hb⟩
  ·rw [ht] at h1; cases h1
 have CT := hide CT
 have HP := hide hput
 clear hck hck0 hra hz hput
 go_enter Tryz.func37, Tryz.ntmps37
 go_upto_region 1 with fail
 rw [← unhide HW0, ← unhide HB]
 obtain ⟨q0, q1⟩ := (unhide H0).ab.c
 go_wp2_with fail
 refine (unhide CK _ (unhide H0)).mono ?_
 rintro e w1 ⟨rfl, hb1⟩
 have H1 := hide ((unhide H0).below hb1)
 clear hb1 q0 q1
 obtain ⟨q0, q1⟩ := (unhide H1).ab.c
 go_wp2_with fail
 go_loopw [7, 26, 9, 10, 11] (fun lv iv _ _ _ wr => ∃ (k : Nat) (A1 : Option Addr) (c1 : Nat), k ≤ n2 ∧ iv = .int .i64 k ∧ lv = .slice A1 k c1 ∧ wr.ownsRow (B + 2) 9 1 (.slice A1 k c1) k (((a.fs.take k).map (textD a.ds)).map strS) ∧ AR A n cap A2 n2 cap2 a w wr B) (fun _ iv _ _ _ _ => n2 - (intOf iv).toNat)
 case atStart => exact ⟨0, none, 0, Nat.zero_le _, rfl, rfl, World.ownsRow_nil _ _ _ _, unhide H1⟩
 case round =>
  clear q0 q1
  obtain ⟨k, A1, c1, hk, rfl, rfl, hown, hAR⟩ := hrel
  have HOWN := hide hown
  have HAR := hide hAR
  obtain ⟨q0, q1⟩ := hAR.ab.c
  by_cases hkn : k < n2
  ·obtain ⟨b, off, f, rfl, hb, hf, x0, x1, x2, x3, x4⟩ := hAR.ab.i.f.at_ (k := k) hkn
   have hmem := List.mem_of_getElem? hf
   have htt := take_texts hf
   have HTT := hide htt
   have C1 := hide (unhide CT f hmem)
   obtain ⟨t, ht⟩ : ∃ t, t = textD a.ds f := ⟨_, rfl⟩
   rw [← ht] at C1 HTT
   have z1 : (k : Int) < (n2 : Int) := by omega
   clear hown hAR hf hmem htt ht
   go_upto_region 8 with fail
   obtain ⟨w2, hw2⟩ : ∃ w2, w2 = wr.alloc (.cells #[S f.name, I f.dict, I f.size, I f.sum, S f.block] 61) := ⟨_, rfl⟩
   obtain ⟨D, hD⟩ : ∃ D, D = wr.heap.size := ⟨_, rfl⟩
   have F2 := hide (show w2.heap[D]? = some (.cells (filA f) 61 (0, 0)) by rw [hw2, hD]; exact heap_alloc_new _ _)
   have H2 := hide (show AR A n cap (some ⟨b, off, none⟩) n2 cap2 a w w2 B by rw [hw2]; exact (unhide HAR).below ((Below.refl _ _).alloc (Nat.le_refl _) _))
   have HO2 := hide (show w2.ownsRow (B + 2) 9 1 (.slice A1 k c1) k (((a.fs.take k).map (textD a.ds)).map strS) by rw [hw2]; exact (unhide HOWN).alloc _)
   rw [← hw2, ← hD]
   clear hw2 hD q0 q1 x0 x1 x2 x3 x4
   obtain ⟨q0, q1⟩ := (unhide H2).ab.c
   have x0 : w2.cell? ⟨D, 0, none⟩ = some (S f.name) := by rw [cell_of_row _ _ _ _ _ _ (unhide F2)]; rfl
   have x1 : w2.cell? ⟨D, 1, none⟩ = some (I f.dict) := by rw [cell_of_row _ _ _ _ _ _ (unhide F2)]; rfl
   have x2 : w2.cell? ⟨D, 2, none⟩ = some (I f.size) := by rw [cell_of_row _ _ _ _ _ _ (unhide F2)]; rfl
   have x3 : w2.cell? ⟨D, 3, none⟩ = some (I f.sum) := by rw [cell_of_row _ _ _ _ _ _ (unhide F2)]; rfl
   have x4 : w2.cell? ⟨D, 4, none⟩ = some (S f.block) := by rw [cell_of_row _ _ _ _ _ _ (unhide F2)]; rfl
   go_wp2_with fail
   refine (unhide C1 _ (unhide H2)).mono ?_
   rintro e w3 ⟨rfl, hb3⟩
   have H3 := hide ((unhide H2).below hb3)
   have HO3 := hide (own_below (unhide HO2) hb3)
   have hB3 : B + 2 ≤ w3.heap.size := (unhide H3).lt
   clear hb3 q0 q1 x0 x1 x2 x3 x4
   go_wp2_with (at_builtin; refine wpList_push_str rfl (.tmp 36) (.tmp 38) rfl (B + 2) _ k _ rfl (unhide HO3) t w3.heap.size rfl rfl (by omega) hB3 ?_; intro A' cap' w5 hown5 hb5 hg5; have HOWN5 := hide hown5; have HG5 := hide hg5; clear hown5 hb5 hg5)
   go_roundw
   case rel =>
    refine ⟨k + 1, A', cap', by omega, by go_num, rfl, by rw [unhide HTT]; exact unhide HOWN5, AR.grownO (unhide HI) (unhide HB) ((unhide H3).below ((Below.refl _ _).alloc (Nat.le_refl _) _)) (unhide HG5) (fun j hj => ?_)⟩
    have := (unhide HO3).lt j hj
    omega
   case measure => simp [intOf]; omega
  ·have hk2 : k = n2 := by omega
   have hall : (a.fs.take k).map (textD a.ds) = textsA a := by rw [List.take_of_length_le (by omega)]; rfl
   rw [hall] at HOWN hown
   have hk3 : ¬ (k : Int) < (n2 : Int) := by omega
   have hk4 : decide ((k : Int) < (n2 : Int)) = false := by simp; omega
   obtain ⟨A9, c9, he9, hat9, hl9⟩ := strsAt_of_own hown
   injection he9 with e9a _ e9b
   subst e9a; subst e9b
   have CTR := train_any A1 k c1 (textsA a) size wr ((unhide HML).up (by have := hAR.ab.bel; rw [unhide HB] at this; exact this)) hat9 (by omega) (fun t ht => by
    obtain ⟨f, _, rfl⟩ := List.mem_map.1 ht
    have := textD_len (ds := a.ds) (f := f); omega)
   have hput := unhide HP
   have htl := trainD_len (textsA a) size
   obtain ⟨te, hte⟩ : ∃ te, te = trainE (textsA a) size := ⟨_, rfl⟩
   obtain ⟨td, htd⟩ : ∃ td, td = trainD (textsA a) size := ⟨_, rfl⟩
   rw [← hte, ← htd] at CTR hput
   rw [← htd] at htl
   have CTR := hide (show Calls Tryz.prog 88 #[.slice A1 k c1, I size] wr fun e w' => e = .returned (.tuple #[S td, I te]) ∧ Below wr.heap.size wr w' from CTR.mono fun e w' ⟨h1, h2, _⟩ => ⟨h1, h2⟩)
   clear HP hall hown hat9 hl9 hAR q0 q1 hte htd hk2
   by_cases ht0 : te ≠ 0
   ·rw [if_pos ht0] at hput
    have d1 : ((te : Int) != 0) = true := by rw [bne_iff_ne]; omega
    have d2 : ((te : Int) == 0) = false := by rw [beq_eq_false_iff_ne]; omega
    have d3 : ¬ (te : Int) = 0 := by omega
    subst hput
    clear ht0
    go_wp2_with fail
    refine (unhide CTR).mono ?_
    rintro e w5 ⟨rfl, hb5⟩
    have H5 := hide ((unhide HAR).below hb5)
    clear hb5
    go_wp2_with (refine wpList_store_row rfl 33 (.tmp 4) (.tmp 49) rfl (B + 1) #[.slice none 0 0, .slice none 0 0] rfl rfl 33 _ (unhide H5).z sizeArc rfl all_nil2 ?_)
    refine bodyPost_ret (results_row_tmp rfl _ _ (B + 1) 33 #[.slice none 0 0, .slice none 0 0] (0, 0) _ rfl ((unhide H5).end_ _).1 Tryz.underlying33 rfl sizeArc) rfl ⟨⟨_, _, rfl, ?_⟩, ((unhide H5).end_ _).2⟩
    exact OwnA.nil _ _
   rw [if_neg ht0] at hput
   have ht1 : te = 0 := Decidable.not_not.1 ht0
   rw [ht1] at CTR
   clear ht1
   by_cases h44 : 4 ≤ a.ds.length
   ·rw [if_pos h44] at hput
    have d1 : ((n : Int) == 4) = true := by rw [beq_iff_eq]; omega
    subst hput
    clear ht0 h44
    go_wp2_with fail
    refine (unhide CTR).mono ?_
    rintro e w5 ⟨rfl, hb5⟩
    have H5 := hide ((unhide HAR).below hb5)
    clear hb5
    obtain ⟨q0, q1⟩ := (unhide H5).ab.c
    go_wp2_with (refine wpList_store_row rfl 33 (.tmp 4) (.tmp 55) rfl (B + 1) #[.slice none 0 0, .slice none 0 0] rfl rfl 33 _ (unhide H5).z sizeArc rfl all_nil2 ?_)
    refine bodyPost_ret (results_row_tmp rfl _ _ (B + 1) 33 #[.slice none 0 0, .slice none 0 0] (0, 0) _ rfl ((unhide H5).end_ _).1 Tryz.underlying33 rfl sizeArc) rfl ⟨⟨_, _, rfl, ?_⟩, ((unhide H5).end_ _).2⟩
    exact OwnA.nil _ _
   rw [if_neg h44] at hput
   have d1 : ((n : Int) == 4) = false := by rw [beq_eq_false_iff_ne]; omega
   have CC : ∀ W, AR A n cap A2 n2 cap2 a w W B → Calls Tryz.prog 72 #[arcV A n cap A2 n2 cap2] W fun e w' => ∃ A' cap' A2' cap2', e = .returned (.agg #[.slice A' n cap', .slice A2' n2 cap2']) ∧ OwnA w' W.heap.size (.slice A' n cap') (.slice A2' n2 cap2') a ∧ Below W.heap.size W w' := fun W hW => by
    refine (copied_any A n cap A2 n2 cap2 a W hW.ab.i (by omega) (by omega)).mono ?_
    rintro e w' ⟨v1, v2, he, ho, hb⟩
    obtain ⟨A', cap', A2', cap2', rfl, rfl, _⟩ := ho.form
    rw [hl1] at he ho
    rw [hl2] at he ho
    exact ⟨A', cap', A2', cap2', he, ho, hb⟩
   have CC := hide CC
   have HP := hide hput
   clear ht0 h44 hput
   go_wp2_with fail
   refine (unhide CTR).mono ?_
   rintro e w5 ⟨rfl, hb5⟩
   have H5 := hide ((unhide HAR).below hb5)
   have HT5 := hide (own_below (unhide HOWN) hb5)
   clear hb5
   obtain ⟨q0, q1⟩ := (unhide H5).ab.c
   go_wp2_with fail
   refine (unhide CC _ (unhide H5)).mono ?_
   rintro e w6 ⟨A', cap', A2', cap2', rfl, ho6, hb6⟩
   have H6 := hide ((unhide H5).below hb6)
   have HT6 := hide (own_below (unhide HT5) hb6)
   have HO6 := hide ho6
   have HS6 := hide hb6.size
   obtain ⟨E, hE⟩ : ∃ E, E = w5.heap.size := ⟨_, rfl⟩
   rw [← hE] at HO6 HS6
   have hBE : B + 1 < E := by rw [hE]; exact (unhide H5).lt
   have hTE : ∀ j, (Value.slice A1 k c1).ownBlock = some j → j < E := fun j hj => by rw [hE]; exact ((unhide HT5).lt j hj).2
   clear hb6 ho6 q0 q1 hE
   go_upto_region 17 with (refine wpList_store_row rfl 33 (.tmp 14) (.tmp 57) rfl w6.heap.size #[.slice A' n cap', .slice A2' n2 cap2'] rfl rfl 33 _ (heap_alloc_new _ _) sizeArc rfl (one_two _ _ _ _ _ _) ?_)
   obtain ⟨w7, hw7⟩ : ∃ w7, w7 = (w6.alloc (.cells #[.slice none 0 0, .slice none 0 0] 33)).setRow w6.heap.size #[.slice A' n cap', .slice A2' n2 cap2'] := ⟨_, rfl⟩
   obtain ⟨P, hP⟩ : ∃ P, P = w6.heap.size := ⟨_, rfl⟩
   have hb7 : Below w6.heap.size w6 w7 := by rw [hw7]; exact below_setRow ((Below.refl _ _).alloc (Nat.le_refl _) _) (Nat.le_refl _) _
   have S7 := hide (show CompS w w7 B E P #[.slice A n cap, .slice A2 n2 cap2] (.slice A' n cap') (.slice A2' n2 cap2') ⟨a.ds, a.fs⟩ by
    have h7 := (unhide H6).below hb7
    exact ⟨h7.ab.o, h7.z, by rw [hw7, hP]; exact setRow_heap _ _ _ _ _ _ (heap_alloc_new _ _), (unhide HO6).below hb7, hBE, by rw [hP]; exact unhide HS6, h7.ab.bel⟩)
   have HT7 := hide (own_below (unhide HT6) hb7)
   rw [← hw7, ← hP]
   clear hb7 hw7 hP
   obtain ⟨p0, p1, p2, p3⟩ := (unhide S7).cells
   have hEs : E ≤ w7.heap.size := by have := (unhide S7).lt; have := (unhide S7).ep; omega
   have HOD := hide (show w7.ownsRow E 9 1 (.slice A' n cap') n (a.ds.map strS) by have := (unhide S7).o.s; rw [show (⟨a.ds, a.fs⟩ : Arc).ds.length = n from hl1] at this; exact this)
   go_upto_region 18 with (at_builtin; refine wpList_push_str rfl (.tmp 59) (.tmp 61) rfl E _ n _ rfl (unhide HOD) td w7.heap.size rfl rfl (by omega) hEs ?_; intro A8 cap8 w8 hown8 hb8 hg8; have hpush := CompS.push (v1' := .slice A8 (n + 1) cap8) (d := td) ((unhide S7).below ((Below.refl w7.heap.size w7).alloc (Nat.le_refl _) (.cells #[S td] 9))) hg8 (by show w8.ownsRow E 9 1 _ (a.ds.length + 1) _; rw [hl1]; exact hown8); have HPUSH := hide hpush; obtain ⟨u0, u1, u2, u3⟩ := two_cells hpush.2.1; clear hown8 hb8 hg8 hpush)
   obtain ⟨w9, hw9⟩ : ∃ w9, w9 = w8.setCell ⟨P, 0, none⟩ (.slice A8 (n + 1) cap8) := ⟨_, rfl⟩
   have HP8 := unhide HPUSH
   rw [← hw9] at HP8 ⊢
   obtain ⟨hS9, _, hoth⟩ := HP8
   have HS9 := hide hS9
   have HT9 := hide (show w9.ownsRow (B + 2) 9 1 (.slice A1 k c1) k ((textsA a).map strS) by
    have ht := (unhide HT7)
    refine ⟨ht.1, ?_⟩
    rcases ht.2 with hn | ⟨g, cap, cur, hv, hbb, hgg, rest⟩
    ·exact .inl hn
    ·have hgE := hTE g (by rw [hv]; rfl)
     have hgl := (Array.getElem?_eq_some_iff.1 hgg).1
     refine .inr ⟨g, cap, cur, hv, hbb, ?_, rest⟩
     rw [hoth g (by simp; omega) (by have := (unhide S7).ep; omega) (fun e => by have := ((unhide HOD).lt g e.symm).1; omega)]
     exact (Below.heap_alloc _ _ g hgl).trans hgg)
   clear hS9 hoth hw9 HPUSH u0 u1 u2 u3 p0 p1 p2 p3
   obtain ⟨q0, q1, _, _⟩ := two_cells (unhide HS9).b
   go_wp2_with fail
   go_loopw [67, 15, 16] (fun iv _ _ wr => ∃ j : Nat, j ≤ n2 ∧ iv = .int .i64 j ∧ CompS w wr B E P #[.slice A n cap, .slice A2 n2 cap2] (.slice A8 (n + 1) cap8) (.slice A2' n2 cap2') ⟨a.ds ++ [td], (a.fs.take j).map (fun f => packedF (a.ds ++ [td]) f.name (textD a.ds f) ((a.ds.length + 1 : Nat) : Int)) ++ a.fs.drop j⟩ ∧ wr.ownsRow (B + 2) 9 1 (.slice A1 k c1) k ((textsA a).map strS)) (fun iv _ _ _ => n2 - (intOf iv).toNat)
   case atStart => exact ⟨0, Nat.zero_le _, rfl, by simpa using unhide HS9, unhide HT9⟩
   case round =>
    have hkk : n2 ≤ k := by omega
    clear q0 q1 hk hkn hk3 hk4
    obtain ⟨j, hj, rfl, hS, hT⟩ := hrel
    have HSX := hide hS
    have HTX := hide hT
    obtain ⟨q0, q1, _, _⟩ := two_cells hS.b
    obtain ⟨p0, p1, p2, p3⟩ := hS.cells
    by_cases hjn : j < n2
    ·have hin := (unhide HI).up (by rw [← unhide HB]; exact hS.bel)
     obtain ⟨b, off, f, rfl, hb, hf, x0, x1, x2, x3, x4⟩ := hin.f.at_ (k := j) hjn
     have hds := done_step (g := fun f => packedF (a.ds ++ [td]) f.name (textD a.ds f) ((a.ds.length + 1 : Nat) : Int)) hf
     obtain ⟨l, hl⟩ : ∃ l, l = (a.fs.take j).map (fun f => packedF (a.ds ++ [td]) f.name (textD a.ds f) ((a.ds.length + 1 : Nat) : Int)) ++ a.fs.drop j := ⟨_, rfl⟩
     rw [← hl] at hds hS
     have hll : l.length = n2 := by rw [hl]; simp; omega
     obtain ⟨gf, hgf⟩ : ∃ gf, gf = packedF (a.ds ++ [td]) f.name (textD a.ds f) ((a.ds.length + 1 : Nat) : Int) := ⟨_, rfl⟩
     obtain ⟨hds1, hds2⟩ := hds
     simp only [← hgf] at hds2
     have hof : wr.ownsRow E 61 5 (.slice A2' n2 cap2') n2 (filsCells l) := by
      have := hS.o.f
      rw [show (⟨a.ds ++ [td], l⟩ : Arc).fs.length = n2 from hll] at this
      exact this
     obtain ⟨g, rfl⟩ : ∃ g, A2' = some ⟨g, 0, none⟩ := by
      rcases ownsFil_form hof with ⟨_, h0, _⟩ | ⟨g, gc, hv⟩
      ·omega
      ·injection hv with hv; exact ⟨g, hv⟩
     obtain ⟨A9, c9, he9, hat9, hl9⟩ := strsAt_of_own hT
     injection he9 with e9a _ e9b
     subst e9a; subst e9b
     obtain ⟨tb, tof, t, rfl, htb, htx, ht0⟩ := hat9.at_ (k := j) (by omega)
     have htf : t = textD a.ds f := by
      have : (textsA a)[j]? = some (textD a.ds f) := by unfold textsA; rw [List.getElem?_map, hf]; rfl
      rw [this] at htx; injection htx with htx; exact htx.symm
     have htl5 : t.length ≤ 512 := by rw [htf]; exact textD_len
     -- the file's variable
     obtain ⟨w2, hw2⟩ : ∃ w2, w2 = wr.alloc (.cells #[S f.name, I f.dict, I f.size, I f.sum, S f.block] 61) := ⟨_, rfl⟩
     obtain ⟨D, hD⟩ : ∃ D, D = wr.heap.size := ⟨_, rfl⟩
     have hbw2 : Below wr.heap.size wr w2 := by rw [hw2]; exact (Below.refl _ _).alloc (Nat.le_refl _) _
     have hS2 := hS.below hbw2
     have hT2 := own_below hT hbw2
     have hof2 := own_below hof hbw2
     have hRT : RT w2 P D tb (tof + j) (.slice A8 (n + 1) cap8) (.slice (some ⟨g, 0, none⟩) n2 cap2') f.name t := ⟨hS2.cells.1, hS2.cells.2.1, by rw [hw2, hD, World.cell?_alloc_new]; rfl, (hbw2.cell (p := ⟨tb, tof + j, none⟩) htb).trans ht0⟩
     have harc : ArcIn w2 A8 (n + 1) (some ⟨g, 0, none⟩) n2 ⟨a.ds ++ [td], l⟩ := by
      obtain ⟨Aa, ca, ea, ha, _⟩ := strsAt_of_own hS2.o.s
      obtain ⟨Ab, cb, eb, hb, _⟩ := filsAt_of_own hof2
      injection ea with ea1 ea2 _
      injection eb with eb1 _ _
      subst ea1; subst eb1
      rw [← ea2] at ha
      exact ⟨ha, hb⟩
     have hdo : dictO (a.ds ++ [td]) ((a.ds.length + 1 : Nat) : Int) = some td := by
      have := dictO_at (ds := a.ds ++ [td]) (j := a.ds.length) (t := td) (by simp)
      rw [show ((a.ds.length + 1 : Nat) : Int) = (a.ds.length : Int) + 1 from by omega]; exact this
     have KP : ∀ W, Below w2.heap.size w2 W → Calls Tryz.prog 73 #[.agg #[.slice A8 (n + 1) cap8, .slice (some ⟨g, 0, none⟩) n2 cap2'], S f.name, S t, I ((n : Int) + 1)] W fun e w' => e = .returned (filV gf) ∧ Below W.heap.size W w' := fun W hW => by
      have := packed_any A8 (n + 1) cap8 (some ⟨g, 0, none⟩) n2 cap2' ⟨a.ds ++ [td], l⟩ f.name t ((a.ds.length + 1 : Nat) : Int) td W (harc.up hW) (by omega) (by omega) (by omega) hdo htl htl5
      rw [show (n : Int) + 1 = ((a.ds.length + 1 : Nat) : Int) from by omega, hgf, ← htf]
      exact this
     have hset : ∀ W4, Below w2.heap.size w2 W4 → (∀ i v, (filCells f)[i]? = some v → W4.cell? ⟨g, j * 5 + i, none⟩ = some v ∧ W4.frozen? ⟨g, j * 5 + i, none⟩ = false) ∧ CompS w (W4.setCells g (j * 5) (filCells gf)) B E P #[.slice A n cap, .slice (some ⟨b, off, none⟩) n2 cap2] (.slice A8 (n + 1) cap8) (.slice (some ⟨g, 0, none⟩) n2 cap2') ⟨a.ds ++ [td], (a.fs.take (j + 1)).map (fun f => packedF (a.ds ++ [td]) f.name (textD a.ds f) ((a.ds.length + 1 : Nat) : Int)) ++ a.fs.drop (j + 1)⟩ ∧ (W4.setCells g (j * 5) (filCells gf)).ownsRow (B + 2) 9 1 (.slice (some ⟨tb, tof, none⟩) k c1) k ((textsA a).map strS) ∧ RT (W4.setCells g (j * 5) (filCells gf)) P D tb (tof + j) (.slice A8 (n + 1) cap8) (.slice (some ⟨g, 0, none⟩) n2 cap2') f.name t := fun W4 hW4 => by
      have hS4 := hS2.below hW4
      have hT4 := own_below hT2 hW4
      have hof4 := own_below hof2 hW4
      obtain ⟨s1, s2, s3, _⟩ := ownFil_set hof4 hjn gf
      have hgD : D ≠ g := by have := (hof.lt g rfl).2; omega
      have hgT : tb ≠ g := by
       rcases own_apart hT4 hof4 (by decide) with h0 | h0
       ·simp [Value.ownBlock] at h0
       ·intro e; apply h0; simp [Value.ownBlock, e]
      have hgP : P ≠ g := by
       intro e; apply hS4.ownP2; simp [Value.ownBlock, e]
      have hR4 := hRT.below hW4
      refine ⟨fun i v hv => ?_, ?_, hT4.kept s3 (own_apart hT4 hof4 (by decide)), ⟨?_, ?_, ?_, ?_⟩⟩
      rotate_left 2
      ·rw [World.cell?_setCells_out _ _ _ _ _ (fun h _ => absurd h hgP)]; exact hR4.p0
      ·rw [World.cell?_setCells_out _ _ _ _ _ (fun h _ => absurd h hgP)]; exact hR4.p1
      ·rw [World.cell?_setCells_out _ _ _ _ _ (fun h _ => absurd h hgD)]; exact hR4.d0
      ·rw [World.cell?_setCells_out _ _ _ _ _ (fun h _ => absurd h hgT)]; exact hR4.t0
      ·obtain ⟨cur, _, hg, hnc, _, hsz, ht⟩ := ownsFil_row hof4
       have hi5 : i < 5 := (List.getElem?_eq_some_iff.1 hv).1
       refine ⟨?_, by simp [World.frozen?, hg]⟩
       rw [cell_of_row _ _ _ cur _ _ hg]
       have hx := filsCells_get l j f hds1
       have : (filsCells l)[j * 5 + i]? = some v := by
        obtain ⟨y0, y1, y2, y3, y4⟩ := hx
        rcases (show i = 0 ∨ i = 1 ∨ i = 2 ∨ i = 3 ∨ i = 4 by omega) with h | h | h | h | h <;> subst h <;> simp [filCells] at hv <;> subst hv <;> assumption
       rw [← ht, List.getElem?_take] at this
       split at this
       ·simpa using this
       ·cases this
      ·have hlen2 : ((a.fs.take (j + 1)).map (fun f => packedF (a.ds ++ [td]) f.name (textD a.ds f) ((a.ds.length + 1 : Nat) : Int)) ++ a.fs.drop (j + 1)).length = n2 := by simp; omega
       rw [hds2] at s2
       refine hS4.turn s3 ?_
       rw [hlen2]; exact s2
     have KP := hide KP
     have HSET := hide hset
     have HRT := hide hRT
     have R := hide (show (∀ W : World, RT W P D tb (tof + j) (.slice A8 (n + 1) cap8) (.slice (some ⟨g, 0, none⟩) n2 cap2') f.name t → W.cell? ⟨P, 0, none⟩ = some (.slice A8 (n + 1) cap8)) ∧ (∀ W : World, RT W P D tb (tof + j) (.slice A8 (n + 1) cap8) (.slice (some ⟨g, 0, none⟩) n2 cap2') f.name t → W.cell? ⟨P, 1, none⟩ = some (.slice (some ⟨g, 0, none⟩) n2 cap2')) ∧ (∀ W : World, RT W P D tb (tof + j) (.slice A8 (n + 1) cap8) (.slice (some ⟨g, 0, none⟩) n2 cap2') f.name t → W.cell? ⟨D, 0, none⟩ = some (S f.name)) ∧ (∀ W : World, RT W P D tb (tof + j) (.slice A8 (n + 1) cap8) (.slice (some ⟨g, 0, none⟩) n2 cap2') f.name t → W.cell? ⟨tb, tof + j, none⟩ = some (S t)) from ⟨fun W h => h.p0, fun W h => h.p1, fun W h => h.d0, fun W h => h.t0⟩)
     have hw2' := hw2.symm
     have hD' := hD.symm
     have z1 : (j : Int) < (n2 : Int) := by omega
     have z2 : (j : Int) < (k : Int) := by omega
     clear hset hRT harc hof hof2 hT2 hS2 hbw2 hds1 hds2 hl hll hf hin hat9 hl9 htx ht0 htf hgf hw2 hD hS hT p0 p1 p2 p3
     go_upto_region 21 with fail
     try rw [hw2']
     try rw [hD']
     clear x0 x1 x2 x3 x4 q0 q1
     obtain ⟨r1, r2, r3, r4⟩ := unhide R
     go_wp2_with fail
     go_region_held3 (fun w' => RT w' P D tb (tof + j) (.slice A8 (n + 1) cap8) (.slice (some ⟨g, 0, none⟩) n2 cap2') f.name t) (first | exact (unhide HRT).drew | assumption | exact RT.drew (by assumption) | exact (unhide HS4).2.2 | exact RT.below (by assumption) (by assumption))
      ((first
       | (go_at_call 73; refine (unhide KP _ (by first | exact (Below.refl _ _).drew | exact Below.refl _ _)).mono ?_; rintro e w4 ⟨rfl, hb4⟩; have hs4 := unhide HSET w4 (by first | exact (Below.refl _ _).drew.trans hb4 | exact hb4); have HS4 := hide hs4.2; have y0 := hs4.1 0 _ rfl; have y1 := hs4.1 1 _ rfl; have y2 := hs4.1 2 _ rfl; have y3 := hs4.1 3 _ rfl; have y4 := hs4.1 4 _ rfl; clear hs4; obtain ⟨y0, v0⟩ := y0; obtain ⟨y1, v1⟩ := y1; obtain ⟨y2, v2⟩ := y2; obtain ⟨y3, v3⟩ := y3; obtain ⟨y4, v4⟩ := y4; rw [Nat.add_zero] at y0 v0)))
     go_wp2_with fail
     go_roundw
     case rel => exact ⟨j + 1, by omega, by go_num, (unhide HS4).1, (unhide HS4).2.1⟩
     case measure => simp [intOf]; omega
    ·have hall : (a.fs.take j).map (fun f => packedF (a.ds ++ [td]) f.name (textD a.ds f) ((a.ds.length + 1 : Nat) : Int)) ++ a.fs.drop j = a.fs.map (fun f => packedF (a.ds ++ [td]) f.name (textD a.ds f) ((a.ds.length + 1 : Nat) : Int)) := by
      rw [List.take_of_length_le (by omega), List.drop_of_length_le (by omega), List.append_nil]
     rw [hall] at hS
     obtain ⟨e1, e2, e3⟩ := put_end hS.z hS.be hS.o hS.bel
     have E1 := hide e1
     have E2 := hide e2
     have E3 := hide e3
     have HZR := hide hS.z
     have z1 : ¬ (j : Int) < (n2 : Int) := by omega
     have z2 : decide ((j : Int) < (n2 : Int)) = false := by simp; omega
     clear hall hS hT e1 e2 e3
     go_wp2_with (refine wpList_store_row rfl 33 (.tmp 4) (.tmp 88) rfl (B + 1) #[.slice A8 (n + 1) cap8, .slice A2' n2 cap2'] rfl rfl 33 _ (unhide HZR) sizeArc rfl (one_two _ _ _ _ _ _) ?_)
     refine bodyPost_ret (results_row_tmp rfl _ _ (B + 1) 33 #[.slice A8 (n + 1) cap8, .slice A2' n2 cap2'] (0, 0) _ rfl (unhide E1) Tryz.underlying33 rfl sizeArc) rfl ?_
     rw [unhide HP]
     exact ⟨⟨_, _, rfl, unhide E2⟩, unhide E3⟩
end Go.Proofs.YtjpgoeimclipjaaGreat
namespace Go.Proofs.YtjpgoeimclipjaaGreat
namespace Pl
def tx1 : Bytes := [116, 104, 101, 32, 115, 97, 109, 101, 32, 119, 111, 114, 100, 115, 44, 32, 116, 104, 101, 32, 115, 97, 109, 101, 32, 119, 111, 114, 100, 115]
def tx2 : Bytes := [116, 104, 101, 32, 115, 97, 109, 101, 32, 119, 111, 114, 100, 115, 44, 32, 111, 114, 32, 111, 116, 104, 101, 114, 115]
def two1 : Arc := (put arc0 [97] tx1 0).1
def two2 : Arc := (put two1 [98] tx2 0).1
def twoA : Arc := (retrain two2 32).1
theorem put_ok {a : Arc} {name text : Bytes} (ha : RightA a) (hn : nameB name = true) (ht : text.length ≤ 512) (hf : a.fs.length < 12) :
  put a name text 0 = (⟨a.ds, insF (packedF a.ds name text 0) a.fs⟩, 0) := by
 unfold put
 rw [if_neg (by rw [(check_iff a).2 ha]; simp), if_neg (by rw [hn]; simp), if_neg (by unfold dictO; simp), if_neg (by omega), if_neg (by
  rw [insF_len]
  split <;> omega)]
theorem two1_put : put arc0 [97] tx1 0 = (⟨[], [packedF [] [97] tx1 0]⟩, 0) := by
 rw [put_ok arc0_right (by decide) (by decide) (by decide)]; rfl
theorem two1_eq : two1 = ⟨[], [packedF [] [97] tx1 0]⟩ := by unfold two1; rw [two1_put]
theorem two1_right : RightA two1 := (put_right (by rw [two1_put] : (put arc0 [97] tx1 0).2 = 0)).2.1
theorem two2_put : put two1 [98] tx2 0 = (⟨[], [packedF [] [97] tx1 0, packedF [] [98] tx2 0]⟩, 0) := by
 rw [put_ok two1_right (by decide) (by decide) (by rw [two1_eq]; decide), two1_eq]; rfl
theorem two2_eq : two2 = ⟨[], [packedF [] [97] tx1 0, packedF [] [98] tx2 0]⟩ := by unfold two2; rw [two2_put]
theorem two2_right : RightA two2 := (put_right (by rw [two2_put] : (put two1 [98] tx2 0).2 = 0)).2.1
theorem two2_texts : textsA two2 = [tx1, tx2] := by
 rw [two2_eq]
 have h1 := packed_text (ds := []) (name := [97]) (text := tx1) (n := 0) (d := []) rfl (by decide) (by decide)
 have h2 := packed_text (ds := []) (name := [98]) (text := tx2) (n := 0) (d := []) rfl (by decide) (by decide)
 show [textD [] (packedF [] [97] tx1 0), textD [] (packedF [] [98] tx2 0)] = _
 unfold textD
 rw [h1, h2]; rfl
def twoD : Bytes := trainOf [tx1, tx2] 32
theorem twoD_len : twoD.length = 32 := by decide +kernel
theorem two_train : retrain two2 32 = (⟨[twoD], [packedF [twoD] [97] tx1 1, packedF [twoD] [98] tx2 1]⟩, 0) := by
 have h0 := two2_texts
 have hE : trainE (textsA two2) 32 = 0 := by
  unfold trainE; rw [texts_few two2_right]; rfl
 have hD : trainD (textsA two2) 32 = twoD := by
  unfold trainD; rw [texts_few two2_right, h0, if_neg (by simp), if_neg (by decide), show ((32 : Int).toNat) = 32 from rfl]; rfl
 have h1 := packed_text (ds := []) (name := [97]) (text := tx1) (n := 0) (d := []) rfl (by decide) (by decide)
 have h2 := packed_text (ds := []) (name := [98]) (text := tx2) (n := 0) (d := []) rfl (by decide) (by decide)
 unfold retrain
 rw [if_neg (by rw [(check_iff two2).2 two2_right]; simp), hE, hD, if_neg (by simp), two2_eq, if_neg (by decide)]
 show ((⟨[twoD], [packedF [twoD] [97] (textD [] (packedF [] [97] tx1 0)) 1, packedF [twoD] [98] (textD [] (packedF [] [98] tx2 0)) 1]⟩ : Arc), 0) = _
 unfold textD
 rw [h1, h2]; rfl
theorem twoA_eq : twoA = ⟨[twoD], [packedF [twoD] [97] tx1 1, packedF [twoD] [98] tx2 1]⟩ := by unfold twoA; rw [two_train]
theorem twoA_right : RightA twoA := (retrain_right (by rw [two_train] : (retrain two2 32).2 = 0)).2.1
theorem twoA_get_b : get twoA [98] = (tx2, 0) := by
 show get (retrain two2 32).1 [98] = _
 rw [retrain_get (by rw [two_train])]
 exact put_get (by rw [two2_put])
theorem twoA_get_a : get twoA [97] = (tx1, 0) := by
 show get (retrain two2 32).1 [97] = _
 rw [retrain_get (by rw [two_train])]
 show get (put two1 [98] tx2 0).1 [97] = _
 rw [put_other (by rw [two2_put]) (by decide)]
 exact put_get (by rw [two1_put])
theorem twoA_range : range twoA [97] 4 4 = ([115, 97, 109, 101], 0) := by
 unfold range; rw [twoA_get_a]; rfl
theorem pack_some (d t : Bytes) : 1 ≤ (pack d t).length := by
 cases h : pack d t with
 | cons => simp
 | nil =>
  exfalso
  unfold pack at h
  unfold pack2 at h
  revert h
  unfold pack1
  repeat' split
  all_goals simp [third]
def twoDr : Arc := (drop twoA [97]).1
theorem two_drop : drop twoA [97] = (⟨[twoD], [packedF [twoD] [98] tx2 1]⟩, 0) := by
 unfold drop
 rw [if_neg (by rw [(check_iff twoA).2 twoA_right]; simp), twoA_eq]; rfl
theorem twoDr_eq : twoDr = ⟨[twoD], [packedF [twoD] [98] tx2 1]⟩ := by unfold twoDr; rw [two_drop]
theorem twoDr_right : RightA twoDr := (drop_right (by rw [two_drop] : (drop twoA [97]).2 = 0)).2.1
theorem twoDr_get : get twoDr [97] = ([], 5) := drop_get (by rw [two_drop])
def twoC : Arc := (compact twoDr).1
theorem two_compact : (compact twoDr).2 = 0 := by
 unfold compact; rw [if_neg (by rw [(check_iff twoDr).2 twoDr_right]; simp)]
theorem twoC_right : RightA twoC := (compact_right two_compact).2.1
theorem twoC_ds : twoC.ds = [twoD] := by
 unfold twoC
 rw [(compact_right two_compact).2.2, twoDr_eq]
 rfl
theorem moveF_block (fs : List Fil) (f : Fil) : (moveF fs f).block = f.block := rfl
theorem packedF_block (ds : List Bytes) (name text : Bytes) (n : Int) : (packedF ds name text n).block = pack ((dictO ds n).getD []) text := rfl
theorem twoC_fs : twoC.fs.length = 1 ∧ 33 ≤ sizeA twoC := by
 have hds := twoC_ds
 have hfs : twoC.fs = [moveF [packedF [twoD] [98] tx2 1] (packedF [twoD] [98] tx2 1)] := by
  unfold twoC
  rw [(compact_right two_compact).2.2, twoDr_eq]
  rfl
 refine ⟨by rw [hfs]; rfl, ?_⟩
 unfold sizeA
 rw [hds, hfs]
 have h1 := pack_some ((dictO [twoD] 1).getD []) tx2
 have h2 := twoD_len
 simp only [List.map_cons, List.map_nil, List.sum_cons, List.sum_nil, moveF_block, packedF_block]
 omega
theorem two_c : put twoA [99] [] 0 = (⟨[twoD], [packedF [twoD] [97] tx1 1, packedF [twoD] [98] tx2 1, packedF [twoD] [99] [] 0]⟩, 0) := by
 rw [put_ok twoA_right (by decide) (by decide) (by rw [twoA_eq]; decide), twoA_eq]; rfl
end Pl
end Go.Proofs.YtjpgoeimclipjaaGreat
namespace Go.Proofs.YtjpgoeimclipjaaGreat
open Go.RowKit Go.Lib Pl
attribute [local go_sem] ext_list app_list
set_option maxHeartbeats 4000000 in
set_option maxRecDepth 100000 in
theorem two_any (w : World) (hm : MaxLenIs w) :
  Calls Tryz.prog 67 #[] w fun e w' => (∃ A n cap A2 n2 cap2, e = .returned (arcV A n cap A2 n2 cap2) ∧ ArcIn w' A n A2 n2 twoA ∧ n ≤ cap ∧ n = 1) ∧ Below w.heap.size w w' := by
 obtain ⟨B, hB⟩ : ∃ B, B = w.heap.size := ⟨_, rfl⟩
 obtain ⟨w0, hw0⟩ : ∃ w0, w0 = w.alloc (.cells #[.slice none 0 0, .slice none 0 0] 33) := ⟨_, rfl⟩
 have HZ0 := hide (show w0.heap[B]? = some (.cells #[.slice none 0 0, .slice none 0 0] 33 (0, 0)) ∧ B < w0.heap.size ∧ Below B w w0 by
  rw [hw0, hB]
  exact ⟨heap_alloc_new _ _, by simp, (Below.refl _ _).alloc (Nat.le_refl _) _⟩)
 have C1 := fun (W : World) => put_any none 0 0 none 0 0 arc0 [97] tx1 0 W (arc0_in W) arc0_sz (by decide) (by decide) (by decide) (by decide)
 have C2 := fun (W : World) (A : Option Addr) (n cap : Nat) (A2 : Option Addr) (n2 cap2 : Nat) (h : ArcIn W A n A2 n2 two1) => put_any A n cap A2 n2 cap2 two1 [98] tx2 0 W h (right_sz two1_right) (by decide) (by decide) (by decide) (by decide)
 have C3 := fun (W : World) (A : Option Addr) (n cap : Nat) (A2 : Option Addr) (n2 cap2 : Nat) (h : ArcIn W A n A2 n2 two2) (hm : MaxLenIs W) => retrain_any A n cap A2 n2 cap2 two2 32 W h (right_sz two2_right) hm
 have C1 := hide C1
 have C2 := hide C2
 have C3 := hide C3
 have HM := hide hm
 have HB := hide hB
 have HW0 := hide hw0
 rw [← hB]
 clear hB hw0 hm
 go_enter Tryz.func67, Tryz.ntmps67
 go_upto_region 1 with fail
 rw [← unhide HW0, ← unhide HB]
 go_wp2_with fail
 refine (unhide C1 _).mono ?_
 rintro e w1 ⟨hr1, hb1⟩
 obtain ⟨A, n, cap, A2, n2, cap2, rfl, hi1, _, _⟩ := hr1.open
 obtain ⟨hz0, hlt0, hbel0⟩ := unhide HZ0
 obtain ⟨hav, hbn⟩ := AV.new hi1 cap cap2
 have HZ1 := hide (show w1.heap[B]? = some (.cells #[.slice none 0 0, .slice none 0 0] 33 (0, 0)) ∧ B < w1.heap.size ∧ Below B w w1 from ⟨(hb1.block _ hlt0).trans hz0, Nat.lt_of_lt_of_le hlt0 hb1.size, hbel0.trans (hb1.mono (Nat.le_of_lt hlt0))⟩)
 have HAV := hide hav
 have HBN := hide hbn
 clear hr1 hi1 hav hbn hb1 hz0 hlt0 hbel0
 go_upto_region 2 with (refine wpList_store_row rfl 33 (.tmp 1) (.tmp 6) rfl w1.heap.size #[.slice A n cap, .slice A2 n2 cap2] rfl rfl 33 _ (heap_alloc_new _ _) sizeArc rfl (one_two _ _ _ _ _ _) ?_)
 obtain ⟨w2, hw2⟩ : ∃ w2, w2 = (w1.alloc (.cells #[.slice none 0 0, .slice none 0 0] 33)).setRow w1.heap.size #[.slice A n cap, .slice A2 n2 cap2] := ⟨_, rfl⟩
 obtain ⟨P, hP⟩ : ∃ P, P = w1.heap.size := ⟨_, rfl⟩
 have hav2 := unhide HAV
 have hbn2 := unhide HBN
 obtain ⟨hz1, hlt1, hbel1⟩ := unhide HZ1
 rw [← hw2, ← hP] at hav2
 rw [← hw2] at hbn2 ⊢
 have HZ2 := hide (show w2.heap[B]? = some (.cells #[.slice none 0 0, .slice none 0 0] 33 (0, 0)) ∧ B < P ∧ Below B w w2 from ⟨(hbn2.block _ hlt1).trans hz1, by omega, hbel1.trans (hbn2.mono (Nat.le_of_lt hlt1))⟩)
 rw [← hP]
 have HAV := hide hav2
 obtain ⟨q0, q1⟩ := hav2.c
 clear hav2 hbn2 hz1 hlt1 hbel1 hw2 hP HBN HZ1
 go_wp2_with fail
 refine (unhide C2 _ _ _ _ _ _ _ (unhide HAV).i).mono ?_
 rintro e w3 ⟨hr3, hb3⟩
 obtain ⟨A', n', cap', A2', n2', cap2', rfl, hi3, _, ho3⟩ := hr3.open
 obtain ⟨hz2, hlt2, hbel2⟩ := unhide HZ2
 have hPl := (unhide HAV).lt
 have hav3 := (unhide HAV).below hb3
 have HPO := hide hav3.o
 obtain ⟨w4, hw4⟩ : ∃ w4, w4 = w3.setRow P #[.slice A' n' cap', .slice A2' n2' cap2'] := ⟨_, rfl⟩
 have ho4 := ho3.setRow hPl #[.slice A' n' cap', .slice A2' n2' cap2']
 rw [← hw4] at ho4
 have HAV4 := hide (show AV w4 P A' n' cap' A2' n2' cap2' two2 from ⟨by rw [hw4]; exact setRow_heap _ _ _ _ _ _ hav3.o, ho4.inn⟩)
 have HZ4 := hide (show w4.heap[B]? = some (.cells #[.slice none 0 0, .slice none 0 0] 33 (0, 0)) ∧ B < P ∧ Below B w w4 from by
  rw [hw4]
  refine ⟨?_, hlt2, below_setRow (hbel2.trans (hb3.mono (by omega))) (by omega) _⟩
  rw [setRow_other w3 P B _ (by omega)]
  exact (hb3.block _ (by omega)).trans hz2)
 have HW4 := hide hw4
 clear hr3 hi3 ho3 hz2 hlt2 hbel2 hav3 ho4 hb3 hw4 q0 q1
 go_upto_region 3 with (refine wpList_store_row rfl 33 (.tmp 1) (.tmp 11) rfl P #[.slice A' n' cap', .slice A2' n2' cap2'] rfl rfl 33 _ (unhide HPO) sizeArc rfl (one_two _ _ _ _ _ _) ?_)
 rw [← unhide HW4]
 obtain ⟨q0, q1⟩ := (unhide HAV4).c
 have HM4 := hide ((unhide HM).up (by have := (unhide HZ4).2.2; rw [unhide HB] at this; exact this))
 clear hPl HPO
 go_wp2_with fail
 refine (unhide C3 _ _ _ _ _ _ _ (unhide HAV4).i (unhide HM4)).mono ?_
 rintro e w5 ⟨hr5, hb5⟩
 obtain ⟨A'', n'', cap'', A2'', n2'', cap2'', rfl, hi5, hc5, ho5⟩ := hr5.open
 obtain ⟨hz4, hlt4, hbel4⟩ := unhide HZ4
 have hPl := (unhide HAV4).lt
 have hav5 := (unhide HAV4).below hb5
 have HPO := hide hav5.o
 have hn1 : n'' = 1 := by
  have h1 := hi5.s.1
  rw [show (retrain two2 32).1.ds = twoA.ds from rfl, twoA_eq] at h1
  exact h1.symm
 obtain ⟨w6, hw6⟩ : ∃ w6, w6 = w5.setRow P #[.slice A'' n'' cap'', .slice A2'' n2'' cap2''] := ⟨_, rfl⟩
 have ho6 := ho5.setRow hPl #[.slice A'' n'' cap'', .slice A2'' n2'' cap2'']
 rw [← hw6] at ho6
 have HAV6 := hide (show AV w6 P A'' n'' cap'' A2'' n2'' cap2'' twoA from ⟨by rw [hw6]; exact setRow_heap _ _ _ _ _ _ hav5.o, ho6.inn⟩)
 have hz6 : w6.heap[B]? = some (.cells #[.slice none 0 0, .slice none 0 0] 33 (0, 0)) := by
  rw [hw6, setRow_other w5 P B _ (by omega)]
  exact (hb5.block _ (by omega)).trans hz4
 have hbel6 : Below B w w6 := by
  rw [hw6]
  exact below_setRow (hbel4.trans (hb5.mono (by omega))) (by omega) _
 have hfin : ArcIn (w6.setRow B #[.slice A'' n'' cap'', .slice A2'' n2'' cap2'']) A'' n'' A2'' n2'' twoA := (ho6.setRow (p := B) (by omega) _).inn
 have hbel7 : Below B w (w6.setRow B #[.slice A'' n'' cap'', .slice A2'' n2'' cap2'']) := below_setRow hbel6 (Nat.le_refl _) _
 have HZ6 := hide hz6
 have HFIN := hide hfin
 have HBEL := hide hbel7
 have HC5 := hide hc5
 have HN1 := hide hn1
 have HW6 := hide hw6
 clear hr5 hi5 ho5 hz4 hlt4 hbel4 hav5 ho6 hb5 hw6 q0 q1 hz6 hbel6 hfin hbel7 hc5 hn1
 go_upto_region 4 with (refine wpList_store_row rfl 33 (.tmp 1) (.tmp 16) rfl P #[.slice A'' n'' cap'', .slice A2'' n2'' cap2''] rfl rfl 33 _ (unhide HPO) sizeArc rfl (one_two _ _ _ _ _ _) ?_)
 rw [← unhide HW6]
 obtain ⟨q0, q1⟩ := (unhide HAV6).c
 go_wp2_with (refine wpList_store_row rfl 33 (.tmp 0) (.tmp 18) rfl B #[.slice A'' n'' cap'', .slice A2'' n2'' cap2''] rfl rfl 33 _ (unhide HZ6) sizeArc rfl (one_two _ _ _ _ _ _) ?_)
 refine bodyPost_ret (results_cell_row rfl _ _ B 33 _ (0, 0) _ rfl (setRow_heap _ _ _ _ _ _ (unhide HZ6)) Tryz.underlying33 rfl sizeArc) rfl ?_
 exact ⟨⟨_, _, _, _, _, _, rfl, unhide HFIN, unhide HC5, unhide HN1⟩, unhide HBEL⟩
end Go.Proofs.YtjpgoeimclipjaaGreat
namespace Go.Proofs.YtjpgoeimclipjaaGreat
open Go.RowKit Go.Lib Pl
structure Vr where
 p : Nat
 A : Option Addr
 n : Nat
 cap : Nat
 A2 : Option Addr
 n2 : Nat
 cap2 : Nat
 a : Arc
structure St (w W : World) (B : Nat) (l : List Vr) : Prop where
 v : ∀ x ∈ l, AV W x.p x.A x.n x.cap x.A2 x.n2 x.cap2 x.a
 bel : Below B w W
 le : B ≤ W.heap.size
section
variable {w W W' : World} {B : Nat} {l : List Vr}
theorem St.below (h : St w W B l) (hb : Below W.heap.size W W') : St w W' B l := ⟨fun x hx => (h.v x hx).below hb, h.bel.trans (hb.mono h.le), Nat.le_trans h.le hb.size⟩
theorem St.nil (w : World) : St w w w.heap.size [] := ⟨by simp, Below.refl _ _, Nat.le_refl _⟩
theorem St.box {A A2 : Option Addr} {n n2 : Nat} {a : Arc} (h : ArcIn w A n A2 n2 a) (cap cap2 : Nat) : St w (w.alloc (.cells #[.slice A n cap, .slice A2 n2 cap2] 33)) w.heap.size [⟨w.heap.size, A, n, cap, A2, n2, cap2, a⟩] :=
 ⟨by simp; exact AV.box h cap cap2, (Below.refl _ _).alloc (Nat.le_refl _) _, by simp⟩
theorem St.new (h : St w W B l) {A A2 : Option Addr} {n n2 : Nat} {a : Arc} (hi : ArcIn W A n A2 n2 a) (cap cap2 : Nat) :
  St w ((W.alloc (.cells #[.slice none 0 0, .slice none 0 0] 33)).setRow W.heap.size #[.slice A n cap, .slice A2 n2 cap2]) B (⟨W.heap.size, A, n, cap, A2, n2, cap2, a⟩ :: l) := by
 obtain ⟨h1, h2⟩ := AV.new hi cap cap2
 have h3 := h.below h2
 exact ⟨fun x hx => by
  rcases List.mem_cons.1 hx with rfl | hx
  ·exact h1
  ·exact h3.v x hx, h3.bel, h3.le⟩
theorem St.at_ (h : St w W B l) (i : Nat) {x : Vr} (hx : l[i]? = some x) : AV W x.p x.A x.n x.cap x.A2 x.n2 x.cap2 x.a := h.v x (List.mem_of_getElem? hx)
theorem St.c0 (h : St w W B l) (i : Nat) {x : Vr} (hx : l[i]? = some x) : W.cell? ⟨x.p, 0, none⟩ = some (.slice x.A x.n x.cap) := (h.at_ i hx).c.1
theorem St.c1 (h : St w W B l) (i : Nat) {x : Vr} (hx : l[i]? = some x) : W.cell? ⟨x.p, 1, none⟩ = some (.slice x.A2 x.n2 x.cap2) := (h.at_ i hx).c.2
end
end Go.Proofs.YtjpgoeimclipjaaGreat
namespace Go.Proofs.YtjpgoeimclipjaaGreat
open Go.RowKit Go.Lib Pl
attribute [local go_sem] ext_list app_list
structure GF (A : Option Addr) (n cap b off n2 cap2 : Nat) (a : Arc) (f : Fil) (i : Nat) (w W : World) (B : Nat) : Prop where
 ab : ABox A n cap (some ⟨b, off, none⟩) n2 cap2 a w W B
 x0 : W.cell? ⟨b, off + i * 5, none⟩ = some (S f.name)
 x1 : W.cell? ⟨b, off + i * 5 + 1, none⟩ = some (I f.dict)
 x2 : W.cell? ⟨b, off + i * 5 + 2, none⟩ = some (I f.size)
 x3 : W.cell? ⟨b, off + i * 5 + 3, none⟩ = some (I f.sum)
 x4 : W.cell? ⟨b, off + i * 5 + 4, none⟩ = some (S f.block)
theorem GF.below {A : Option Addr} {n cap b off n2 cap2 i B : Nat} {a : Arc} {f : Fil} {w W W1 : World} (h : GF A n cap b off n2 cap2 a f i w W B) (hb : Below W.heap.size W W1) : GF A n cap b off n2 cap2 a f i w W1 B :=
 ⟨h.ab.below hb, (hb.cell (block_lt_of_cell h.x0)).trans h.x0, (hb.cell (block_lt_of_cell h.x1)).trans h.x1, (hb.cell (block_lt_of_cell h.x2)).trans h.x2, (hb.cell (block_lt_of_cell h.x3)).trans h.x3, (hb.cell (block_lt_of_cell h.x4)).trans h.x4⟩
theorem GF.drew {A : Option Addr} {n cap b off n2 cap2 i B : Nat} {a : Arc} {f : Fil} {w W : World} (h : GF A n cap b off n2 cap2 a f i w W B) : GF A n cap b off n2 cap2 a f i w W.drew B := h.below (Below.refl _ _).drew
set_option maxHeartbeats 4000000 in
set_option maxRecDepth 100000 in
theorem get_any (A : Option Addr) (n cap : Nat) (A2 : Option Addr) (n2 cap2 : Nat) (a : Arc) (file : Bytes) (w : World) (h : ArcIn w A n A2 n2 a) (hz : ArcSz a) :
  Calls Tryz.prog 33 #[arcV A n cap A2 n2 cap2, S file] w fun e w' => e = .returned (.tuple #[S (get a file).1, I (get a file).2]) ∧ Below w.heap.size w w' := by
 obtain ⟨B, hB⟩ : ∃ B, B = w.heap.size := ⟨_, rfl⟩
 obtain ⟨w0, hw0⟩ : ∃ w0, w0 = w.alloc (.cells #[.slice A n cap, .slice A2 n2 cap2] 33) := ⟨_, rfl⟩
 have H0 := hide (show ABox A n cap A2 n2 cap2 a w w0 B by rw [hw0, hB]; exact ABox.new h cap cap2)
 have hl1 := h.s.1
 have hl2 := h.f.1
 have CK : ∀ W, ABox A n cap A2 n2 cap2 a w W B → Calls Tryz.prog 31 #[arcV A n cap A2 n2 cap2] W fun e w' => e = .returned (I (checkA a)) ∧ Below W.heap.size W w' := fun W hW => check_arch A n cap A2 n2 cap2 a W hW.i hz
 obtain ⟨r, hr⟩ : ∃ r, r = get a file := ⟨_, rfl⟩
 rw [← hr, ← hB]
 have hput : r = if checkA a ≠ 0 then ([], checkA a) else match findF file a.fs with | none => ([], 5) | some f => (textD a.ds f, 0) := hr
 have HB := hide hB
 have HW0 := hide hw0
 clear hB hw0 h hr
 by_cases hck : checkA a ≠ 0
 ·rw [if_pos hck] at hput
  obtain ⟨c, hc⟩ : ∃ c, c = checkA a := ⟨_, rfl⟩
  rw [← hc] at CK hput hck
  have CK := hide CK
  have d1 : ((c : Int) != 0) = true := by rw [bne_iff_ne]; omega
  have d2 : ((c : Int) == 0) = false := by rw [beq_eq_false_iff_ne]; omega
  have d3 : ¬ (c : Int) = 0 := by omega
  subst hput
  clear hck hc hz
  go_enter Tryz.func33, Tryz.ntmps33
  go_upto_region 1 with fail
  rw [← unhide HW0, ← unhide HB]
  obtain ⟨q0, q1⟩ := (unhide H0).c
  go_wp2_with fail
  refine (unhide CK _ (unhide H0)).mono ?_
  rintro e w1 ⟨rfl, hb1⟩
  have H1 := hide ((unhide H0).below hb1)
  clear hb1 q0 q1
  go_wp2_with fail
  go_ret2
  exact ⟨rfl, (unhide H1).bel⟩
 have hck0 : checkA a = 0 := Decidable.not_not.1 hck
 have hra := (check_iff a).1 hck0
 rw [if_neg hck] at hput
 rw [hck0] at CK
 have CK := hide CK
 clear hck hck0
 have CF : ∀ W, ABox A n cap A2 n2 cap2 a w W B → Calls Tryz.prog 74 #[arcV A n cap A2 n2 cap2, S file] W fun e w' => e = .returned (.tuple #[I (posF file a.fs), .bool (thereB file a.fs)]) ∧ Below W.heap.size W w' := fun W hW => find_any A n cap A2 n2 cap2 a file W hW.i (by have := hra.nf; omega) hra.fr.asc
 have hfp := find_pos (name := file) hra.fr.asc
 have h12 := hra.nf
 cases hth : thereB file a.fs with
 | false =>
  rw [hth, if_neg (by simp)] at hfp
  rw [hfp] at hput
  simp only at hput
  rw [hth] at CF
  have CF := hide CF
  subst hput
  clear hfp hra hth hz
  go_enter Tryz.func33, Tryz.ntmps33
  go_upto_region 1 with fail
  rw [← unhide HW0, ← unhide HB]
  obtain ⟨q0, q1⟩ := (unhide H0).c
  go_wp2_with fail
  refine (unhide CK _ (unhide H0)).mono ?_
  rintro e w1 ⟨rfl, hb1⟩
  have H1 := hide ((unhide H0).below hb1)
  clear hb1 q0 q1
  obtain ⟨q0, q1⟩ := (unhide H1).c
  go_wp2_with fail
  refine (unhide CF _ (unhide H1)).mono ?_
  rintro e w2 ⟨rfl, hb2⟩
  have H2 := hide ((unhide H1).below hb2)
  clear hb2 q0 q1
  go_wp2_with fail
  go_ret2
  exact ⟨rfl, (unhide H2).bel⟩
 | true =>
  obtain ⟨f0, hf0, hnm0⟩ := there_at hth
  clear hnm0
  rw [hth, if_pos rfl, hf0] at hfp
  rw [hfp] at hput
  simp only at hput
  have hpt := there_lt hth
  rw [hth] at CF
  obtain ⟨i, hi⟩ : ∃ i, i = posF file a.fs := ⟨_, rfl⟩
  rw [← hi] at CF hpt hf0
  have CF := hide CF
  have hin : i < n2 := by omega
  have hmem := List.mem_of_getElem? hf0
  have CT : ∀ W, ABox A n cap A2 n2 cap2 a w W B → Calls Tryz.prog 83 #[arcV A n cap A2 n2 cap2, filV f0] W fun e w' => e = .returned (.tuple #[S (textD a.ds f0), .bool true]) ∧ Below W.heap.size W w' := fun W hW => by
   refine (text_any A n cap A2 n2 cap2 a f0 W hW.i (hz.fs f0 hmem) (by have := hz.nd; omega) hra.sd).mono ?_
   rintro e w' ⟨hr, hb⟩
   have ht := fileB_text (hra.fr.each f0 hmem)
   rcases hr with ⟨t, h1, h2⟩ | ⟨t, h1, _⟩
   ·rw [ht] at h1; injection h1 with h1; rw [← h1] at h2; exact ⟨h2, hb⟩
   ·rw [ht] at h1; cases h1
  obtain ⟨t, ht⟩ : ∃ t, t = textD a.ds f0 := ⟨_, rfl⟩
  rw [← ht] at CT hput
  have CT := hide CT
  have HF := hide hf0
  subst hput
  clear hfp hra hi hth hf0 hz hmem ht
  go_enter Tryz.func33, Tryz.ntmps33
  go_upto_region 1 with fail
  rw [← unhide HW0, ← unhide HB]
  obtain ⟨q0, q1⟩ := (unhide H0).c
  go_wp2_with fail
  refine (unhide CK _ (unhide H0)).mono ?_
  rintro e w1 ⟨rfl, hb1⟩
  have H1 := hide ((unhide H0).below hb1)
  clear hb1 q0 q1
  obtain ⟨q0, q1⟩ := (unhide H1).c
  go_wp2_with fail
  refine (unhide CF _ (unhide H1)).mono ?_
  rintro e w2 ⟨rfl, hb2⟩
  have H2 := hide ((unhide H1).below hb2)
  clear hb2 q0 q1
  obtain ⟨q0, q1⟩ := (unhide H2).c
  obtain ⟨b, off, f, rfl, hb, hf, x0, x1, x2, x3, x4⟩ := (unhide H2).i.f.at_ (k := i) hin
  obtain rfl : f = f0 := by have := unhide HF; rw [hf] at this; injection this
  clear hf HF
  have z1 : (i : Int) < (n2 : Int) := by omega
  have hgf : GF A n cap b off n2 cap2 a f i w w2 B := ⟨unhide H2, x0, x1, x2, x3, x4⟩
  have HG := hide hgf
  have R := hide (show (∀ W : World, GF A n cap b off n2 cap2 a f i w W B → W.cell? ⟨B, 0, none⟩ = some (.slice A n cap)) ∧ (∀ W : World, GF A n cap b off n2 cap2 a f i w W B → W.cell? ⟨B, 1, none⟩ = some (.slice (some ⟨b, off, none⟩) n2 cap2)) ∧ (∀ W : World, GF A n cap b off n2 cap2 a f i w W B → W.cell? ⟨b, off + i * 5, none⟩ = some (S f.name)) ∧ (∀ W : World, GF A n cap b off n2 cap2 a f i w W B → W.cell? ⟨b, off + i * 5 + 1, none⟩ = some (I f.dict)) ∧ (∀ W : World, GF A n cap b off n2 cap2 a f i w W B → W.cell? ⟨b, off + i * 5 + 2, none⟩ = some (I f.size)) ∧ (∀ W : World, GF A n cap b off n2 cap2 a f i w W B → W.cell? ⟨b, off + i * 5 + 3, none⟩ = some (I f.sum)) ∧ (∀ W : World, GF A n cap b off n2 cap2 a f i w W B → W.cell? ⟨b, off + i * 5 + 4, none⟩ = some (S f.block)) from ⟨fun W h => h.ab.c.1, fun W h => h.ab.c.2, fun W h => h.x0, fun W h => h.x1, fun W h => h.x2, fun W h => h.x3, fun W h => h.x4⟩)
  have CT := hide (fun (W : World) (hW : GF A n cap b off n2 cap2 a f i w W B) => unhide CT W hW.ab)
  clear q0 q1 x0 x1 x2 x3 x4 hgf
  go_wp2_with fail
  obtain ⟨r0, r1, r2, r3, r4, r5, r6⟩ := unhide R
  go_region_held3 (fun W => GF A n cap b off n2 cap2 a f i w W B) (first | exact (unhide HG).drew | assumption | exact GF.drew (by assumption) | exact GF.below (by assumption) (by assumption))
   ((first
    | (go_at_call 83; refine (unhide CT _ (by first | exact (unhide HG).drew | exact (unhide HG) | assumption)).mono ?_; rintro e w3 ⟨rfl, hb3⟩; have H3 := hide (show ABox A n cap (some ⟨b, off, none⟩) n2 cap2 a w w3 B from (by first | exact ((unhide HG).drew.below hb3).ab | exact ((unhide HG).below hb3).ab | exact (GF.below (by assumption) hb3).ab)))
    | fail))
  all_goals
   go_wp2_with fail
   go_ret2
   exact ⟨rfl, (unhide H3).bel⟩
theorem get_len (a : Arc) (file : Bytes) : (get a file).1.length ≤ 512 := by
 unfold Pl.get
 split
 ·simp
 ·split
  ·simp
  ·exact textD_len
set_option maxHeartbeats 4000000 in
set_option maxRecDepth 100000 in
theorem range_any (A : Option Addr) (n cap : Nat) (A2 : Option Addr) (n2 cap2 : Nat) (a : Arc) (file : Bytes) (m k : Int) (w : World) (h : ArcIn w A n A2 n2 a) (hz : ArcSz a)
  (hm0 : -9223372036854775808 ≤ m) (hm1 : m ≤ 9223372036854775807) (hk0 : -9223372036854775808 ≤ k) (hk1 : k ≤ 9223372036854775807) :
  Calls Tryz.prog 34 #[arcV A n cap A2 n2 cap2, S file, I m, I k] w fun e w' => e = .returned (.tuple #[S (range a file m k).1, I (range a file m k).2]) ∧ Below w.heap.size w w' := by
 obtain ⟨B, hB⟩ : ∃ B, B = w.heap.size := ⟨_, rfl⟩
 obtain ⟨w0, hw0⟩ : ∃ w0, w0 = w.alloc (.cells #[.slice A n cap, .slice A2 n2 cap2] 33) := ⟨_, rfl⟩
 have H0 := hide (show ABox A n cap A2 n2 cap2 a w w0 B by rw [hw0, hB]; exact ABox.new h cap cap2)
 have CG : ∀ W, ABox A n cap A2 n2 cap2 a w W B → Calls Tryz.prog 33 #[arcV A n cap A2 n2 cap2, S file] W fun e w' => e = .returned (.tuple #[S (get a file).1, I (get a file).2]) ∧ Below W.heap.size W w' := fun W hW => get_any A n cap A2 n2 cap2 a file W hW.i hz
 have hlen := get_len a file
 obtain ⟨r, hr⟩ : ∃ r, r = range a file m k := ⟨_, rfl⟩
 rw [← hr, ← hB]
 unfold range at hr
 obtain ⟨c, hc⟩ : ∃ c, c = (get a file).2 := ⟨_, rfl⟩
 obtain ⟨t, ht⟩ : ∃ t, t = (get a file).1 := ⟨_, rfl⟩
 rw [← hc, ← ht] at hr CG
 rw [← ht] at hlen
 have HB := hide hB
 have HW0 := hide hw0
 clear hB hw0 h hz hc ht
 by_cases hck : c ≠ 0
 ·rw [if_pos hck] at hr
  have CG := hide CG
  have d1 : ((c : Int) != 0) = true := by rw [bne_iff_ne]; omega
  have d2 : ((c : Int) == 0) = false := by rw [beq_eq_false_iff_ne]; omega
  have d3 : ¬ (c : Int) = 0 := by omega
  subst hr
  clear hck
  go_enter Tryz.func34, Tryz.ntmps34
  go_upto_region 1 with fail
  rw [← unhide HW0, ← unhide HB]
  obtain ⟨q0, q1⟩ := (unhide H0).c
  go_wp2_with fail
  refine (unhide CG _ (unhide H0)).mono ?_
  rintro e w1 ⟨rfl, hb1⟩
  have H1 := hide ((unhide H0).below hb1)
  clear hb1 q0 q1
  go_wp2_with fail
  go_ret2
  exact ⟨rfl, (unhide H1).bel⟩
 rw [if_neg hck] at hr
 obtain rfl : c = 0 := Decidable.not_not.1 hck
 have CG := hide CG
 clear hck
 unfold cutR at hr
 by_cases hbad : m < 0 ∨ k < 0 ∨ (t.length : Int) < m ∨ (t.length : Int) - m < k
 ·rw [if_pos hbad] at hr
  subst hr
  have hc : (m < 0) ∨ (¬ m < 0 ∧ k < 0) ∨ (¬ m < 0 ∧ ¬ k < 0 ∧ (t.length : Int) < m) ∨ (¬ m < 0 ∧ ¬ k < 0 ∧ ¬ (t.length : Int) < m ∧ (t.length : Int) - m < k) := by
   by_cases c1 : m < 0
   ·exact .inl c1
   ·by_cases c2 : k < 0
    ·exact .inr (.inl ⟨c1, c2⟩)
    ·by_cases c3 : (t.length : Int) < m
     ·exact .inr (.inr (.inl ⟨c1, c2, c3⟩))
     ·exact .inr (.inr (.inr ⟨c1, c2, c3, by omega⟩))
  clear hbad
  rcases hc with c1 | ⟨c1, c2⟩ | ⟨c1, c2, c3⟩ | ⟨c1, c2, c3, c4⟩
  all_goals
   go_enter Tryz.func34, Tryz.ntmps34
   go_upto_region 1 with fail
   rw [← unhide HW0, ← unhide HB]
   obtain ⟨q0, q1⟩ := (unhide H0).c
   go_wp2_with fail
   refine (unhide CG _ (unhide H0)).mono ?_
   rintro e w1 ⟨rfl, hb1⟩
   have H1 := hide ((unhide H0).below hb1)
   clear hb1 q0 q1
   go_wp2_with fail
   go_ret2
   exact ⟨rfl, (unhide H1).bel⟩
 ·rw [if_neg hbad] at hr
  obtain ⟨i, rfl⟩ : ∃ i : Nat, m = (i : Int) := ⟨m.toNat, by omega⟩
  obtain ⟨j, rfl⟩ : ∃ j : Nat, k = (j : Int) := ⟨k.toNat, by omega⟩
  rw [Int.toNat_natCast, Int.toNat_natCast] at hr
  subst hr
  have e1 : IntKind.i64.wrap ((t.length : Int) - (i : Int)) = (t.length : Int) - (i : Int) := IntWalk.i64_in _ ⟨by omega, by omega⟩
  have e2 : wrap64 ((t.length : Int) - (i : Int)) = (t.length : Int) - (i : Int) := IntWalk.wrap64_in _ ⟨by omega, by omega⟩
  have e3 : IntKind.i64.wrap ((i : Int) + (j : Int)) = ((i + j : Nat) : Int) := by rw [show (i : Int) + (j : Int) = ((i + j : Nat) : Int) from by omega]; exact IntWalk.i64_in _ ⟨by omega, by omega⟩
  have e4 : wrap64 ((i : Int) + (j : Int)) = ((i + j : Nat) : Int) := by rw [show (i : Int) + (j : Int) = ((i + j : Nat) : Int) from by omega]; exact IntWalk.wrap64_in _ ⟨by omega, by omega⟩
  have c1 : ¬ (i : Int) < 0 := by omega
  have c2 : ¬ (j : Int) < 0 := by omega
  have c3 : ¬ (t.length : Int) < (i : Int) := by omega
  have c4 : ¬ (t.length : Int) - (i : Int) < (j : Int) := by omega
  have c5 : i ≤ i + j := by omega
  have c6 : i + j ≤ t.length := by omega
  clear hbad
  go_enter Tryz.func34, Tryz.ntmps34
  go_upto_region 1 with fail
  rw [← unhide HW0, ← unhide HB]
  obtain ⟨q0, q1⟩ := (unhide H0).c
  go_wp2_with fail
  refine (unhide CG _ (unhide H0)).mono ?_
  rintro e w1 ⟨rfl, hb1⟩
  have H1 := hide ((unhide H0).below hb1)
  clear hb1 q0 q1
  go_wp2_with fail
  go_ret2
  exact ⟨rfl, (unhide H1).bel⟩
end Go.Proofs.YtjpgoeimclipjaaGreat
namespace Go.Proofs.YtjpgoeimclipjaaGreat
open Go.RowKit Go.Lib Pl
attribute [local go_sem] ext_list app_list
set_option maxHeartbeats 1000000 in
set_option maxRecDepth 100000 in
theorem played_any (dict : Bytes) (A : Option Addr) (n cap : Nat) (l : List Tok) (w : World) (hl : ToksAt w w.heap.size A n l) (hd : dict.length ≤ 9223372036854775807) (hn : n ≤ 4611686018427387904) :
  Calls Tryz.prog 118 #[S dict, .slice A n cap] w fun e w' => e = .returned (S (play dict l).1) ∧ Below w.heap.size w w' := by
 have c1 := hide (checkToks_any dict A n cap l w hl hd hn)
 go_enter Tryz.func118, Tryz.ntmps118
 go_wp2_with fail
 refine (unhide c1).mono ?_
 rintro e w1 ⟨rfl, hb⟩
 go_wp2_with fail
 go_ret
 exact ⟨rfl, hb⟩
theorem two_put {L : List Int} {w W : World} {B D j : Nat} {x y : Int} (h : BoxL (firstL L (2 * j)) w W B D) (hx : L[2 * j]? = some x) (hy : L[2 * j + 1]? = some y) {i : Nat} (hi : i = 2 * j) :
  BoxL (firstL L (2 * (j + 1))) w ((W.setCell ⟨D, i, none⟩ (.int .i64 x)).setCell ⟨D, i + 1, none⟩ (.int .i64 y)) B D := by
 subst hi
 have h1 := h.put (2 * j) x
 rw [firstL_next hx] at h1
 have h2 := h1.put (2 * j + 1) y
 rw [firstL_next hy] at h2
 exact h2
def UpRes (b : Bytes) (o : Option Bytes) (e : Ending) : Prop := (∃ t, o = some t ∧ e = .returned (.tuple #[S t, .bool true])) ∨ (∃ t : Bytes, o = none ∧ t.length ≤ b.length ∧ e = .returned (.tuple #[S t, .bool false]))
set_option maxHeartbeats 4000000 in
set_option maxRecDepth 100000 in
theorem unpackOf_any (dict b : Bytes) (w : World) (hd : dict.length ≤ 256) (hb : b.length ≤ 140737488355328) :
  Calls Tryz.prog 84 #[S dict, S b] w fun e w' => UpRes b (unpackO dict b) e ∧ Below w.heap.size w w' := by
 cases b with
 | nil =>
  go_enter Tryz.func84, Tryz.ntmps84
  go_wp2_with fail
  go_ret2
  exact ⟨.inr ⟨[], rfl, Nat.le_refl _, rfl⟩, Below.refl _ _⟩
 | cons k s =>
  have hsl : s.length ≤ 4611686018427387904 := by rw [List.length_cons] at hb; omega
  have hsl2 : s.length ≤ 140737488355328 := by rw [List.length_cons] at hb; omega
  have hcons : (k :: s).length = s.length + 1 := rfl
  have n1 : ((k :: s) == []) = false := rfl
  have n2 : slice (k :: s) 1 (k :: s).length = s := by rw [slice_end]; rfl
  have n2b : slice (k :: s) 1 (s.length + 1) = s := n2
  have n3 : (0 : Nat) < (k :: s).length := by simp
  have n4 : (⟨(k :: s).toArray⟩ : ByteArray)[0]'n3 = k := rfl
  have n5 : (1 : Nat) ≤ (k :: s).length := by simp
  have hk256 := k.toNat_lt
  have e0 : k = 0 ↔ k.toNat = 0 := ⟨fun e => by rw [e]; rfl, fun e => UInt8.toNat_inj.1 e⟩
  have e1 : k = 1 ↔ k.toNat = 1 := ⟨fun e => by rw [e]; rfl, fun e => UInt8.toNat_inj.1 e⟩
  have e2 : k = 2 ↔ k.toNat = 2 := ⟨fun e => by rw [e]; rfl, fun e => UInt8.toNat_inj.1 e⟩
  have HB0 := hide (Below.refl w.heap.size w)
  by_cases h0 : k = 0
  ·subst h0
   by_cases h512 : s.length ≤ 512
   ·have HO := hide (show unpackO dict (0 :: s) = some s by rw [unpackO, if_pos rfl, if_pos h512])
    have h512i : (s.length : Int) ≤ 512 := by omega
    have h512d : decide ((s.length : Int) ≤ 512) = true := decide_eq_true h512i
    clear e0 e1 e2
    go_enter Tryz.func84, Tryz.ntmps84
    go_wp2_with fail
    go_quiet (fail)
    go_wp2_with fail
    go_ret2
    rw [unhide HO]
    exact ⟨.inl ⟨s, rfl, rfl⟩, _root_.Go.below_drewN (Below.refl _ _) _⟩
   ·have HO := hide (show unpackO dict (0 :: s) = none by rw [unpackO, if_pos rfl, if_neg h512])
    have h512i : ¬ (s.length : Int) ≤ 512 := by omega
    have h512d : decide ((s.length : Int) ≤ 512) = false := decide_eq_false h512i
    clear e0 e1 e2
    go_enter Tryz.func84, Tryz.ntmps84
    go_wp2_with fail
    go_quiet (fail)
    go_wp2_with fail
    go_ret2
    rw [unhide HO]
    exact ⟨.inr ⟨s, rfl, by simp, rfl⟩, _root_.Go.below_drewN (Below.refl _ _) _⟩
  ·have f0 : ((k.toNat : Int) == 0) = false := by rw [beq_eq_false_iff_ne]; intro e; exact h0 (e0.2 (by omega))
   by_cases h1 : k = 1
   ·have z1 : k.toNat = 1 := e1.1 h1
    have f2 : ((k.toNat : Int) == 2) = false := by rw [beq_eq_false_iff_ne]; omega
    have f3 : ¬ (2 : Int) < (k.toNat : Int) := by omega
    have hun : unpackO dict (k :: s) = playO dict s := by rw [unpackO, if_neg h0, if_pos h1]
    clear e0 e1 e2 h0 h1
    go_enter Tryz.func84, Tryz.ntmps84
    go_wp2_with fail
    go_quiet (fail)
    have H1 := hide (_root_.Go.below_drewN (Below.refl w.heap.size w) nq)
    cases hrd : read dict s with
    | none =>
     have c2 := fun (W : World) => toksFrom_any dict s W hd hsl
     rw [hrd] at c2
     have c2 := hide c2
     have HO := hide (show unpackO dict (k :: s) = none by rw [hun]; unfold playO; rw [hrd]; rfl)
     clear hrd hun
     go_wp2_with fail
     refine (unhide c2 _).mono ?_
     rintro e w2 ⟨hv, hb2⟩
     have H2 := hide ((unhide H1).trans (hb2.mono (unhide H1).size))
     clear hb2
     obtain ⟨v, is, rfl, hv⟩ := hv
     rcases hv with ⟨rfl, rfl, _⟩ | ⟨_, l, hl, _⟩
     ·go_wp2_with fail
      go_ret2
      rw [unhide HO]
      exact ⟨.inr ⟨[], rfl, by simp, rfl⟩, unhide H2⟩
     ·cases hl
    | some l =>
     have c2 := fun (W : World) => toksFrom_any dict s W hd hsl
     rw [hrd] at c2
     have c2 := hide c2
     have hpl : (play dict l).2 = 0 := by
      have hw := write_read hd hrd
      by_cases e : (play dict l).2 = 0
      ·exact e
      ·unfold write at hw
       rw [if_pos e] at hw
       exact absurd (Prod.ext_iff.1 hw).2 e
     have hln := play_room hpl
     have c3 := fun (W : World) (A : Option Addr) (n cap : Nat) (h : ToksAt W W.heap.size A n l) => played_any dict A n cap l W h (by omega) (by have := h.1; omega)
     obtain ⟨t, ht⟩ : ∃ t, t = (play dict l).1 := ⟨_, rfl⟩
     rw [← ht] at c3
     have c3 := hide c3
     have HO := hide (show unpackO dict (k :: s) = some t by rw [hun]; unfold playO; rw [hrd, ht]; rfl)
     clear hrd hpl hln ht hun
     go_wp2_with fail
     refine (unhide c2 _).mono ?_
     rintro e w2 ⟨hv, hb2⟩
     have H2 := hide ((unhide H1).trans (hb2.mono (unhide H1).size))
     clear hb2
     obtain ⟨v, is, rfl, hv⟩ := hv
     rcases hv with ⟨_, _, hl⟩ | ⟨rfl, l', hl, A, n, cap, rfl, hat⟩
     ·cases hl
     ·cases hl
      have HAT := hide hat
      clear hat
      go_wp2_with fail
      refine (unhide c3 _ _ _ _ (unhide HAT)).mono ?_
      rintro e w3 ⟨rfl, hb3⟩
      have H3 := hide ((unhide H2).trans (hb3.mono (unhide H2).size))
      clear hb3
      go_wp2_with fail
      go_ret2
      rw [unhide HO]
      exact ⟨.inl ⟨t, rfl, rfl⟩, unhide H3⟩
   ·have f1 : ((k.toNat : Int) == 1) = false := by rw [beq_eq_false_iff_ne]; intro e; exact h1 (e1.2 (by omega))
    by_cases h2 : k = 2
    ·subst h2
     by_cases h8 : s.length < 8
     ·have HO := hide (show unpackO dict (2 :: s) = none by rw [unpackO, if_neg h0, if_neg h1, if_pos rfl]; unfold decoded; rw [if_pos h8]; rfl)
      have h8i : (s.length : Int) < 8 := by omega
      clear e0 e1 e2 h0 h1 f0 f1
      go_enter Tryz.func84, Tryz.ntmps84
      go_wp2_with fail
      go_quiet (fail)
      go_wp2_with fail
      go_ret2
      rw [unhide HO]
      exact ⟨.inr ⟨[], rfl, by simp, rfl⟩, _root_.Go.below_drewN (Below.refl _ _) _⟩
     ·have hz := zero16v
      have hun : unpackO dict (2 :: s) = (decoded s).bind (playO dict) := by rw [unpackO, if_neg h0, if_neg h1, if_pos rfl]
      have h8n : 8 ≤ s.length := by omega
      have h8i : ¬ (s.length : Int) < 8 := by omega
      obtain ⟨L, hL⟩ : ∃ L, L = unHd s := ⟨_, rfl⟩
      have hl16 : L.length = 16 := by rw [hL]; exact unHd_len (by omega)
      obtain ⟨X, hX⟩ : ∃ X, X = slice s 8 s.length := ⟨_, rfl⟩
      have hX2 : X = s.drop 8 := by rw [hX, slice_end]
      have hXl : X.length ≤ s.length := by rw [hX2, List.length_drop]; omega
      have hdec : decoded s = decodeO L X := by unfold decoded; rw [if_neg h8, hX2, hL]
      have HL := hide hL
      have HL16 := hide hl16
      have HX := hide hX
      have HDEC := hide hdec
      have HUN := hide hun
      clear e0 e1 e2 h0 h1 f0 f1 hX2 hL hl16 hdec h8 hun n3 n4 n5 hX
      go_enter Tryz.func84, Tryz.ntmps84
      go_wp2_with fail
      go_quiet (fail)
      obtain ⟨w1, hw1⟩ : ∃ w1, w1 = w.drewN nq := ⟨_, rfl⟩
      have H1 := hide (show Below w.heap.size w w1 by rw [hw1]; exact _root_.Go.below_drewN (Below.refl w.heap.size w) nq)
      rw [← hw1]
      clear hw1
      go_wp2_with fail
      obtain ⟨D, hD⟩ : ∃ D, D = w1.heap.size := ⟨_, rfl⟩
      obtain ⟨w2, hw2⟩ : ∃ w2, w2 = w1.alloc (.cells (cells16 (Lf fun _ => 0)) 145) := ⟨_, rfl⟩
      have H2 := hide (show BoxL (Lf fun _ => 0) w w2 w.heap.size D from ⟨by rw [hw2, hD]; exact heap_alloc_new _ _, by rw [hD]; exact (unhide H1).size, by rw [hw2]; exact (unhide H1).alloc (unhide H1).size _⟩)
      rw [← hw2, ← hD]
      clear hw2 hD
      go_loopw [9] (fun iv wr => ∃ j : Nat, j ≤ 8 ∧ iv = .int .i64 j ∧ BoxL (firstL L (2 * j)) w wr w.heap.size D) (fun iv _ => 8 - (intOf iv).toNat)
      case atStart => exact ⟨0, by omega, rfl, by rw [Nat.mul_zero, firstL_zero]; exact unhide H2⟩
      case round =>
       obtain ⟨j, hj, rfl, hat⟩ := hrel
       have HAT := hide hat
       clear hat
       by_cases hj8 : j < 8
       ·have hq : j < s.length := by omega
        obtain ⟨c, hcc⟩ : ∃ c, (⟨s.toArray⟩ : ByteArray)[j]'hq = c := ⟨_, rfl⟩
        have hsc : s[j]? = some c := by rw [List.getElem?_eq_getElem hq]; exact congrArg some hcc
        obtain ⟨m1, m2⟩ := unHd_get (b := s) (q := j) hj8 hsc
        rw [← unhide HL] at m1 m2
        obtain ⟨h, hh⟩ : ∃ h, h = c.toNat / 16 := ⟨_, rfl⟩
        obtain ⟨m, hm⟩ : ∃ m, m = c.toNat % 16 := ⟨_, rfl⟩
        rw [← hh] at m1
        rw [← hm] at m2
        have hc256 := c.toNat_lt
        have a1 : (c.toNat : Int).tdiv 16 = (h : Int) := by rw [Int.tdiv_eq_ediv_of_nonneg (by omega)]; omega
        have a2 : (c.toNat : Int).tmod 16 = (m : Int) := by rw [Int.tmod_eq_emod_of_nonneg (by omega)]; omega
        have a3 : IntKind.u8.wrap ((c.toNat : Int) / 16) = (h : Int) := by
         have e : (c.toNat : Int) / 16 = (h : Int) := by omega
         rw [e, IntKind.wrap_u8]; omega
        have hh16 : h < 16 := by omega
        have hm16 : m < 16 := by omega
        obtain ⟨i, hi⟩ : ∃ i, i = 2 * j := ⟨_, rfl⟩
        have hst1 := (unhide HAT).put (2 * j) (h : Int)
        rw [firstL_next m1] at hst1
        have hst2 := hst1.put (2 * j + 1) (m : Int)
        rw [firstL_next m2] at hst2
        rw [← hi] at hst1 hst2
        have g1 := (unhide HAT).free i
        have g2 := (unhide HAT).free (i + 1)
        obtain ⟨y1, hy1⟩ : ∃ y, (firstL L (2 * j))[i]? = some y := ⟨_, List.getElem?_eq_getElem (by rw [firstL_len]; omega)⟩
        obtain ⟨y2, hy2⟩ : ∃ y, (firstL L (2 * j))[i + 1]? = some y := ⟨_, List.getElem?_eq_getElem (by rw [firstL_len]; omega)⟩
        have c1 := (unhide HAT).get hy1
        have c2 := (unhide HAT).get hy2
        obtain ⟨y3, hy3⟩ : ∃ y, (firstL L (i + 1))[i + 1]? = some y := ⟨_, List.getElem?_eq_getElem (by rw [firstL_len]; omega)⟩
        have c3 := hst1.get hy3
        have v1 : wrap64 (2 * (j : Int)) = (i : Int) := by rw [hi]; exact (IntWalk.wrap64_in _ ⟨by omega, by omega⟩).trans (by omega)
        have v1b : IntKind.i64.wrap (2 * (j : Int)) = (i : Int) := by rw [hi]; exact (IntWalk.i64_in _ ⟨by omega, by omega⟩).trans (by omega)
        have v2 : IntKind.i64.wrap ((i : Int) + 1) = (i : Int) + 1 := IntWalk.i64_in _ ⟨by omega, by omega⟩
        have v3 : (0 : Int) ≤ (i : Int) + 1 := by omega
        have v4 : (i : Int) + 1 < 16 := by omega
        have v5 : ((i : Int) + 1).toNat = i + 1 := by omega
        have v6 : (i : Int) < 16 := by omega
        have M1 := hide m1
        have M2 := hide m2
        have HI := hide hi
        clear hsc m1 m2 hh hm hi hst1 hst2 hy1 hy2 hy3
        go_wp2_with fail
        go_region_law (fail)
        all_goals
         go_wp2_with fail
         go_roundw
         case rel =>
          first
           | exact ⟨j + 1, by omega, by go_num, two_put (unhide HAT) (unhide M1) (unhide M2) (unhide HI)⟩
           | exact ⟨j + 1, by omega, by go_num, two_put (unhide HAT).drew (unhide M1) (unhide M2) (unhide HI)⟩
           | ((repeat apply Exists.intro); exact ⟨⟨j + 1, by omega, by go_num, two_put (unhide HAT).drew (unhide M1) (unhide M2) (unhide HI)⟩, rfl⟩)
           | ((repeat apply Exists.intro); exact ⟨⟨j + 1, by omega, by go_num, two_put (unhide HAT) (unhide M1) (unhide M2) (unhide HI)⟩, rfl⟩)
         case measure => simp [intOf]; omega
       ·have hj' : j = 8 := by omega
        subst hj'
        rw [show 2 * 8 = 16 from rfl, firstL_all (unhide HL16)] at HAT
        cases ht : take X with
        | none =>
         have HO := hide (show unpackO dict (2 :: s) = none by rw [unhide HUN, unhide HDEC, decodeO_none ht]; rfl)
         have c1 := hide (fun W => numFrom_no ht W (by omega))
         have c2 := fun (W : World) => readCode_any L [] 0 W (unhide HL16) (by simp) (by omega) (by omega)
         obtain ⟨T, hT⟩ : ∃ T, T = readS L [] 0 := ⟨_, rfl⟩
         obtain ⟨te, hte⟩ : ∃ te, te = readE L [] 0 := ⟨_, rfl⟩
         rw [← hT, ← hte] at c2
         have c2 := hide c2
         have HXX := unhide HX
         clear ht hT hte
         go_wp2_with fail
         rw [← HXX]
         refine (unhide c1 _).mono ?_
         rintro e w3 ⟨rfl, hb3⟩
         have H3 := hide ((unhide HAT).below hb3)
         clear hb3
         go_wp2_with (first
          | (refine wpList_load16 rfl (.tmp 8) rfl D rfl L (unhide HL16) (unhide H3).o ?_))
         refine (unhide c2 _).mono ?_
         rintro e w4 ⟨rfl, hb4⟩
         have H4 := hide ((unhide H3).below hb4)
         clear hb4
         go_wp2_with fail
         go_ret2
         rw [unhide HO]
         exact ⟨.inr ⟨[], rfl, by simp, rfl⟩, (unhide H4).bel⟩
        | some p =>
         obtain ⟨n, r⟩ := p
         obtain ⟨e1, e2⟩ := take_some ht
         have hrl : r.length ≤ X.length := by rw [e1, List.length_append]; omega
         have hn : n ≤ 2147483647 := e2
         have hd1 := decodeO_some (L := L) ht
         have c1 := hide (fun W => numFrom_ok ht W (by omega))
         have c2 := fun (W : World) => readCode_any L r (n : Int) W (unhide HL16) (by omega) (by omega) (by omega)
         obtain ⟨x, hT⟩ : ∃ T, T = readS L r (n : Int) := ⟨_, rfl⟩
         obtain ⟨te, hte⟩ : ∃ te, te = readE L r (n : Int) := ⟨_, rfl⟩
         rw [← hT, ← hte] at c2 hd1
         have HTE := hide hte
         have HT := hide hT
         have c2 := hide c2
         have HXX := unhide HX
         by_cases h0 : te = 0
         ·have hxl : x.length ≤ 4611686018427387904 := by
           rw [hT]
           rw [hte] at h0
           have := (writeE_parts (code_write_read h0).1).2.1
           omega
          rw [if_pos h0] at hd1
          have hdx : decoded s = some x := (unhide HDEC).trans hd1
          have HDX := hide hdx
          subst h0
          clear ht hT hte e1 e2 hd1 hdx
          go_wp2_with fail
          rw [← HXX]
          refine (unhide c1 _).mono ?_
          rintro e w3 ⟨rfl, hb3⟩
          have H3 := hide ((unhide HAT).below hb3)
          clear hb3
          go_wp2_with (first
           | (refine wpList_load16 rfl (.tmp 8) rfl D rfl L (unhide HL16) (unhide H3).o ?_))
          refine (unhide c2 _).mono ?_
          rintro e w4 ⟨rfl, hb4⟩
          have H4 := hide ((unhide H3).below hb4).bel
          clear hb4
          cases hrd : read dict x with
          | none =>
           have c2 := fun (W : World) => toksFrom_any dict x W hd hxl
           rw [hrd] at c2
           have c2 := hide c2
           have HO := hide (show unpackO dict (2 :: s) = none by rw [unhide HUN, unhide HDX]; simp only [Option.bind_some]; unfold playO; rw [hrd]; rfl)
           clear hrd
           go_wp2_with fail
           refine (unhide c2 _).mono ?_
           rintro e w2 ⟨hv, hb2⟩
           have H2 := hide ((unhide H4).trans (hb2.mono (unhide H4).size))
           clear hb2
           obtain ⟨v, is, rfl, hv⟩ := hv
           rcases hv with ⟨rfl, rfl, _⟩ | ⟨_, l, hl, _⟩
           ·go_wp2_with fail
            go_ret2
            rw [unhide HO]
            exact ⟨.inr ⟨[], rfl, by simp, rfl⟩, unhide H2⟩
           ·cases hl
          | some l =>
           have c2 := fun (W : World) => toksFrom_any dict x W hd hxl
           rw [hrd] at c2
           have c2 := hide c2
           have hpl : (play dict l).2 = 0 := by
            have hw := write_read hd hrd
            by_cases e : (play dict l).2 = 0
            ·exact e
            ·unfold write at hw
             rw [if_pos e] at hw
             exact absurd (Prod.ext_iff.1 hw).2 e
           have hln := play_room hpl
           have c3 := fun (W : World) (A : Option Addr) (n cap : Nat) (h : ToksAt W W.heap.size A n l) => played_any dict A n cap l W h (by omega) (by have := h.1; omega)
           obtain ⟨t, ht⟩ : ∃ t, t = (play dict l).1 := ⟨_, rfl⟩
           rw [← ht] at c3
           have c3 := hide c3
           have HO := hide (show unpackO dict (2 :: s) = some t by rw [unhide HUN, unhide HDX]; simp only [Option.bind_some]; unfold playO; rw [hrd, ht]; rfl)
           clear hrd hpl hln ht
           go_wp2_with fail
           refine (unhide c2 _).mono ?_
           rintro e w2 ⟨hv, hb2⟩
           have H2 := hide ((unhide H4).trans (hb2.mono (unhide H4).size))
           clear hb2
           obtain ⟨v, is, rfl, hv⟩ := hv
           rcases hv with ⟨_, _, hl⟩ | ⟨rfl, l', hl, A, n, cap, rfl, hat⟩
           ·cases hl
           ·cases hl
            have HAT := hide hat
            clear hat
            go_wp2_with fail
            refine (unhide c3 _ _ _ _ (unhide HAT)).mono ?_
            rintro e w3 ⟨rfl, hb3⟩
            have H3 := hide ((unhide H2).trans (hb3.mono (unhide H2).size))
            clear hb3
            go_wp2_with fail
            go_ret2
            rw [unhide HO]
            exact ⟨.inl ⟨t, rfl, rfl⟩, unhide H3⟩
         ·have HO := hide (show unpackO dict (2 :: s) = none by rw [unhide HUN, unhide HDEC, hd1, if_neg h0]; rfl)
          have d1 : ((te : Int) != 0) = true := by rw [bne_iff_ne]; omega
          have d2 : ((te : Int) == 0) = false := by rw [beq_eq_false_iff_ne]; omega
          clear ht hT hte e1 e2 hd1 h0
          go_wp2_with fail
          rw [← HXX]
          refine (unhide c1 _).mono ?_
          rintro e w3 ⟨rfl, hb3⟩
          have H3 := hide ((unhide HAT).below hb3)
          clear hb3
          go_wp2_with (first
           | (refine wpList_load16 rfl (.tmp 8) rfl D rfl L (unhide HL16) (unhide H3).o ?_))
          refine (unhide c2 _).mono ?_
          rintro e w4 ⟨rfl, hb4⟩
          have H4 := hide ((unhide H3).below hb4)
          clear hb4
          go_wp2_with fail
          go_ret2
          rw [unhide HO]
          exact ⟨.inr ⟨[], rfl, by simp, rfl⟩, (unhide H4).bel⟩
    ·have f2 : ((k.toNat : Int) == 2) = false := by rw [beq_eq_false_iff_ne]; intro e; exact h2 (e2.2 (by omega))
     have f3 : (2 : Int) < (k.toNat : Int) := by
      have a0 : k.toNat ≠ 0 := fun e => h0 (e0.2 e)
      have a1 : k.toNat ≠ 1 := fun e => h1 (e1.2 e)
      have a2 : k.toNat ≠ 2 := fun e => h2 (e2.2 e)
      omega
     have HO := hide (show unpackO dict (k :: s) = none by rw [unpackO, if_neg h0, if_neg h1, if_neg h2])
     clear e0 e1 e2 h0 h1 h2
     go_enter Tryz.func84, Tryz.ntmps84
     go_wp2_with fail
     go_quiet (fail)
     go_wp2_with fail
     go_ret2
     rw [unhide HO]
     exact ⟨.inr ⟨[], rfl, by simp, rfl⟩, _root_.Go.below_drewN (Below.refl _ _) _⟩
end Go.Proofs.YtjpgoeimclipjaaGreat
