/- Parts of the proofs. -/
import Derived.Test.YtjpgoeimclipjaaGreatAc13
namespace Go.Proofs.YtjpgoeimclipjaaGreat
namespace Pl
theorem find_drop {name : Bytes} {fs : List Fil} {k : Nat} {f : Fil} (h : fs[k]? = some f) : findF name (fs.drop k) = if f.name = name then some f else findF name (fs.drop (k + 1)) := by
  have hk := (List.getElem?_eq_some_iff.1 h).1
  rw [List.drop_eq_getElem_cons hk]
  rw [List.getElem?_eq_getElem hk] at h
  rw [Option.some.inj h]
  unfold findF
  rw [List.find?_cons]
  by_cases h2 : f.name = name
  · simp [h2]
  · simp [h2]
end Pl
end Go.Proofs.YtjpgoeimclipjaaGreat
namespace Go.Proofs.YtjpgoeimclipjaaGreat
open Go.RowKit Go.Lib Pl
attribute [local go_sem] ext_list app_list
attribute [local go_sem] World.cell?_alloc_some in
set_option maxHeartbeats 2000000 in
set_option maxRecDepth 100000 in
theorem fileAt_any (A : Option Addr) (n cap : Nat) (A2 : Option Addr) (n2 cap2 : Nat) (a : Arc) (name : Bytes) (w : World) (h : ArcIn w A n A2 n2 a) (hn : n2 ≤ 1000000) :
    Calls Tryz.prog 80 #[arcV A n cap A2 n2 cap2, S name] w fun e w' => ((findF name a.fs = none ∧ e = .returned (I (-1))) ∨ (∃ i f, a.fs[i]? = some f ∧ findF name a.fs = some f ∧ e = .returned (I (i : Nat)))) ∧ Below w.heap.size w w' := by
  obtain ⟨B, hB⟩ : ∃ B, B = w.heap.size := ⟨_, rfl⟩
  obtain ⟨w0, hw0⟩ : ∃ w0, w0 = w.alloc (.cells #[.slice A n cap, .slice A2 n2 cap2] 33) := ⟨_, rfl⟩
  have H0 := hide (show ABox A n cap A2 n2 cap2 a w w0 B by rw [hw0, hB]; exact ABox.new h cap cap2)
  have hl2 := h.f.1
  rw [← hB]
  have HB := hide hB
  have HW0 := hide hw0
  clear hB hw0 h
  go_enter Tryz.func80, Tryz.ntmps80
  go_upto_region 1 with fail
  rw [← unhide HW0, ← unhide HB]
  obtain ⟨q0, q1⟩ := (unhide H0).c
  go_wp2_with fail
  go_loop [5] (fun iv => ∃ k : Nat, k ≤ n2 ∧ iv = .int .i64 k ∧ findF name a.fs = findF name (a.fs.drop k)) (fun iv => n2 - (intOf iv).toNat)
  case atStart => exact ⟨0, Nat.zero_le _, rfl, by simp⟩
  case round =>
    obtain ⟨k, hk, rfl, hs⟩ := hrel
    by_cases hkn : k < n2
    · obtain ⟨b, off, f, rfl, hb, hf, x0, x1, x2, x3, x4⟩ := (unhide H0).i.f.at_ (k := k) hkn
      have hfd := find_drop (name := name) hf
      rw [hfd] at hs
      have z1 : (k : Int) < (n2 : Int) := by omega
      by_cases hnm : f.name = name
      · rw [if_pos hnm] at hs
        have HS := hide hs
        have HF := hide hf
        have d1 : (f.name == name) = true := by simpa using hnm
        clear hs hf hfd hnm
        go_wp2_with fail
        go_ret
        exact ⟨.inr ⟨k, f, unhide HF, unhide HS, rfl⟩, (unhide H0).bel⟩
      · rw [if_neg hnm] at hs
        have HS := hide hs
        have d1 : (f.name == name) = false := by simpa using hnm
        clear hs hf hfd hnm
        go_wp2_with fail
        go_round
        case rel => exact ⟨k + 1, by omega, by go_num, unhide HS⟩
        case measure => simp [intOf]; omega
    · have hnone : findF name a.fs = none := by rw [hs, List.drop_of_length_le (by omega)]; rfl
      have HN := hide hnone
      have z1 : ¬ (k : Int) < (n2 : Int) := by omega
      clear hs hnone
      go_wp2_with fail
      go_ret
      exact ⟨.inl ⟨unhide HN, rfl⟩, (unhide H0).bel⟩
structure TxK (A : Option Addr) (n cap : Nat) (b off n2 cap2 : Nat) (a : Arc) (f : Fil) (i : Nat) (w W : World) (B : Nat) : Prop where
  ab : ABox A n cap (some ⟨b, off, none⟩) n2 cap2 a w W B
  d : W.cell? ⟨b, off + i * 5 + 1, none⟩ = some (I f.dict)
  k : W.cell? ⟨b, off + i * 5 + 4, none⟩ = some (S f.block)
theorem TxK.below {A : Option Addr} {n cap b off n2 cap2 i B : Nat} {a : Arc} {f : Fil} {w W W1 : World} (h : TxK A n cap b off n2 cap2 a f i w W B) (hb : Below W.heap.size W W1) : TxK A n cap b off n2 cap2 a f i w W1 B :=
  ⟨h.ab.below hb, (hb.cell (block_lt_of_cell h.d)).trans h.d, (hb.cell (block_lt_of_cell h.k)).trans h.k⟩
theorem TxK.drew {A : Option Addr} {n cap b off n2 cap2 i B : Nat} {a : Arc} {f : Fil} {w W : World} (h : TxK A n cap b off n2 cap2 a f i w W B) : TxK A n cap b off n2 cap2 a f i w W.drew B := h.below (Below.refl _ _).drew
set_option maxHeartbeats 4000000 in
set_option maxRecDepth 100000 in
theorem textAt_any (A : Option Addr) (n cap : Nat) (A2 : Option Addr) (n2 cap2 : Nat) (a : Arc) (i : Nat) (f : Fil) (w : World) (h : ArcIn w A n A2 n2 a) (hra : RightA a) (hz : FilSz f) (hf : a.fs[i]? = some f) :
    Calls Tryz.prog 87 #[arcV A n cap A2 n2 cap2, I i] w fun e w' => e = .returned (S (textD a.ds f)) ∧ Below w.heap.size w w' := by
  obtain ⟨B, hB⟩ : ∃ B, B = w.heap.size := ⟨_, rfl⟩
  obtain ⟨w0, hw0⟩ : ∃ w0, w0 = w.alloc (.cells #[.slice A n cap, .slice A2 n2 cap2] 33) := ⟨_, rfl⟩
  have H0 := hide (show ABox A n cap A2 n2 cap2 a w w0 B by rw [hw0, hB]; exact ABox.new h cap cap2)
  have hl1 := h.s.1
  have hl2 := h.f.1
  have hi := (List.getElem?_eq_some_iff.1 hf).1
  have htx := fileB_text (hra.fr.each f (List.mem_of_getElem? hf))
  obtain ⟨d, hd⟩ : ∃ d, dictO a.ds f.dict = some d := by
    unfold textO at htx
    cases h : dictO a.ds f.dict with
    | none => rw [h] at htx; cases htx
    | some d => exact ⟨d, rfl⟩
  have hdl := dictO_len hra.sd hd
  obtain ⟨t, hu⟩ : ∃ t, unpackO d f.block = some t := by
    unfold textO sizedO at htx
    rw [hd] at htx
    simp only [Option.bind_some] at htx
    cases h : unpackO d f.block with
    | none => rw [h] at htx; cases htx
    | some t => exact ⟨t, rfl⟩
  have htd : textD a.ds f = t := by
    unfold textO sizedO at htx
    rw [hd] at htx
    simp only [Option.bind_some, hu] at htx
    split at htx
    · injection htx with htx; exact htx.symm
    · cases htx
  have KU := hide (fun (W : World) => unpackOf_some W hdl hz.bl hu)
  have KD := hide (fun (W : World) (hW : ArcIn W A n A2 n2 a) => dictOf_any A n cap A2 n2 cap2 a f.dict W hW (by have := hra.nd; omega) (by rw [hd]; rfl))
  rw [hd] at KD
  rw [htd, ← hB]
  obtain ⟨b, off, f', rfl, hb, hf', x0, x1, x2, x3, x4⟩ := (unhide H0).i.f.at_ (k := i) (by omega)
  obtain rfl : f' = f := by rw [hf] at hf'; injection hf' with e; exact e.symm
  have HT := hide (show TxK A n cap b off n2 cap2 a f' i w w0 B from ⟨unhide H0, x1, x4⟩)
  have HB := hide hB
  have HW0 := hide hw0
  have z1 : (i : Int) < (n2 : Int) := by omega
  have z2 : i < n2 := by omega
  have R := hide (show (∀ W : World, TxK A n cap b off n2 cap2 a f' i w W B → W.cell? ⟨B, 0, none⟩ = some (.slice A n cap)) ∧ (∀ W : World, TxK A n cap b off n2 cap2 a f' i w W B → W.cell? ⟨B, 1, none⟩ = some (.slice (some ⟨b, off, none⟩) n2 cap2)) ∧ (∀ W : World, TxK A n cap b off n2 cap2 a f' i w W B → W.cell? ⟨b, off + i * 5 + 1, none⟩ = some (I f'.dict)) ∧ (∀ W : World, TxK A n cap b off n2 cap2 a f' i w W B → W.cell? ⟨b, off + i * 5 + 4, none⟩ = some (S f'.block)) from ⟨fun W h => h.ab.c.1, fun W h => h.ab.c.2, fun W h => h.d, fun W h => h.k⟩)
  clear hB hw0 h hra hz hf hf' hi htx hd hdl hu htd hb x0 x1 x2 x3 x4 hl1 hl2
  go_enter Tryz.func87, Tryz.ntmps87
  go_upto_region 1 with fail
  rw [← unhide HW0, ← unhide HB]
  obtain ⟨r1, r2, r3, r4⟩ := unhide R
  go_region_held3 (fun w' => TxK A n cap b off n2 cap2 a f' i w w' B) (first | exact (unhide HT).drew | assumption | exact TxK.drew (by assumption) | exact TxK.below (by assumption) (by assumption))
    ((first
      | (go_at_call 85; have hAF := ‹TxK A n cap b off n2 cap2 a f' i w _ B›; refine (unhide KD _ (by exact hAF.ab.i)).mono ?_; clear hAF; rintro e w4 ⟨rfl, hb4⟩)
      | (go_at_call 84; refine (unhide KU _).mono ?_; rintro e w5 ⟨rfl, hb5⟩)))
  have HT5 := hide ‹TxK A n cap b off n2 cap2 a f' i w w5 B›
  clear r1 r2 r3 r4
  go_wp2_with fail
  go_ret
  exact ⟨rfl, (unhide HT5).ab.bel⟩
end Go.Proofs.YtjpgoeimclipjaaGreat
namespace Go.Proofs.YtjpgoeimclipjaaGreat
open Go.RowKit Go.Lib Pl
attribute [local go_sem] ext_list app_list
set_option maxHeartbeats 4000000 in
set_option maxRecDepth 100000 in
theorem getOf_any (A : Option Addr) (n cap : Nat) (A2 : Option Addr) (n2 cap2 : Nat) (a : Arc) (file : Bytes) (w : World) (h : ArcIn w A n A2 n2 a) (hz : ArcSz a) :
    Calls Tryz.prog 35 #[arcV A n cap A2 n2 cap2, S file] w fun e w' => e = .returned (.tuple #[S (get a file).1, I (get a file).2]) ∧ Below w.heap.size w w' := by
  obtain ⟨B, hB⟩ : ∃ B, B = w.heap.size := ⟨_, rfl⟩
  obtain ⟨w0, hw0⟩ : ∃ w0, w0 = w.alloc (.cells #[.slice A n cap, .slice A2 n2 cap2] 33) := ⟨_, rfl⟩
  have H0 := hide (show ABox A n cap A2 n2 cap2 a w w0 B by rw [hw0, hB]; exact ABox.new h cap cap2)
  have hl1 := h.s.1
  have hl2 := h.f.1
  have CK : ∀ W, ABox A n cap A2 n2 cap2 a w W B → Calls Tryz.prog 32 #[arcV A n cap A2 n2 cap2] W fun e w' => e = .returned (I (checkA a)) ∧ Below W.heap.size W w' := fun W hW => checkArchive_any A n cap A2 n2 cap2 a W hW.i hz
  obtain ⟨r, hr⟩ : ∃ r, r = get a file := ⟨_, rfl⟩
  rw [← hr, ← hB]
  have hput : r = if checkA a ≠ 0 then ([], checkA a) else match findF file a.fs with | none => ([], 5) | some f => (textD a.ds f, 0) := hr
  have HB := hide hB
  have HW0 := hide hw0
  clear hB hw0 h hr
  by_cases hck : checkA a ≠ 0
  · rw [if_pos hck] at hput
    obtain ⟨c, hc⟩ : ∃ c, c = checkA a := ⟨_, rfl⟩
    rw [← hc] at CK hput hck
    have CK := hide CK
    have d1 : ((c : Int) != 0) = true := by rw [bne_iff_ne]; omega
    have d2 : ((c : Int) == 0) = false := by rw [beq_eq_false_iff_ne]; omega
    have d3 : ¬ (c : Int) = 0 := by omega
    subst hput
    clear hck hc hz
    go_enter Tryz.func35, Tryz.ntmps35
    go_upto_region 1 with fail
    rw [← unhide HW0, ← unhide HB]
    obtain ⟨q0, q1⟩ := (unhide H0).c
    go_wp2_with fail
    refine (unhide CK _ (unhide H0)).mono ?_
    rintro e w1 ⟨rfl, hb1⟩
    have H1 := hide ((unhide H0).below hb1)
    clear hb1 q0 q1
    go_wp2_with fail
    go_ret2
    exact ⟨rfl, (unhide H1).bel⟩
  have hck0 : checkA a = 0 := Decidable.not_not.1 hck
  have hra := (check_iff a).1 hck0
  rw [if_neg hck] at hput
  rw [hck0] at CK
  have CK := hide CK
  have CF : ∀ W, ABox A n cap A2 n2 cap2 a w W B → Calls Tryz.prog 80 #[arcV A n cap A2 n2 cap2, S file] W fun e w' => ((findF file a.fs = none ∧ e = .returned (I (-1))) ∨ (∃ i f, a.fs[i]? = some f ∧ findF file a.fs = some f ∧ e = .returned (I (i : Nat)))) ∧ Below W.heap.size W w' := fun W hW => fileAt_any A n cap A2 n2 cap2 a file W hW.i (by have := hra.nf; omega)
  have CF := hide CF
  have CT : ∀ (i : Nat) (f : Fil), a.fs[i]? = some f → ∀ W, ABox A n cap A2 n2 cap2 a w W B → Calls Tryz.prog 87 #[arcV A n cap A2 n2 cap2, I i] W fun e w' => e = .returned (S (textD a.ds f)) ∧ Below W.heap.size W w' := fun i f hf W hW => textAt_any A n cap A2 n2 cap2 a i f W hW.i hra (hz.fs f (List.mem_of_getElem? hf)) hf
  have CT := hide CT
  have HPUT := hide hput
  clear hck hck0 hra hz hput
  go_enter Tryz.func35, Tryz.ntmps35
  go_upto_region 1 with fail
  rw [← unhide HW0, ← unhide HB]
  obtain ⟨q0, q1⟩ := (unhide H0).c
  go_wp2_with fail
  refine (unhide CK _ (unhide H0)).mono ?_
  rintro e w1 ⟨rfl, hb1⟩
  have H1 := hide ((unhide H0).below hb1)
  clear hb1 q0 q1
  obtain ⟨q0, q1⟩ := (unhide H1).c
  go_wp2_with fail
  refine (unhide CF _ (unhide H1)).mono ?_
  rintro e w2 ⟨hres, hb2⟩
  have H2 := hide ((unhide H1).below hb2)
  clear hb2 q0 q1
  obtain ⟨q0, q1⟩ := (unhide H2).c
  rcases hres with ⟨hnone, rfl⟩ | ⟨i, f, hi, hsome, rfl⟩
  · have HR := hide (show r = ([], 5) by rw [unhide HPUT, hnone])
    clear hnone
    go_wp2_with fail
    go_ret2
    rw [unhide HR]
    exact ⟨rfl, (unhide H2).bel⟩
  · have HR := hide (show r = (textD a.ds f, 0) by rw [unhide HPUT, hsome])
    have C3 := hide (unhide CT i f hi)
    have d1 : ¬ (i : Int) < 0 := by omega
    clear hsome hi
    go_wp2_with fail
    refine (unhide C3 _ (unhide H2)).mono ?_
    rintro e w3 ⟨rfl, hb3⟩
    have H3 := hide ((unhide H2).below hb3)
    clear hb3 q0 q1
    go_wp2_with fail
    go_ret2
    rw [unhide HR]
    exact ⟨rfl, (unhide H3).bel⟩
set_option maxHeartbeats 4000000 in
set_option maxRecDepth 100000 in
theorem rangeOf_any (A : Option Addr) (n cap : Nat) (A2 : Option Addr) (n2 cap2 : Nat) (a : Arc) (file : Bytes) (m k : Int) (w : World) (h : ArcIn w A n A2 n2 a) (hz : ArcSz a)
    (hm0 : -9223372036854775808 ≤ m) (hm1 : m ≤ 9223372036854775807) (hk0 : -9223372036854775808 ≤ k) (hk1 : k ≤ 9223372036854775807) :
    Calls Tryz.prog 36 #[arcV A n cap A2 n2 cap2, S file, I m, I k] w fun e w' => e = .returned (.tuple #[S (range a file m k).1, I (range a file m k).2]) ∧ Below w.heap.size w w' := by
  obtain ⟨B, hB⟩ : ∃ B, B = w.heap.size := ⟨_, rfl⟩
  obtain ⟨w0, hw0⟩ : ∃ w0, w0 = w.alloc (.cells #[.slice A n cap, .slice A2 n2 cap2] 33) := ⟨_, rfl⟩
  have H0 := hide (show ABox A n cap A2 n2 cap2 a w w0 B by rw [hw0, hB]; exact ABox.new h cap cap2)
  have CG : ∀ W, ABox A n cap A2 n2 cap2 a w W B → Calls Tryz.prog 35 #[arcV A n cap A2 n2 cap2, S file] W fun e w' => e = .returned (.tuple #[S (get a file).1, I (get a file).2]) ∧ Below W.heap.size W w' := fun W hW => getOf_any A n cap A2 n2 cap2 a file W hW.i hz
  have hlen := get_len a file
  obtain ⟨r, hr⟩ : ∃ r, r = range a file m k := ⟨_, rfl⟩
  rw [← hr, ← hB]
  unfold range at hr
  obtain ⟨c, hc⟩ : ∃ c, c = (get a file).2 := ⟨_, rfl⟩
  obtain ⟨t, ht⟩ : ∃ t, t = (get a file).1 := ⟨_, rfl⟩
  rw [← hc, ← ht] at hr CG
  rw [← ht] at hlen
  have HB := hide hB
  have HW0 := hide hw0
  clear hB hw0 h hz hc ht
  by_cases hck : c ≠ 0
  · rw [if_pos hck] at hr
    have CG := hide CG
    have d1 : ((c : Int) != 0) = true := by rw [bne_iff_ne]; omega
    have d2 : ((c : Int) == 0) = false := by rw [beq_eq_false_iff_ne]; omega
    have d3 : ¬ (c : Int) = 0 := by omega
    subst hr
    clear hck
    go_enter Tryz.func36, Tryz.ntmps36
    go_upto_region 1 with fail
    rw [← unhide HW0, ← unhide HB]
    obtain ⟨q0, q1⟩ := (unhide H0).c
    go_wp2_with fail
    refine (unhide CG _ (unhide H0)).mono ?_
    rintro e w1 ⟨rfl, hb1⟩
    have H1 := hide ((unhide H0).below hb1)
    clear hb1 q0 q1
    go_wp2_with fail
    go_ret2
    exact ⟨rfl, (unhide H1).bel⟩
  rw [if_neg hck] at hr
  obtain rfl : c = 0 := Decidable.not_not.1 hck
  have CG := hide CG
  clear hck
  unfold cutR at hr
  have W1 := fun (W : World) => (within_any m 0 (t.length : Int) W).mono fun e w' ⟨h1, h2⟩ => (⟨h1, h2.symm⟩ : e = Ending.returned (.bool (decide (0 ≤ m ∧ m ≤ (t.length : Int)))) ∧ w' = W)
  by_cases hm : 0 ≤ m ∧ m ≤ (t.length : Int)
  · rw [decide_eq_true hm] at W1
    have W1 := hide W1
    have W2 := fun (W : World) => (within_any k 0 ((t.length : Int) - m) W).mono fun e w' ⟨h1, h2⟩ => (⟨h1, h2.symm⟩ : e = Ending.returned (.bool (decide (0 ≤ k ∧ k ≤ (t.length : Int) - m))) ∧ w' = W)
    have e1 : IntKind.i64.wrap ((t.length : Int) - m) = (t.length : Int) - m := IntWalk.i64_in _ ⟨by omega, by omega⟩
    have e2 : wrap64 ((t.length : Int) - m) = (t.length : Int) - m := IntWalk.wrap64_in _ ⟨by omega, by omega⟩
    by_cases hk : 0 ≤ k ∧ k ≤ (t.length : Int) - m
    · rw [decide_eq_true hk] at W2
      have W2 := hide W2
      rw [if_neg (by omega)] at hr
      obtain ⟨i, rfl⟩ : ∃ i : Nat, m = (i : Int) := ⟨m.toNat, by omega⟩
      obtain ⟨j, rfl⟩ : ∃ j : Nat, k = (j : Int) := ⟨k.toNat, by omega⟩
      rw [Int.toNat_natCast, Int.toNat_natCast] at hr
      subst hr
      have e3 : IntKind.i64.wrap ((i : Int) + (j : Int)) = ((i + j : Nat) : Int) := by rw [show (i : Int) + (j : Int) = ((i + j : Nat) : Int) from by omega]; exact IntWalk.i64_in _ ⟨by omega, by omega⟩
      have e4 : wrap64 ((i : Int) + (j : Int)) = ((i + j : Nat) : Int) := by rw [show (i : Int) + (j : Int) = ((i + j : Nat) : Int) from by omega]; exact IntWalk.wrap64_in _ ⟨by omega, by omega⟩
      have c5 : i ≤ i + j := by omega
      have c6 : i + j ≤ t.length := by omega
      clear hm hk
      go_enter Tryz.func36, Tryz.ntmps36
      go_upto_region 1 with fail
      rw [← unhide HW0, ← unhide HB]
      obtain ⟨q0, q1⟩ := (unhide H0).c
      go_wp2_with fail
      refine (unhide CG _ (unhide H0)).mono ?_
      rintro e w1 ⟨rfl, hb1⟩
      have H1 := hide ((unhide H0).below hb1)
      clear hb1 q0 q1
      go_wp2_with fail
      refine (unhide W1 _).mono ?_
      rintro e wx ⟨rfl, hwx⟩
      rw [hwx]
      clear hwx
      go_wp2_with fail
      refine (unhide W2 _).mono ?_
      rintro e wx ⟨rfl, hwx⟩
      rw [hwx]
      clear hwx
      go_wp2_with fail
      go_ret2
      exact ⟨rfl, (unhide H1).bel⟩
    · rw [decide_eq_false hk] at W2
      have W2 := hide W2
      rw [if_pos (by omega)] at hr
      subst hr
      clear hm hk
      go_enter Tryz.func36, Tryz.ntmps36
      go_upto_region 1 with fail
      rw [← unhide HW0, ← unhide HB]
      obtain ⟨q0, q1⟩ := (unhide H0).c
      go_wp2_with fail
      refine (unhide CG _ (unhide H0)).mono ?_
      rintro e w1 ⟨rfl, hb1⟩
      have H1 := hide ((unhide H0).below hb1)
      clear hb1 q0 q1
      go_wp2_with fail
      refine (unhide W1 _).mono ?_
      rintro e wx ⟨rfl, hwx⟩
      rw [hwx]
      clear hwx
      go_wp2_with fail
      refine (unhide W2 _).mono ?_
      rintro e wx ⟨rfl, hwx⟩
      rw [hwx]
      clear hwx
      go_wp2_with fail
      go_ret2
      exact ⟨rfl, (unhide H1).bel⟩
  · rw [decide_eq_false hm] at W1
    have W1 := hide W1
    rw [if_pos (by omega)] at hr
    subst hr
    clear hm
    go_enter Tryz.func36, Tryz.ntmps36
    go_upto_region 1 with fail
    rw [← unhide HW0, ← unhide HB]
    obtain ⟨q0, q1⟩ := (unhide H0).c
    go_wp2_with fail
    refine (unhide CG _ (unhide H0)).mono ?_
    rintro e w1 ⟨rfl, hb1⟩
    have H1 := hide ((unhide H0).below hb1)
    clear hb1 q0 q1
    go_wp2_with fail
    refine (unhide W1 _).mono ?_
    rintro e wx ⟨rfl, hwx⟩
    rw [hwx]
    clear hwx
    go_wp2_with fail
    go_ret2
    exact ⟨rfl, (unhide H1).bel⟩
end Go.Proofs.YtjpgoeimclipjaaGreat
namespace Go.Proofs.YtjpgoeimclipjaaGreat
open Go.RowKit Go.Lib Pl
attribute [local go_sem] ext_list app_list
set_option maxHeartbeats 8000000 in
set_option maxRecDepth 100000 in
theorem archGets_any (A : Option Addr) (n cap : Nat) (A2 : Option Addr) (n2 cap2 : Nat) (a : Arc) (file : Bytes) (m k : Int) (w : World) (h : ArcIn w A n A2 n2 a) (hz : ArcSz a) (hm0 : -9223372036854775808 ≤ m) (hm1 : m ≤ 9223372036854775807) (hk0 : -9223372036854775808 ≤ k) (hk1 : k ≤ 9223372036854775807) (hm : MaxLenIs w) :
    Calls Tryz.prog 7 #[arcV A n cap A2 n2 cap2, S file, I m, I k] w fun e w' => e = .returned (.bool true) ∧ Below w.heap.size w w' := by
  have CG := fun (W : World) (hi : ArcIn W A n A2 n2 a) => get_any A n cap A2 n2 cap2 a file W hi hz
  have CG2 := fun (W : World) (hi : ArcIn W A n A2 n2 a) => getOf_any A n cap A2 n2 cap2 a file W hi hz
  have CR := fun (W : World) (hi : ArcIn W A n A2 n2 a) => range_any A n cap A2 n2 cap2 a file m k W hi hz hm0 hm1 hk0 hk1
  have CR2 := fun (W : World) (hi : ArcIn W A n A2 n2 a) => rangeOf_any A n cap A2 n2 cap2 a file m k W hi hz hm0 hm1 hk0 hk1
  obtain ⟨t1, ht1⟩ : ∃ t, t = (Pl.get a file).1 := ⟨_, rfl⟩
  obtain ⟨e1, he1⟩ : ∃ t, t = (Pl.get a file).2 := ⟨_, rfl⟩
  obtain ⟨t2, ht2⟩ : ∃ t, t = (Pl.range a file m k).1 := ⟨_, rfl⟩
  obtain ⟨e2, he2⟩ : ∃ t, t = (Pl.range a file m k).2 := ⟨_, rfl⟩
  rw [← ht1, ← he1] at CG CG2
  rw [← ht2, ← he2] at CR CR2
  have CG := hide CG
  have CG2 := hide CG2
  have CR := hide CR
  have CR2 := hide CR2
  clear ht1 he1 ht2 he2 hz
  obtain ⟨B, hB⟩ : ∃ B, B = w.heap.size := ⟨_, rfl⟩
  obtain ⟨w0, hw0⟩ : ∃ w0, w0 = w.alloc (.cells #[.slice A n cap, .slice A2 n2 cap2] 33) := ⟨_, rfl⟩
  have H0 := hide (show St w w0 B [⟨B, A, n, cap, A2, n2, cap2, a⟩] by rw [hw0, hB]; exact St.box h cap cap2)
  have HB := hide hB
  have HW0 := hide hw0
  have HM := hide hm
  rw [← hB]
  clear hB hw0 hm
  go_enter Tryz.func7, Tryz.ntmps7
  go_upto_region 1 with fail
  rw [← unhide HW0, ← unhide HB]
  have u0x0 : w0.cell? ⟨B, 0, none⟩ = some (.slice A n cap) := (unhide H0).c0 0 rfl
  have v0x0 : w0.cell? ⟨B, 1, none⟩ = some (.slice A2 n2 cap2) := (unhide H0).c1 0 rfl
  go_wp2_with fail
  refine (unhide CG _ ((unhide H0).at_ 0 rfl).i).mono ?_
  rintro e w1 ⟨rfl, hb1⟩
  have H1 := hide ((unhide H0).below hb1)
  clear hb1
  clear u0x0 v0x0
  have u1x0 : w1.cell? ⟨B, 0, none⟩ = some (.slice A n cap) := (unhide H1).c0 0 rfl
  have v1x0 : w1.cell? ⟨B, 1, none⟩ = some (.slice A2 n2 cap2) := (unhide H1).c1 0 rfl
  go_wp2_with fail
  refine (unhide CR _ ((unhide H1).at_ 0 rfl).i).mono ?_
  rintro e w2 ⟨rfl, hb2⟩
  have H2 := hide ((unhide H1).below hb2)
  clear hb2
  clear u1x0 v1x0
  have u2x0 : w2.cell? ⟨B, 0, none⟩ = some (.slice A n cap) := (unhide H2).c0 0 rfl
  have v2x0 : w2.cell? ⟨B, 1, none⟩ = some (.slice A2 n2 cap2) := (unhide H2).c1 0 rfl
  go_wp2_with fail
  refine (unhide CG2 _ ((unhide H2).at_ 0 rfl).i).mono ?_
  rintro e w3 ⟨rfl, hb3⟩
  have H3 := hide ((unhide H2).below hb3)
  clear hb3
  clear u2x0 v2x0
  have u3x0 : w3.cell? ⟨B, 0, none⟩ = some (.slice A n cap) := (unhide H3).c0 0 rfl
  have v3x0 : w3.cell? ⟨B, 1, none⟩ = some (.slice A2 n2 cap2) := (unhide H3).c1 0 rfl
  go_wp2_with fail
  refine (unhide CR2 _ ((unhide H3).at_ 0 rfl).i).mono ?_
  rintro e w4 ⟨rfl, hb4⟩
  have H4 := hide ((unhide H3).below hb4)
  clear hb4
  clear u3x0 v3x0
  have u4x0 : w4.cell? ⟨B, 0, none⟩ = some (.slice A n cap) := (unhide H4).c0 0 rfl
  have v4x0 : w4.cell? ⟨B, 1, none⟩ = some (.slice A2 n2 cap2) := (unhide H4).c1 0 rfl
  go_wp2_with fail
  refine (archBegun_any _ ((unhide HM).up (by have := (unhide H4).bel; rw [unhide HB] at this; exact this))).mono ?_
  rintro e w5 ⟨rfl, hb5⟩
  have H5 := hide ((unhide H4).below hb5)
  clear hb5
  clear u4x0 v4x0
  have u5x0 : w5.cell? ⟨B, 0, none⟩ = some (.slice A n cap) := (unhide H5).c0 0 rfl
  have v5x0 : w5.cell? ⟨B, 1, none⟩ = some (.slice A2 n2 cap2) := (unhide H5).c1 0 rfl
  go_wp2_with fail
  go_ret
  exact ⟨rfl, (unhide H5).bel⟩
end Go.Proofs.YtjpgoeimclipjaaGreat
