/- Parts of the proofs. -/
import Derived.Test.YtjpgoeimclipjaaGreatAd14
namespace Go.Proofs.YtjpgoeimclipjaaGreat
namespace Pl
def putGo (f : Fil) : Bool → List Fil → List Fil
 | false, [] => [f]
 | true, [] => []
 | d, g :: r => (if d = false ∧ lessB g.name f.name = false then [f] else []) ++ ((if g.name = f.name then [] else [g]) ++ putGo f (d || !lessB g.name f.name) r)
theorem putGo_done {f : Fil} : ∀ {fs : List Fil}, (∀ g ∈ fs, g.name ≠ f.name) → putGo f true fs = fs
 | [], _ => rfl
 | g :: r, h => by
  rw [putGo, if_neg (by simp), if_neg (h g (by simp)), Bool.true_or, putGo_done (fun x hx => h x (by simp [hx]))]; rfl
theorem putGo_ins {f : Fil} : ∀ {fs : List Fil}, Asc fs → putGo f false fs = insF f fs
 | [], _ => rfl
 | g :: r, h => by
  have hp := List.pairwise_cons.1 h
  rw [putGo, insF]
  by_cases h1 : lessB g.name f.name = true
  ·have hg : g.name ≠ f.name := by intro e; rw [e, lessB_irrefl] at h1; cases h1
   rw [if_neg (by simp [h1]), if_neg hg, if_pos h1, h1, show (false || !true) = false from rfl, putGo_ins hp.2]; rfl
  ·have h1' : lessB g.name f.name = false := by simpa using h1
   rw [if_pos ⟨rfl, h1'⟩, if_neg h1, h1', show (false || !false) = true from rfl, putGo_done (find_later hp.1 h1')]
   by_cases h2 : g.name = f.name
   ·rw [if_pos h2, if_pos h2]; rfl
   ·rw [if_neg h2, if_neg h2]; rfl
theorem find_drop {name : Bytes} {fs : List Fil} {k : Nat} {f : Fil} (h : fs[k]? = some f) : findF name (fs.drop k) = if f.name = name then some f else findF name (fs.drop (k + 1)) := by
 have hk := (List.getElem?_eq_some_iff.1 h).1
 rw [List.drop_eq_getElem_cons hk]
 rw [List.getElem?_eq_getElem hk] at h
 rw [Option.some.inj h]
 unfold findF
 rw [List.find?_cons]
 by_cases h2 : f.name = name
 ·simp [h2]
 ·simp [h2]
end Pl
end Go.Proofs.YtjpgoeimclipjaaGreat
namespace Go.Proofs.YtjpgoeimclipjaaGreat
open Go.RowKit Go.Lib Pl
attribute [local go_sem] ext_list app_list
section
variable {W W' : World} {p : Nat} {A : Option Addr} {n cap : Nat} {A2 : Option Addr} {n2 cap2 : Nat} {a : Arc}
end
theorem putBad {a : Arc} {name text : Bytes} {n : Int} (h : (put a name text n).2 ≠ 0) : (put a name text n).1 = arc0 := by
 unfold put at h ⊢
 split
 ·rfl
 ·split
  ·rfl
  ·split
   ·rfl
   ·split
    ·rfl
    ·split
     ·rfl
     ·simp_all
theorem dropBad {a : Arc} {name : Bytes} (h : (drop a name).2 ≠ 0) : (drop a name).1 = arc0 := by
 unfold drop at h ⊢
 split
 ·rfl
 ·split
  ·rfl
  ·simp_all
theorem put_ra (a : Arc) (name text : Bytes) (n : Int) : RightA (put a name text n).1 := by
 by_cases h : (put a name text n).2 = 0
 ·exact (put_right h).2.1
 ·rw [putBad h]; exact arc0_right
theorem drop_ra (a : Arc) (name : Bytes) : RightA (drop a name).1 := by
 by_cases h : (drop a name).2 = 0
 ·exact (drop_right h).2.1
 ·rw [dropBad h]; exact arc0_right
end Go.Proofs.YtjpgoeimclipjaaGreat
namespace Go.Proofs.YtjpgoeimclipjaaGreat
open Go.RowKit Go.Lib Pl
section
variable {w W W' : World} {B : Nat} {l : List Vr}
theorem St.drew (h : St w W B l) : St w W.drew B l := h.below (Below.refl _ _).drew
end
end Go.Proofs.YtjpgoeimclipjaaGreat
namespace Go.Proofs.YtjpgoeimclipjaaGreat
open Go.RowKit Go.Lib Pl
attribute [local go_sem] ext_list app_list
attribute [local go_sem] World.cell?_alloc_some in
set_option maxHeartbeats 2000000 in
set_option maxRecDepth 100000 in
theorem fileAt_any (A : Option Addr) (n cap : Nat) (A2 : Option Addr) (n2 cap2 : Nat) (a : Arc) (name : Bytes) (w : World) (h : ArcIn w A n A2 n2 a) (hn : n2 ≤ 1000000) :
  Calls Tryz.prog 80 #[arcV A n cap A2 n2 cap2, S name] w fun e w' => ((findF name a.fs = none ∧ e = .returned (I (-1))) ∨ (∃ i f, a.fs[i]? = some f ∧ findF name a.fs = some f ∧ e = .returned (I (i : Nat)))) ∧ Below w.heap.size w w' := by
 obtain ⟨B, hB⟩ : ∃ B, B = w.heap.size := ⟨_, rfl⟩
 obtain ⟨w0, hw0⟩ : ∃ w0, w0 = w.alloc (.cells #[.slice A n cap, .slice A2 n2 cap2] 33) := ⟨_, rfl⟩
 have H0 := hide (show ABox A n cap A2 n2 cap2 a w w0 B by rw [hw0, hB]; exact ABox.new h cap cap2)
 have hl2 := h.f.1
 rw [← hB]
 have HB := hide hB
 have HW0 := hide hw0
 clear hB hw0 h
 go_enter Tryz.func80, Tryz.ntmps80
 go_upto_region 1 with fail
 rw [← unhide HW0, ← unhide HB]
 obtain ⟨q0, q1⟩ := (unhide H0).c
 go_wp2_with fail
 go_loop [5] (fun iv => ∃ k : Nat, k ≤ n2 ∧ iv = .int .i64 k ∧ findF name a.fs = findF name (a.fs.drop k)) (fun iv => n2 - (intOf iv).toNat)
 case atStart => exact ⟨0, Nat.zero_le _, rfl, by simp⟩
 case round =>
  obtain ⟨k, hk, rfl, hs⟩ := hrel
  by_cases hkn : k < n2
  ·obtain ⟨b, off, f, rfl, hb, hf, x0, x1, x2, x3, x4⟩ := (unhide H0).i.f.at_ (k := k) hkn
   have hfd := find_drop (name := name) hf
   rw [hfd] at hs
   have z1 : (k : Int) < (n2 : Int) := by omega
   by_cases hnm : f.name = name
   ·rw [if_pos hnm] at hs
    have HS := hide hs
    have HF := hide hf
    have d1 : (f.name == name) = true := by simpa using hnm
    clear hs hf hfd hnm
    go_wp2_with fail
    go_ret
    exact ⟨.inr ⟨k, f, unhide HF, unhide HS, rfl⟩, (unhide H0).bel⟩
   ·rw [if_neg hnm] at hs
    have HS := hide hs
    have d1 : (f.name == name) = false := by simpa using hnm
    clear hs hf hfd hnm
    go_wp2_with fail
    go_round
    case rel => exact ⟨k + 1, by omega, by go_num, unhide HS⟩
    case measure => simp [intOf]; omega
  ·have hnone : findF name a.fs = none := by rw [hs, List.drop_of_length_le (by omega)]; rfl
   have HN := hide hnone
   have z1 : ¬ (k : Int) < (n2 : Int) := by omega
   clear hs hnone
   go_wp2_with fail
   go_ret
   exact ⟨.inl ⟨unhide HN, rfl⟩, (unhide H0).bel⟩
end Go.Proofs.YtjpgoeimclipjaaGreat
namespace Go.Proofs.YtjpgoeimclipjaaGreat
open Go.RowKit Go.Lib Pl
attribute [local go_sem] ext_list app_list
theorem putGo_step (F : Fil) (dn : Bool) (g : Fil) (r : List Fil) : putGo F dn (g :: r) = (if dn = false ∧ lessB g.name F.name = false then [F] else []) ++ ((if g.name = F.name then [] else [g]) ++ putGo F (dn || !lessB g.name F.name) r) := by
 rw [putGo]
attribute [local go_sem] World.cell?_alloc_some in
set_option maxHeartbeats 8000000 in
set_option maxRecDepth 100000 in
theorem putOf_any (A : Option Addr) (n cap : Nat) (A2 : Option Addr) (n2 cap2 : Nat) (a : Arc) (file text : Bytes) (k : Int) (w : World) (h : ArcIn w A n A2 n2 a) (hz : ArcSz a) (hfl : file.length ≤ 140737488355328) (htl : text.length ≤ 9223372036854775807) :
  Calls Tryz.prog 28 #[arcV A n cap A2 n2 cap2, S file, S text, I k] w fun e w' => ArcRes w.heap.size (put a file text k) e w' ∧ Below w.heap.size w w' := by
 obtain ⟨B, hB⟩ : ∃ B, B = w.heap.size := ⟨_, rfl⟩
 obtain ⟨w0, hw0⟩ : ∃ w0, w0 = (w.alloc (.cells #[.slice A n cap, .slice A2 n2 cap2] 33)).alloc (.cells #[.slice none 0 0, .slice none 0 0] 33) := ⟨_, rfl⟩
 have H0 := hide (show AR A n cap A2 n2 cap2 a w w0 B by rw [hw0, hB]; exact AR.new h cap cap2)
 have hl1 := h.s.1
 have hl2 := h.f.1
 have CK : ∀ W, AR A n cap A2 n2 cap2 a w W B → Calls Tryz.prog 32 #[arcV A n cap A2 n2 cap2] W fun e w' => e = .returned (I (checkA a)) ∧ Below W.heap.size W w' := fun W hW => checkArchive_any A n cap A2 n2 cap2 a W hW.ab.i hz
 have CN := hide (fun (W : World) => isName_any file W hfl)
 have CW := fun (W : World) => (within_any k 0 (n : Int) W).mono fun e w' ⟨h1, h2⟩ => (⟨h1, h2.symm⟩ : e = Ending.returned (.bool (decide (0 ≤ k ∧ k ≤ (n : Int)))) ∧ w' = W)
 have hdi := @dictO_iff a.ds k
 rw [hl1] at hdi
 rw [← hdi] at CW
 obtain ⟨r, hr⟩ : ∃ r, r = put a file text k := ⟨_, rfl⟩
 rw [← hr, ← hB]
 have hput : r = if checkA a ≠ 0 then (arc0, checkA a) else if nameB file = false then (arc0, 4) else if dictO a.ds k = none then (arc0, 3) else if 512 < text.length then (arc0, 2) else if 12 < (insF (packedF a.ds file text k) a.fs).length then (arc0, 2) else (⟨a.ds, insF (packedF a.ds file text k) a.fs⟩, 0) := hr
 have HB := hide hB
 have HW0 := hide hw0
 have HI := hide h
 clear hB hw0 h hr hz hdi
 by_cases hck : checkA a ≠ 0
 ·rw [if_pos hck] at hput
  obtain ⟨c, hc⟩ : ∃ c, c = checkA a := ⟨_, rfl⟩
  rw [← hc] at CK hput hck
  have CK := hide CK
  have d1 : ((c : Int) != 0) = true := by rw [bne_iff_ne]; omega
  have d2 : ((c : Int) == 0) = false := by rw [beq_eq_false_iff_ne]; omega
  have d3 : ¬ (c : Int) = 0 := by omega
  subst hput
  clear hck hc CW
  go_enter Tryz.func28, Tryz.ntmps28
  go_upto_region 1 with fail
  rw [← unhide HW0, ← unhide HB]
  obtain ⟨q0, q1⟩ := (unhide H0).ab.c
  go_wp2_with fail
  refine (unhide CK _ (unhide H0)).mono ?_
  rintro e w1 ⟨rfl, hb1⟩
  have H1 := hide ((unhide H0).below hb1)
  clear hb1 q0 q1
  obtain ⟨q0, q1⟩ := (unhide H1).ab.c
  go_wp2_with (refine wpList_store_row rfl 33 (.tmp 8) (.tmp 18) rfl (B + 1) #[.slice none 0 0, .slice none 0 0] rfl rfl 33 _ (unhide H1).z sizeArc rfl all_nil2 ?_)
  refine bodyPost_ret (results_row_tmp rfl _ _ (B + 1) 33 #[.slice none 0 0, .slice none 0 0] (0, 0) _ rfl ((unhide H1).end_ _).1 Tryz.underlying33 rfl sizeArc) rfl ⟨⟨_, _, rfl, ?_⟩, ((unhide H1).end_ _).2⟩
  exact OwnA.nil _ _
 have hck0 : checkA a = 0 := Decidable.not_not.1 hck
 have hra := (check_iff a).1 hck0
 rw [if_neg hck] at hput
 rw [hck0] at CK
 have CK := hide CK
 clear hck hck0
 have h12 := hra.nf
 have h4 := hra.nd
 by_cases hnm : nameB file = false
 ·rw [if_pos hnm] at hput
  rw [hnm] at CN
  subst hput
  clear hnm hra CW
  go_enter Tryz.func28, Tryz.ntmps28
  go_upto_region 1 with fail
  rw [← unhide HW0, ← unhide HB]
  obtain ⟨q0, q1⟩ := (unhide H0).ab.c
  go_wp2_with fail
  refine (unhide CK _ (unhide H0)).mono ?_
  rintro e w1 ⟨rfl, hb1⟩
  have H1 := hide ((unhide H0).below hb1)
  clear hb1 q0 q1
  obtain ⟨q0, q1⟩ := (unhide H1).ab.c
  go_wp2_with fail
  refine (unhide CN _).mono ?_
  rintro e w2 ⟨rfl, hw2⟩
  rw [hw2]
  clear hw2
  go_wp2_with (refine wpList_store_row rfl 33 (.tmp 8) (.tmp 24) rfl (B + 1) #[.slice none 0 0, .slice none 0 0] rfl rfl 33 _ (unhide H1).z sizeArc rfl all_nil2 ?_)
  refine bodyPost_ret (results_row_tmp rfl _ _ (B + 1) 33 #[.slice none 0 0, .slice none 0 0] (0, 0) _ rfl ((unhide H1).end_ _).1 Tryz.underlying33 rfl sizeArc) rfl ⟨⟨_, _, rfl, ?_⟩, ((unhide H1).end_ _).2⟩
  exact OwnA.nil _ _
 rw [if_neg hnm] at hput
 have hnm : nameB file = true := by simpa using hnm
 rw [hnm] at CN
 cases hdo : dictO a.ds k with
 | none =>
  rw [if_pos hdo] at hput
  rw [hdo] at CW
  have CW := hide CW
  subst hput
  clear hnm hdo hra
  go_enter Tryz.func28, Tryz.ntmps28
  go_upto_region 1 with fail
  rw [← unhide HW0, ← unhide HB]
  obtain ⟨q0, q1⟩ := (unhide H0).ab.c
  go_wp2_with fail
  refine (unhide CK _ (unhide H0)).mono ?_
  rintro e w1 ⟨rfl, hb1⟩
  have H1 := hide ((unhide H0).below hb1)
  clear hb1 q0 q1
  obtain ⟨q0, q1⟩ := (unhide H1).ab.c
  go_wp2_with fail
  refine (unhide CN _).mono ?_
  rintro e w2 ⟨rfl, hw2⟩
  rw [hw2]
  clear hw2
  go_wp2_with fail
  refine (unhide CW _).mono ?_
  rintro e w3 ⟨rfl, hw3⟩
  rw [hw3]
  clear hw3
  go_wp2_with (refine wpList_store_row rfl 33 (.tmp 8) (.tmp 32) rfl (B + 1) #[.slice none 0 0, .slice none 0 0] rfl rfl 33 _ (unhide H1).z sizeArc rfl all_nil2 ?_)
  refine bodyPost_ret (results_row_tmp rfl _ _ (B + 1) 33 #[.slice none 0 0, .slice none 0 0] (0, 0) _ rfl ((unhide H1).end_ _).1 Tryz.underlying33 rfl sizeArc) rfl ⟨⟨_, _, rfl, ?_⟩, ((unhide H1).end_ _).2⟩
  exact OwnA.nil _ _
 | some d =>
  rw [if_neg (by rw [hdo]; simp)] at hput
  have hdl := dictO_len hra.sd hdo
  rw [hdo] at CW
  have CW := hide CW
  by_cases htx : 512 < text.length
  ·rw [if_pos htx] at hput
   have d1 : (512 : Int) < (text.length : Int) := by omega
   subst hput
   clear hnm hdo htx hra
   go_enter Tryz.func28, Tryz.ntmps28
   go_upto_region 1 with fail
   rw [← unhide HW0, ← unhide HB]
   obtain ⟨q0, q1⟩ := (unhide H0).ab.c
   go_wp2_with fail
   refine (unhide CK _ (unhide H0)).mono ?_
   rintro e w1 ⟨rfl, hb1⟩
   have H1 := hide ((unhide H0).below hb1)
   clear hb1 q0 q1
   obtain ⟨q0, q1⟩ := (unhide H1).ab.c
   go_wp2_with fail
   refine (unhide CN _).mono ?_
   rintro e w2 ⟨rfl, hw2⟩
   rw [hw2]
   clear hw2
   go_wp2_with fail
   refine (unhide CW _).mono ?_
   rintro e w3 ⟨rfl, hw3⟩
   rw [hw3]
   clear hw3
   go_wp2_with (refine wpList_store_row rfl 33 (.tmp 8) (.tmp 37) rfl (B + 1) #[.slice none 0 0, .slice none 0 0] rfl rfl 33 _ (unhide H1).z sizeArc rfl all_nil2 ?_)
   refine bodyPost_ret (results_row_tmp rfl _ _ (B + 1) 33 #[.slice none 0 0, .slice none 0 0] (0, 0) _ rfl ((unhide H1).end_ _).1 Tryz.underlying33 rfl sizeArc) rfl ⟨⟨_, _, rfl, ?_⟩, ((unhide H1).end_ _).2⟩
   exact OwnA.nil _ _
  rw [if_neg htx] at hput
  have d1 : ¬ (512 : Int) < (text.length : Int) := by omega
  have KP : ∀ W, Below B w W → Calls Tryz.prog 79 #[arcV A n cap A2 n2 cap2, S file, S text, I k] W fun e w' => e = .returned (filV (packedF a.ds file text k)) ∧ Below W.heap.size W w' := fun W hW => packedR_any A n cap A2 n2 cap2 a file text k d W ((unhide HI).up (by rw [← unhide HB]; exact hW)) (by omega) hdo hdl (by omega)
  obtain ⟨F, hF⟩ : ∃ F, F = packedF a.ds file text k := ⟨_, rfl⟩
  rw [← hF] at KP hput
  have HFN := hide (show F.name = file by rw [hF]; rfl)
  have KP := hide KP
  rw [← putGo_ins hra.fr.asc] at hput
  have HP := hide hput
  clear hnm hdo htx hra hput hF hdl
  go_enter Tryz.func28, Tryz.ntmps28
  go_upto_region 1 with fail
  rw [← unhide HW0, ← unhide HB]
  obtain ⟨q0, q1⟩ := (unhide H0).ab.c
  go_wp2_with fail
  refine (unhide CK _ (unhide H0)).mono ?_
  rintro e w1 ⟨rfl, hb1⟩
  have H1 := hide ((unhide H0).below hb1)
  clear hb1 q0 q1
  obtain ⟨q0, q1⟩ := (unhide H1).ab.c
  go_wp2_with fail
  refine (unhide CN _).mono ?_
  rintro e w2 ⟨rfl, hw2⟩
  rw [hw2]
  clear hw2
  go_wp2_with fail
  refine (unhide CW _).mono ?_
  rintro e w3 ⟨rfl, hw3⟩
  rw [hw3]
  clear hw3
  have HST := hide (unhide H1).ab.i.s
  obtain ⟨E, hE⟩ : ∃ E, E = w1.heap.size := ⟨_, rfl⟩
  have hBE : B + 1 < E := by rw [hE]; exact (unhide H1).lt
  have HE := hide hE
  have q2 : (w1.alloc (.cells #[] 9)).cell? ⟨B, 0, none⟩ = some (.slice A n cap) := ((unhide H1).below ((Below.refl _ _).alloc (Nat.le_refl _) _)).ab.c.1
  clear hE
  go_upto_region 11 with (first
   | (at_builtin; refine wpList_append_strs rfl (.tmp 38) (.tmp 40) rfl A n cap a.ds (unhide HST) (by omega) rfl rfl ?_; intro A' cap' w3 hown3 hb3; have HOWN3 := hide hown3; have HB3 := hide hb3; clear hown3 hb3)
   | (refine wpList_store_row rfl 33 (.tmp 11) (.tmp 42) rfl w3.heap.size #[.slice A' n cap', .slice none 0 0] rfl rfl 33 _ (heap_alloc_new _ _) sizeArc rfl (one_two _ _ _ _ _ _) ?_))
  obtain ⟨w5, hw5⟩ : ∃ w5, w5 = (w3.alloc (.cells #[.slice none 0 0, .slice none 0 0] 33)).setRow w3.heap.size #[.slice A' n cap', .slice none 0 0] := ⟨_, rfl⟩
  obtain ⟨P, hP⟩ : ∃ P, P = w3.heap.size := ⟨_, rfl⟩
  have S5 := hide (show CompS w w5 B E P #[.slice A n cap, .slice A2 n2 cap2] (.slice A' n cap') (.slice none 0 0) ⟨a.ds, []⟩ by
   have h3 := (unhide H1).below (unhide HB3)
   have hb5 : Below w3.heap.size w3 w5 := by rw [hw5]; exact below_setRow ((Below.refl _ _).alloc (Nat.le_refl _) _) (Nat.le_refl _) _
   have h5 := h3.below hb5
   refine ⟨h5.ab.o, h5.z, by rw [hw5, hP]; exact setRow_heap _ _ _ _ _ _ (heap_alloc_new _ _), ⟨?_, World.ownsRow_nil _ _ _ _⟩, hBE, by rw [hP, unhide HE]; exact (unhide HB3).size, h5.ab.bel⟩
   show w5.ownsRow E 9 1 (.slice A' n cap') a.ds.length _
   rw [hl1, unhide HE]
   exact own_below (unhide HOWN3) hb5)
  rw [← hw5, ← hP]
  clear hw5 hP q0 q1 q2
  obtain ⟨q0, q1, _, _⟩ := two_cells (unhide S5).b
  go_wp2_with fail
  go_loopw [12, 13] (fun dv iv wr => ∃ (i : Nat) (dn : Bool) (A3 : Option Addr) (c3 : Nat) (l : List Fil), i ≤ n2 ∧ iv = .int .i64 i ∧ dv = .bool dn ∧ l.length ≤ i + 1 ∧ (dn = false → l.length ≤ i) ∧ CompS w wr B E P #[.slice A n cap, .slice A2 n2 cap2] (.slice A' n cap') (.slice A3 l.length c3) ⟨a.ds, l⟩ ∧ putGo F false a.fs = l ++ putGo F dn (a.fs.drop i)) (fun _ iv _ => n2 - (intOf iv).toNat)
  case atStart => exact ⟨0, false, none, 0, [], Nat.zero_le _, rfl, rfl, by simp, fun _ => by simp, unhide S5, by simp⟩
  case round =>
   clear q0 q1
   obtain ⟨i, dn, A3, c3, l, hi, rfl, rfl, hll, hlf, hS, hgo⟩ := hrel
   have HS := hide hS
   obtain ⟨q0, q1, _, _⟩ := two_cells hS.b
   obtain ⟨p0, p1, p2, p3⟩ := hS.cells
   obtain ⟨m, hm⟩ : ∃ m, m = l.length := ⟨_, rfl⟩
   rw [← hm] at p1 hll hlf
   have hml := hm.symm
   have hof : wr.ownsRow E 61 5 (.slice A3 m c3) m (filsCells l) := by
    have := hS.o.f
    rw [← hm] at this
    exact this
   have HOF := hide hof
   rw [hml] at HS
   have HML := hide hml
   have hEs : E ≤ wr.heap.size := by have := hS.lt; have := hS.ep; omega
   by_cases hin2 : i < n2
   ·have hin := (unhide HI).up (by rw [← unhide HB]; exact hS.bel)
    obtain ⟨b, off, g, rfl, hb, hf, x0, x1, x2, x3, x4⟩ := hin.f.at_ (k := i) hin2
    rw [fils_drop hf] at hgo
    have z1 : (i : Int) < (n2 : Int) := by omega
    cases hls : lessB g.name file with
    | true =>
     have hnm2 : g.name ≠ file := by intro e; rw [e, lessB_irrefl] at hls; cases hls
     have s1 : Op.bytesLess g.name file = true := by rw [less_model]; exact hls
     have d2 : (g.name != file) = true := by rw [bne_iff_ne]; exact hnm2
     have d3 : (g.name == file) = false := by rw [beq_eq_false_iff_ne]; exact hnm2
     cases dn with
     | true =>
      have HGO2 := hide (show putGo F false a.fs = (l ++ [g]) ++ putGo F true (a.fs.drop (i + 1)) by rw [hgo, putGo_step, unhide HFN]; first | (simp [hls, hnm2]; done) | simp [hnm2, lessB_irrefl])
      clear hf hin hgo hS hof hm hml hls hnm2 hlf
      go_wp2_with fail
      go_region_law ((refine step_push_fil rfl (.tmp 81) (.tmp 87) rfl E _ (m) (l) rfl (by first | exact ((unhide HOF).alloc _) | exact ((unhide HOF).alloc _).drew | exact (unhide HOF).drew.alloc _) g wr.heap.size rfl (by first | exact heap_alloc_new _ _ | exact heap_alloc_new wr.drew _) (by omega) (by simp; omega) ?_; intro A9 c9 w9 hown9 hg9; have hpush9 := CompS.pushF (v2' := .slice A9 (m + 1) c9) (f := g) ((unhide HS).below (by first | exact (Below.refl _ _).alloc (Nat.le_refl _) _ | exact ((Below.refl _ _).alloc (Nat.le_refl _) _).drew | exact (Below.refl _ _).drew.alloc (Nat.le_refl _) _)) hg9 (by have h9 := unhide HML; show w9.ownsRow E 61 5 _ ((l).length + 1) _; rw [h9]; exact hown9); have HPUSH9 := hide hpush9; obtain ⟨y0, y1, y2, y3⟩ := two_cells hpush9.2.1; clear hown9 hg9 hpush9))
      all_goals
       go_wp2_with fail
       go_roundw
       case rel =>
        refine ⟨i + 1, true, A9, c9, l ++ [g], by omega, by go_num, rfl, by rw [List.length_append, unhide HML]; simp; omega, fun h => by first | (cases h; done) | (rw [List.length_append, unhide HML]; simp; omega), ?_, unhide HGO2⟩
        rw [show (l ++ [g]).length = m + 1 from by rw [List.length_append, unhide HML]; rfl]
        exact (unhide HPUSH9).1
       case measure => simp [intOf]; omega
     | false =>
      have hlf2 := hlf rfl
      have HGO2 := hide (show putGo F false a.fs = (l ++ [g]) ++ putGo F false (a.fs.drop (i + 1)) by rw [hgo, putGo_step, unhide HFN]; first | (simp [hls, hnm2]; done) | simp [hnm2, lessB_irrefl])
      clear hf hin hgo hS hof hm hml hls hnm2 hlf
      go_wp2_with fail
      go_region_law ((refine step_push_fil rfl (.tmp 81) (.tmp 87) rfl E _ (m) (l) rfl (by first | exact ((unhide HOF).alloc _) | exact ((unhide HOF).alloc _).drew | exact (unhide HOF).drew.alloc _) g wr.heap.size rfl (by first | exact heap_alloc_new _ _ | exact heap_alloc_new wr.drew _) (by omega) (by simp; omega) ?_; intro A9 c9 w9 hown9 hg9; have hpush9 := CompS.pushF (v2' := .slice A9 (m + 1) c9) (f := g) ((unhide HS).below (by first | exact (Below.refl _ _).alloc (Nat.le_refl _) _ | exact ((Below.refl _ _).alloc (Nat.le_refl _) _).drew | exact (Below.refl _ _).drew.alloc (Nat.le_refl _) _)) hg9 (by have h9 := unhide HML; show w9.ownsRow E 61 5 _ ((l).length + 1) _; rw [h9]; exact hown9); have HPUSH9 := hide hpush9; obtain ⟨y0, y1, y2, y3⟩ := two_cells hpush9.2.1; clear hown9 hg9 hpush9))
      all_goals
       go_wp2_with fail
       go_roundw
       case rel =>
        refine ⟨i + 1, false, A9, c9, l ++ [g], by omega, by go_num, rfl, by rw [List.length_append, unhide HML]; simp; omega, fun h => by first | (cases h; done) | (rw [List.length_append, unhide HML]; simp; omega), ?_, unhide HGO2⟩
        rw [show (l ++ [g]).length = m + 1 from by rw [List.length_append, unhide HML]; rfl]
        exact (unhide HPUSH9).1
       case measure => simp [intOf]; omega
    | false =>
     have s1 : Op.bytesLess g.name file = false := by rw [less_model]; exact hls
     cases dn with
     | true =>
      by_cases hnm2 : g.name = file
      ·have d2 : (g.name != file) = false := by rw [bne_eq_false_iff_eq]; exact hnm2
       have d3 : (g.name == file) = true := by rw [beq_iff_eq]; exact hnm2
       have HGO2 := hide (show putGo F false a.fs = (l) ++ putGo F true (a.fs.drop (i + 1)) by rw [hgo, putGo_step, unhide HFN]; first | (simp [hnm2]; done) | simp [hnm2, lessB_irrefl])
       clear hf hin hgo hS hof hm hml hls hnm2 hlf
       go_wp2_with fail
       go_roundw
       case rel =>
        refine ⟨i + 1, true, A3, c3, l, by omega, by go_num, rfl, by rw [unhide HML]; omega, fun h => by first | (cases h; done) | (rw [unhide HML]; omega), ?_, unhide HGO2⟩
        rw [unhide HML]
        exact unhide HS
       case measure => simp [intOf]; omega
      ·have d2 : (g.name != file) = true := by rw [bne_iff_ne]; exact hnm2
       have d3 : (g.name == file) = false := by rw [beq_eq_false_iff_ne]; exact hnm2
       have HGO2 := hide (show putGo F false a.fs = (l ++ [g]) ++ putGo F true (a.fs.drop (i + 1)) by rw [hgo, putGo_step, unhide HFN]; first | (simp [hls, hnm2]; done) | simp [hnm2, lessB_irrefl])
       clear hf hin hgo hS hof hm hml hls hnm2 hlf
       go_wp2_with fail
       go_region_law ((refine step_push_fil rfl (.tmp 81) (.tmp 87) rfl E _ (m) (l) rfl (by first | exact ((unhide HOF).alloc _) | exact ((unhide HOF).alloc _).drew | exact (unhide HOF).drew.alloc _) g wr.heap.size rfl (by first | exact heap_alloc_new _ _ | exact heap_alloc_new wr.drew _) (by omega) (by simp; omega) ?_; intro A9 c9 w9 hown9 hg9; have hpush9 := CompS.pushF (v2' := .slice A9 (m + 1) c9) (f := g) ((unhide HS).below (by first | exact (Below.refl _ _).alloc (Nat.le_refl _) _ | exact ((Below.refl _ _).alloc (Nat.le_refl _) _).drew | exact (Below.refl _ _).drew.alloc (Nat.le_refl _) _)) hg9 (by have h9 := unhide HML; show w9.ownsRow E 61 5 _ ((l).length + 1) _; rw [h9]; exact hown9); have HPUSH9 := hide hpush9; obtain ⟨y0, y1, y2, y3⟩ := two_cells hpush9.2.1; clear hown9 hg9 hpush9))
       all_goals
        go_wp2_with fail
        go_roundw
        case rel =>
         refine ⟨i + 1, true, A9, c9, l ++ [g], by omega, by go_num, rfl, by rw [List.length_append, unhide HML]; simp; omega, fun h => by first | (cases h; done) | (rw [List.length_append, unhide HML]; simp; omega), ?_, unhide HGO2⟩
         rw [show (l ++ [g]).length = m + 1 from by rw [List.length_append, unhide HML]; rfl]
         exact (unhide HPUSH9).1
        case measure => simp [intOf]; omega
     | false =>
      have hlf2 := hlf rfl
      have HFG := hide hf
      by_cases hnm2 : g.name = file
      ·have d2 : (g.name != file) = false := by rw [bne_eq_false_iff_eq]; exact hnm2
       have d3 : (g.name == file) = true := by rw [beq_iff_eq]; exact hnm2
       have HGO2 := hide (show putGo F false a.fs = (l ++ [F]) ++ putGo F true (a.fs.drop (i + 1)) by rw [hgo, putGo_step, unhide HFN]; first | (simp [hnm2]; done) | simp [hnm2, lessB_irrefl])
       clear hf hin hgo hS hof hm hml hls hnm2 hlf
       go_wp2_with fail
       go_region_law ((first
         | (refine step_call4 rfl 79 64 65 66 67 _ rfl (.agg #[.slice A n cap, .slice (some ⟨b, off, none⟩) n2 cap2]) (S file) (S text) (I k) (by simp) (by simp) (by simp) (by simp) packedR_enters ((unhide KP _ (by first | exact ((unhide HS).below (Below.refl _ _).drew).bel | exact (unhide HS).bel)).mono ?_); rintro e w4 ⟨rfl, hb4⟩; refine ⟨_, rfl, ?_⟩; have hbw4 : Below wr.heap.size wr w4 := (by first | exact (Below.refl _ _).drew.trans hb4 | exact hb4); have hs4 := (unhide HS).below hbw4; have HS4 := hide hs4; have HOF4 := hide (own_below (unhide HOF) hbw4); have p1' := hs4.cells.2.1; have HZ4 := hide hbw4.size; clear hbw4 hs4)
         | (refine step_push_fil rfl (.tmp 63) (.tmp 69) rfl E _ m l rfl (by first | exact ((unhide HOF4).alloc _) | exact ((unhide HOF4).alloc _).drew | exact (unhide HOF4).drew.alloc _) F w4.heap.size rfl (by first | exact heap_alloc_new _ _ | exact heap_alloc_new w4.drew _) (by omega) (by have h9 := unhide HZ4; simp; omega) ?_; intro A7 c7 w7 hown7 hg7; have hpush := CompS.pushF (v2' := .slice A7 (m + 1) c7) (f := F) ((unhide HS4).below (by first | exact (Below.refl _ _).alloc (Nat.le_refl _) _ | exact ((Below.refl _ _).alloc (Nat.le_refl _) _).drew | exact (Below.refl _ _).drew.alloc (Nat.le_refl _) _)) hg7 (by have h9 := unhide HML; show w7.ownsRow E 61 5 _ (l.length + 1) _; rw [h9]; exact hown7); have HPUSH := hide hpush; obtain ⟨u0, u1, u2, u3⟩ := two_cells hpush.2.1; clear hown7 hg7 hpush)))
       all_goals
        obtain ⟨w8, hw8⟩ : ∃ w8, w8 = w7.setCell ⟨P, 1, none⟩ (.slice A7 (m + 1) c7) := ⟨_, rfl⟩
        have hS8 : CompS w w8 B E P #[.slice A n cap, .slice (some ⟨b, off, none⟩) n2 cap2] (.slice A' n cap') (.slice A7 (m + 1) c7) ⟨a.ds, l ++ [F]⟩ := by rw [hw8]; exact (unhide HPUSH).1
        have HML8 := hide (show (l ++ [F]).length = m + 1 from by rw [List.length_append, unhide HML]; rfl)
        have HOF8 := hide (show w8.ownsRow E 61 5 (.slice A7 (m + 1) c7) (m + 1) (filsCells (l ++ [F])) by have := hS8.o.f; rw [show (⟨a.ds, l ++ [F]⟩ : Arc).fs.length = m + 1 from unhide HML8] at this; exact this)
        have HS8 := hide hS8
        have hEs8 : E ≤ w8.heap.size := by have := hS8.lt; have := hS8.ep; omega
        rw [← hw8]
        clear q0 q1 p0 p1 p2 p3 x0 x1 x2 x3 x4 u0 u1 u2 u3
        obtain ⟨q0, q1, _, _⟩ := two_cells hS8.b
        obtain ⟨p0, p1, p2, p3⟩ := hS8.cells
        have hin8 := (unhide HI).up (by rw [← unhide HB]; exact hS8.bel)
        obtain ⟨b9, off9, g9, he9, _, hf9, x0, x1, x2, x3, x4⟩ := hin8.f.at_ (k := i) hin2
        injection he9 with he9; injection he9 with he9a he9b _
        subst he9a; subst he9b
        obtain rfl : g = g9 := by have := (unhide HFG).symm.trans hf9; injection this with e
        clear hf9 hin8 hw8 hS8
        go_wp2_with fail
        go_roundw
        case rel =>
         refine ⟨i + 1, true, A7, c7, (l ++ [F]), by omega, by go_num, rfl, by rw [unhide HML8]; omega, fun h => by first | (cases h; done) | (rw [unhide HML8]; omega), ?_, unhide HGO2⟩
         rw [unhide HML8]
         exact unhide HS8
        case measure => simp [intOf]; omega
      ·have d2 : (g.name != file) = true := by rw [bne_iff_ne]; exact hnm2
       have d3 : (g.name == file) = false := by rw [beq_eq_false_iff_ne]; exact hnm2
       have HGO2 := hide (show putGo F false a.fs = ((l ++ [F]) ++ [g]) ++ putGo F true (a.fs.drop (i + 1)) by rw [hgo, putGo_step, unhide HFN]; first | (simp [hls, hnm2]; done) | simp [hnm2, lessB_irrefl])
       clear hf hin hgo hS hof hm hml hls hnm2 hlf
       go_wp2_with fail
       go_region_law ((first
         | (refine step_call4 rfl 79 64 65 66 67 _ rfl (.agg #[.slice A n cap, .slice (some ⟨b, off, none⟩) n2 cap2]) (S file) (S text) (I k) (by simp) (by simp) (by simp) (by simp) packedR_enters ((unhide KP _ (by first | exact ((unhide HS).below (Below.refl _ _).drew).bel | exact (unhide HS).bel)).mono ?_); rintro e w4 ⟨rfl, hb4⟩; refine ⟨_, rfl, ?_⟩; have hbw4 : Below wr.heap.size wr w4 := (by first | exact (Below.refl _ _).drew.trans hb4 | exact hb4); have hs4 := (unhide HS).below hbw4; have HS4 := hide hs4; have HOF4 := hide (own_below (unhide HOF) hbw4); have p1' := hs4.cells.2.1; have HZ4 := hide hbw4.size; clear hbw4 hs4)
         | (refine step_push_fil rfl (.tmp 63) (.tmp 69) rfl E _ m l rfl (by first | exact ((unhide HOF4).alloc _) | exact ((unhide HOF4).alloc _).drew | exact (unhide HOF4).drew.alloc _) F w4.heap.size rfl (by first | exact heap_alloc_new _ _ | exact heap_alloc_new w4.drew _) (by omega) (by have h9 := unhide HZ4; simp; omega) ?_; intro A7 c7 w7 hown7 hg7; have hpush := CompS.pushF (v2' := .slice A7 (m + 1) c7) (f := F) ((unhide HS4).below (by first | exact (Below.refl _ _).alloc (Nat.le_refl _) _ | exact ((Below.refl _ _).alloc (Nat.le_refl _) _).drew | exact (Below.refl _ _).drew.alloc (Nat.le_refl _) _)) hg7 (by have h9 := unhide HML; show w7.ownsRow E 61 5 _ (l.length + 1) _; rw [h9]; exact hown7); have HPUSH := hide hpush; obtain ⟨u0, u1, u2, u3⟩ := two_cells hpush.2.1; clear hown7 hg7 hpush)))
       all_goals
        obtain ⟨w8, hw8⟩ : ∃ w8, w8 = w7.setCell ⟨P, 1, none⟩ (.slice A7 (m + 1) c7) := ⟨_, rfl⟩
        have hS8 : CompS w w8 B E P #[.slice A n cap, .slice (some ⟨b, off, none⟩) n2 cap2] (.slice A' n cap') (.slice A7 (m + 1) c7) ⟨a.ds, l ++ [F]⟩ := by rw [hw8]; exact (unhide HPUSH).1
        have HML8 := hide (show (l ++ [F]).length = m + 1 from by rw [List.length_append, unhide HML]; rfl)
        have HOF8 := hide (show w8.ownsRow E 61 5 (.slice A7 (m + 1) c7) (m + 1) (filsCells (l ++ [F])) by have := hS8.o.f; rw [show (⟨a.ds, l ++ [F]⟩ : Arc).fs.length = m + 1 from unhide HML8] at this; exact this)
        have HS8 := hide hS8
        have hEs8 : E ≤ w8.heap.size := by have := hS8.lt; have := hS8.ep; omega
        rw [← hw8]
        clear q0 q1 p0 p1 p2 p3 x0 x1 x2 x3 x4 u0 u1 u2 u3
        obtain ⟨q0, q1, _, _⟩ := two_cells hS8.b
        obtain ⟨p0, p1, p2, p3⟩ := hS8.cells
        have hin8 := (unhide HI).up (by rw [← unhide HB]; exact hS8.bel)
        obtain ⟨b9, off9, g9, he9, _, hf9, x0, x1, x2, x3, x4⟩ := hin8.f.at_ (k := i) hin2
        injection he9 with he9; injection he9 with he9a he9b _
        subst he9a; subst he9b
        obtain rfl : g = g9 := by have := (unhide HFG).symm.trans hf9; injection this with e
        clear hf9 hin8 hw8 hS8
        go_wp2_with fail
        go_region_law ((refine step_push_fil rfl (.tmp 81) (.tmp 87) rfl E _ ((m + 1)) ((l ++ [F])) rfl (by first | exact ((unhide HOF8).alloc _) | exact ((unhide HOF8).alloc _).drew | exact (unhide HOF8).drew.alloc _) g w8.heap.size rfl (by first | exact heap_alloc_new _ _ | exact heap_alloc_new w8.drew _) (by omega) (by simp; omega) ?_; intro A9 c9 w9 hown9 hg9; have hpush9 := CompS.pushF (v2' := .slice A9 ((m + 1) + 1) c9) (f := g) ((unhide HS8).below (by first | exact (Below.refl _ _).alloc (Nat.le_refl _) _ | exact ((Below.refl _ _).alloc (Nat.le_refl _) _).drew | exact (Below.refl _ _).drew.alloc (Nat.le_refl _) _)) hg9 (by have h9 := unhide HML8; show w9.ownsRow E 61 5 _ (((l ++ [F])).length + 1) _; rw [h9]; exact hown9); have HPUSH9 := hide hpush9; obtain ⟨y0, y1, y2, y3⟩ := two_cells hpush9.2.1; clear hown9 hg9 hpush9))
        all_goals
         go_wp2_with fail
         go_roundw
         case rel =>
          refine ⟨i + 1, true, A9, c9, (l ++ [F]) ++ [g], by omega, by go_num, rfl, by rw [List.length_append, unhide HML8]; simp; omega, fun h => by first | (cases h; done) | (rw [List.length_append, unhide HML8]; simp; omega), ?_, unhide HGO2⟩
          rw [show ((l ++ [F]) ++ [g]).length = (m + 1) + 1 from by rw [List.length_append, unhide HML8]; rfl]
          exact (unhide HPUSH9).1
         case measure => simp [intOf]; omega
   ·have hdr : a.fs.drop i = [] := List.drop_of_length_le (by omega)
    rw [hdr] at hgo
    have z1 : ¬ (i : Int) < (n2 : Int) := by omega
    have z2 : decide ((i : Int) < (n2 : Int)) = false := by simp; omega
    cases dn with
    | true =>
     have HGO3 := hide (show putGo F false a.fs = l by rw [hgo]; simp [putGo])
     clear hdr hgo hS hof hm hml hlf
     have hSf := unhide HS
     by_cases h13 : 12 < m
     ·have HR := hide (show r = (arc0, 2) by rw [unhide HP, if_pos (by rw [unhide HGO3, unhide HML]; exact h13)])
      have c1 : (12 : Int) < ((m : Nat) : Int) := by omega
      have e1 := setRow_heap _ (B + 1) _ #[.slice none 0 0, .slice none 0 0] _ _ hSf.z
      have e3 := below_setRow hSf.bel (show B ≤ B + 1 by omega) #[.slice none 0 0, .slice none 0 0]
      have E1 := hide e1
      have E3 := hide e3
      have HZR := hide hSf.z
      clear hSf e1 e3
      go_wp2_with (refine wpList_store_row rfl 33 (.tmp 8) (.tmp 106) rfl (B + 1) #[.slice none 0 0, .slice none 0 0] rfl rfl 33 _ (unhide HZR) sizeArc rfl all_nil2 ?_)
      refine bodyPost_ret (results_row_tmp rfl _ _ (B + 1) 33 #[.slice none 0 0, .slice none 0 0] (0, 0) _ rfl (unhide E1) Tryz.underlying33 rfl sizeArc) rfl ?_
      rw [unhide HR]
      exact ⟨⟨_, _, rfl, OwnA.nil _ _⟩, unhide E3⟩
     ·have HR := hide (show r = (⟨a.ds, l⟩, 0) by rw [unhide HP, if_neg (by rw [unhide HGO3, unhide HML]; exact h13), unhide HGO3])
      have c1 : ¬ (12 : Int) < ((m : Nat) : Int) := by omega
      obtain ⟨e1, e2, e3⟩ := put_end hSf.z hSf.be hSf.o hSf.bel
      have E1 := hide e1
      have E2 := hide e2
      have E3 := hide e3
      have HZR := hide hSf.z
      clear hSf e1 e2 e3
      go_wp2_with (refine wpList_store_row rfl 33 (.tmp 8) (.tmp 107) rfl (B + 1) #[.slice A' n cap', .slice A3 (m) c3] rfl rfl 33 _ (unhide HZR) sizeArc rfl (one_two _ _ _ _ _ _) ?_)
      refine bodyPost_ret (results_row_tmp rfl _ _ (B + 1) 33 #[.slice A' n cap', .slice A3 (m) c3] (0, 0) _ rfl (unhide E1) Tryz.underlying33 rfl sizeArc) rfl ?_
      rw [unhide HR]
      exact ⟨⟨_, _, rfl, unhide E2⟩, unhide E3⟩
    | false =>
     have hlf2 := hlf rfl
     have HGO3 := hide (show putGo F false a.fs = l ++ [F] by rw [hgo]; simp [putGo])
     clear hdr hgo hS hof hm hml hlf
     go_wp2_with fail
     go_region_law ((first
       | (refine step_call4 rfl 79 94 95 96 97 _ rfl (.agg #[.slice A n cap, .slice A2 n2 cap2]) (S file) (S text) (I k) (by simp) (by simp) (by simp) (by simp) packedR_enters ((unhide KP _ (by first | exact ((unhide HS).below (Below.refl _ _).drew).bel | exact (unhide HS).bel)).mono ?_); rintro e w4 ⟨rfl, hb4⟩; refine ⟨_, rfl, ?_⟩; have hbw4 : Below wr.heap.size wr w4 := (by first | exact (Below.refl _ _).drew.trans hb4 | exact hb4); have hs4 := (unhide HS).below hbw4; have HS4 := hide hs4; have HOF4 := hide (own_below (unhide HOF) hbw4); have p1' := hs4.cells.2.1; have HZ4 := hide hbw4.size; clear hbw4 hs4)
       | (refine step_push_fil rfl (.tmp 93) (.tmp 99) rfl E _ m l rfl (by first | exact ((unhide HOF4).alloc _) | exact ((unhide HOF4).alloc _).drew | exact (unhide HOF4).drew.alloc _) F w4.heap.size rfl (by first | exact heap_alloc_new _ _ | exact heap_alloc_new w4.drew _) (by omega) (by have h9 := unhide HZ4; simp; omega) ?_; intro A7 c7 w7 hown7 hg7; have hpush := CompS.pushF (v2' := .slice A7 (m + 1) c7) (f := F) ((unhide HS4).below (by first | exact (Below.refl _ _).alloc (Nat.le_refl _) _ | exact ((Below.refl _ _).alloc (Nat.le_refl _) _).drew | exact (Below.refl _ _).drew.alloc (Nat.le_refl _) _)) hg7 (by have h9 := unhide HML; show w7.ownsRow E 61 5 _ (l.length + 1) _; rw [h9]; exact hown7); have HPUSH := hide hpush; obtain ⟨u0, u1, u2, u3⟩ := two_cells hpush.2.1; clear hown7 hg7 hpush)))
     all_goals
      obtain ⟨w8, hw8⟩ : ∃ w8, w8 = w7.setCell ⟨P, 1, none⟩ (.slice A7 (m + 1) c7) := ⟨_, rfl⟩
      have hS8 : CompS w w8 B E P #[.slice A n cap, .slice A2 n2 cap2] (.slice A' n cap') (.slice A7 (m + 1) c7) ⟨a.ds, l ++ [F]⟩ := by rw [hw8]; exact (unhide HPUSH).1
      have HML8 := hide (show (l ++ [F]).length = m + 1 from by rw [List.length_append, unhide HML]; rfl)
      have HS8 := hide hS8
      rw [← hw8]
      clear q0 q1 p0 p1 p2 p3 u0 u1 u2 u3
      obtain ⟨q0, q1, _, _⟩ := two_cells hS8.b
      obtain ⟨p0, p1, p2, p3⟩ := hS8.cells
      clear hw8 hS8
      have hSf := unhide HS8
      by_cases h13 : 12 < (m + 1)
      ·have HR := hide (show r = (arc0, 2) by rw [unhide HP, if_pos (by rw [unhide HGO3, unhide HML8]; exact h13)])
       have c1 : (12 : Int) < (((m + 1) : Nat) : Int) := by omega
       have e1 := setRow_heap _ (B + 1) _ #[.slice none 0 0, .slice none 0 0] _ _ hSf.z
       have e3 := below_setRow hSf.bel (show B ≤ B + 1 by omega) #[.slice none 0 0, .slice none 0 0]
       have E1 := hide e1
       have E3 := hide e3
       have HZR := hide hSf.z
       clear hSf e1 e3
       go_wp2_with (refine wpList_store_row rfl 33 (.tmp 8) (.tmp 106) rfl (B + 1) #[.slice none 0 0, .slice none 0 0] rfl rfl 33 _ (unhide HZR) sizeArc rfl all_nil2 ?_)
       refine bodyPost_ret (results_row_tmp rfl _ _ (B + 1) 33 #[.slice none 0 0, .slice none 0 0] (0, 0) _ rfl (unhide E1) Tryz.underlying33 rfl sizeArc) rfl ?_
       rw [unhide HR]
       exact ⟨⟨_, _, rfl, OwnA.nil _ _⟩, unhide E3⟩
      ·have HR := hide (show r = (⟨a.ds, l ++ [F]⟩, 0) by rw [unhide HP, if_neg (by rw [unhide HGO3, unhide HML8]; exact h13), unhide HGO3])
       have c1 : ¬ (12 : Int) < (((m + 1) : Nat) : Int) := by omega
       obtain ⟨e1, e2, e3⟩ := put_end hSf.z hSf.be hSf.o hSf.bel
       have E1 := hide e1
       have E2 := hide e2
       have E3 := hide e3
       have HZR := hide hSf.z
       clear hSf e1 e2 e3
       go_wp2_with (refine wpList_store_row rfl 33 (.tmp 8) (.tmp 107) rfl (B + 1) #[.slice A' n cap', .slice A7 ((m + 1)) c7] rfl rfl 33 _ (unhide HZR) sizeArc rfl (one_two _ _ _ _ _ _) ?_)
       refine bodyPost_ret (results_row_tmp rfl _ _ (B + 1) 33 #[.slice A' n cap', .slice A7 ((m + 1)) c7] (0, 0) _ rfl (unhide E1) Tryz.underlying33 rfl sizeArc) rfl ?_
       rw [unhide HR]
       exact ⟨⟨_, _, rfl, unhide E2⟩, unhide E3⟩
end Go.Proofs.YtjpgoeimclipjaaGreat
namespace Go.Proofs.YtjpgoeimclipjaaGreat
open Go.RowKit Go.Lib Pl
attribute [local go_sem] ext_list app_list
attribute [local go_sem] World.cell?_alloc_some in
set_option maxHeartbeats 8000000 in
set_option maxRecDepth 100000 in
theorem dropOf_any (A : Option Addr) (n cap : Nat) (A2 : Option Addr) (n2 cap2 : Nat) (a : Arc) (file : Bytes) (w : World) (h : ArcIn w A n A2 n2 a) (hz : ArcSz a) :
  Calls Tryz.prog 29 #[arcV A n cap A2 n2 cap2, S file] w fun e w' => ArcRes w.heap.size (drop a file) e w' ∧ Below w.heap.size w w' := by
 obtain ⟨B, hB⟩ : ∃ B, B = w.heap.size := ⟨_, rfl⟩
 obtain ⟨w0, hw0⟩ : ∃ w0, w0 = (w.alloc (.cells #[.slice A n cap, .slice A2 n2 cap2] 33)).alloc (.cells #[.slice none 0 0, .slice none 0 0] 33) := ⟨_, rfl⟩
 have H0 := hide (show AR A n cap A2 n2 cap2 a w w0 B by rw [hw0, hB]; exact AR.new h cap cap2)
 have hl1 := h.s.1
 have hl2 := h.f.1
 have CK : ∀ W, AR A n cap A2 n2 cap2 a w W B → Calls Tryz.prog 32 #[arcV A n cap A2 n2 cap2] W fun e w' => e = .returned (I (checkA a)) ∧ Below W.heap.size W w' := fun W hW => checkArchive_any A n cap A2 n2 cap2 a W hW.ab.i hz
 obtain ⟨r, hr⟩ : ∃ r, r = drop a file := ⟨_, rfl⟩
 rw [← hr, ← hB]
 have hput : r = if checkA a ≠ 0 then (arc0, checkA a) else if findF file a.fs = none then (arc0, 5) else (⟨a.ds, a.fs.filter fun f => decide (f.name ≠ file)⟩, 0) := hr
 have HB := hide hB
 have HW0 := hide hw0
 have HI := hide h
 clear hB hw0 h hr hz
 by_cases hck : checkA a ≠ 0
 ·rw [if_pos hck] at hput
  obtain ⟨c, hc⟩ : ∃ c, c = checkA a := ⟨_, rfl⟩
  rw [← hc] at CK hput hck
  have CK := hide CK
  have d1 : ((c : Int) != 0) = true := by rw [bne_iff_ne]; omega
  have d2 : ((c : Int) == 0) = false := by rw [beq_eq_false_iff_ne]; omega
  have d3 : ¬ (c : Int) = 0 := by omega
  subst hput
  clear hck hc
  go_enter Tryz.func29, Tryz.ntmps29
  go_upto_region 1 with fail
  rw [← unhide HW0, ← unhide HB]
  obtain ⟨q0, q1⟩ := (unhide H0).ab.c
  go_wp2_with fail
  refine (unhide CK _ (unhide H0)).mono ?_
  rintro e w1 ⟨rfl, hb1⟩
  have H1 := hide ((unhide H0).below hb1)
  clear hb1 q0 q1
  go_wp2_with (refine wpList_store_row rfl 33 (.tmp 4) (.tmp 13) rfl (B + 1) #[.slice none 0 0, .slice none 0 0] rfl rfl 33 _ (unhide H1).z sizeArc rfl all_nil2 ?_)
  refine bodyPost_ret (results_row_tmp rfl _ _ (B + 1) 33 #[.slice none 0 0, .slice none 0 0] (0, 0) _ rfl ((unhide H1).end_ _).1 Tryz.underlying33 rfl sizeArc) rfl ⟨⟨_, _, rfl, ?_⟩, ((unhide H1).end_ _).2⟩
  exact OwnA.nil _ _
 have hck0 : checkA a = 0 := Decidable.not_not.1 hck
 have hra := (check_iff a).1 hck0
 rw [if_neg hck] at hput
 rw [hck0] at CK
 have CK := hide CK
 have h12 := hra.nf
 have h4 := hra.nd
 have CF : ∀ W, AR A n cap A2 n2 cap2 a w W B → Calls Tryz.prog 80 #[arcV A n cap A2 n2 cap2, S file] W fun e w' => ((findF file a.fs = none ∧ e = .returned (I (-1))) ∨ (∃ i f, a.fs[i]? = some f ∧ findF file a.fs = some f ∧ e = .returned (I (i : Nat)))) ∧ Below W.heap.size W w' := fun W hW => fileAt_any A n cap A2 n2 cap2 a file W hW.ab.i (by omega)
 have CF := hide CF
 clear hck hck0 hra
 have HPUT := hide hput
 clear hput
 go_enter Tryz.func29, Tryz.ntmps29
 go_upto_region 1 with fail
 rw [← unhide HW0, ← unhide HB]
 obtain ⟨q0, q1⟩ := (unhide H0).ab.c
 go_wp2_with fail
 refine (unhide CK _ (unhide H0)).mono ?_
 rintro e w1 ⟨rfl, hb1⟩
 have H1 := hide ((unhide H0).below hb1)
 clear hb1 q0 q1
 obtain ⟨q0, q1⟩ := (unhide H1).ab.c
 go_wp2_with fail
 refine (unhide CF _ (unhide H1)).mono ?_
 rintro e w2 ⟨hres, hb2⟩
 have H2 := hide ((unhide H1).below hb2)
 clear hb2 q0 q1
 obtain ⟨q0, q1⟩ := (unhide H2).ab.c
 rcases hres with ⟨hnone, rfl⟩ | ⟨i0, f0, _, hsome, rfl⟩
 ·have HR := hide (show r = (arc0, 5) by rw [unhide HPUT, if_pos hnone])
  clear hnone
  go_wp2_with (refine wpList_store_row rfl 33 (.tmp 4) (.tmp 19) rfl (B + 1) #[.slice none 0 0, .slice none 0 0] rfl rfl 33 _ (unhide H2).z sizeArc rfl all_nil2 ?_)
  refine bodyPost_ret (results_row_tmp rfl _ _ (B + 1) 33 #[.slice none 0 0, .slice none 0 0] (0, 0) _ rfl ((unhide H2).end_ _).1 Tryz.underlying33 rfl sizeArc) rfl ?_
  rw [unhide HR]
  exact ⟨⟨_, _, rfl, OwnA.nil _ _⟩, ((unhide H2).end_ _).2⟩
 have HR := hide (show r = (⟨a.ds, a.fs.filter fun f => decide (f.name ≠ file)⟩, 0) by rw [unhide HPUT, if_neg (by rw [hsome]; simp)])
 have d1 : ¬ (i0 : Int) < 0 := by omega
 have hst := (unhide H2).ab.i.s
 have HST := hide hst
 obtain ⟨E, hE⟩ : ∃ E, E = w2.heap.size := ⟨_, rfl⟩
 have hBE : B + 1 < E := by rw [hE]; exact (unhide H2).lt
 have q2 : (w2.alloc (.cells #[] 9)).cell? ⟨B, 0, none⟩ = some (.slice A n cap) := ((unhide H2).below ((Below.refl _ _).alloc (Nat.le_refl _) _)).ab.c.1
 have HE := hide hE
 clear hsome HPUT hst hE
 go_upto_region 7 with (first
  | (at_builtin; refine wpList_append_strs rfl (.tmp 20) (.tmp 22) rfl A n cap a.ds (unhide HST) (by omega) rfl rfl ?_; intro A' cap' w3 hown3 hb3; have HOWN3 := hide hown3; have HB3 := hide hb3; clear hown3 hb3)
  | (refine wpList_store_row rfl 33 (.tmp 7) (.tmp 24) rfl w3.heap.size #[.slice A' n cap', .slice none 0 0] rfl rfl 33 _ (heap_alloc_new _ _) sizeArc rfl (one_two _ _ _ _ _ _) ?_))
 obtain ⟨w5, hw5⟩ : ∃ w5, w5 = (w3.alloc (.cells #[.slice none 0 0, .slice none 0 0] 33)).setRow w3.heap.size #[.slice A' n cap', .slice none 0 0] := ⟨_, rfl⟩
 obtain ⟨P, hP⟩ : ∃ P, P = w3.heap.size := ⟨_, rfl⟩
 have S5 := hide (show CompS w w5 B E P #[.slice A n cap, .slice A2 n2 cap2] (.slice A' n cap') (.slice none 0 0) ⟨a.ds, []⟩ by
  have h3 := (unhide H2).below (unhide HB3)
  have hb5 : Below w3.heap.size w3 w5 := by rw [hw5]; exact below_setRow ((Below.refl _ _).alloc (Nat.le_refl _) _) (Nat.le_refl _) _
  have h5 := h3.below hb5
  refine ⟨h5.ab.o, h5.z, by rw [hw5, hP]; exact setRow_heap _ _ _ _ _ _ (heap_alloc_new _ _), ⟨?_, World.ownsRow_nil _ _ _ _⟩, hBE, by rw [hP, unhide HE]; exact (unhide HB3).size, h5.ab.bel⟩
  show w5.ownsRow E 9 1 (.slice A' n cap') a.ds.length _
  rw [hl1, unhide HE]
  exact own_below (unhide HOWN3) hb5)
 rw [← hw5, ← hP]
 clear hw5 hP q0 q1 q2
 obtain ⟨q0, q1, _, _⟩ := two_cells (unhide S5).b
 go_wp2_with fail
 go_loopw [8] (fun iv wr => ∃ (k : Nat) (A3 : Option Addr) (c3 : Nat), k ≤ n2 ∧ iv = .int .i64 k ∧ CompS w wr B E P #[.slice A n cap, .slice A2 n2 cap2] (.slice A' n cap') (.slice A3 ((a.fs.take k).filter fun f => decide (f.name ≠ file)).length c3) ⟨a.ds, (a.fs.take k).filter fun f => decide (f.name ≠ file)⟩) (fun iv _ => n2 - (intOf iv).toNat)
 case atStart => exact ⟨0, none, 0, Nat.zero_le _, rfl, unhide S5⟩
 case round =>
  clear q0 q1
  obtain ⟨k, A3, c3, hk, rfl, hS⟩ := hrel
  have HS := hide hS
  obtain ⟨q0, q1, _, _⟩ := two_cells hS.b
  obtain ⟨p0, p1, p2, p3⟩ := hS.cells
  by_cases hkn : k < n2
  ·have hin := (unhide HI).up (by rw [← unhide HB]; exact hS.bel)
   obtain ⟨b, off, f, rfl, hb, hf, x0, x1, x2, x3, x4⟩ := hin.f.at_ (k := k) hkn
   have hft : (a.fs.take (k + 1)).filter (fun f => decide (f.name ≠ file)) = (a.fs.take k).filter (fun f => decide (f.name ≠ file)) ++ if f.name = file then [] else [f] := by
    rw [List.take_add_one, hf, List.filter_append]
    by_cases e : f.name = file
    ·simp [e]
    ·simp [e]
   have z1 : (k : Int) < (n2 : Int) := by omega
   by_cases hnm : f.name = file
   ·rw [if_pos hnm, List.append_nil] at hft
    have HFT := hide hft
    have d2 : (f.name != file) = false := by rw [bne_eq_false_iff_eq]; exact hnm
    have d3 : (f.name == file) = true := by rw [beq_iff_eq]; exact hnm
    clear hft hnm hin hf hS
    go_wp2_with fail
    go_roundw
    case rel => exact ⟨k + 1, A3, c3, by omega, by go_num, by rw [unhide HFT]; exact unhide HS⟩
    case measure => simp [intOf]; omega
   ·rw [if_neg hnm] at hft
    have HFT := hide hft
    have d2 : (f.name != file) = true := by rw [bne_iff_ne]; exact hnm
    have d3 : (f.name == file) = false := by rw [beq_eq_false_iff_ne]; exact hnm
    obtain ⟨m, hm⟩ : ∃ m, m = ((a.fs.take k).filter fun f => decide (f.name ≠ file)).length := ⟨_, rfl⟩
    have hm12 : m ≤ 12 := by
     rw [hm]
     have := List.length_filter_le (fun f : Fil => decide (f.name ≠ file)) (a.fs.take k)
     rw [List.length_take] at this
     omega
    obtain ⟨l, hl⟩ : ∃ l, l = (a.fs.take k).filter fun f => decide (f.name ≠ file) := ⟨_, rfl⟩
    rw [← hl] at hm HFT HS hS
    rw [← hl, ← hm] at p1
    have hml := hm.symm
    have hof : wr.ownsRow E 61 5 (.slice A3 m c3) m (filsCells l) := by
     have := hS.o.f
     rw [← hm] at this
     exact this
    have HOF := hide hof
    rw [hml] at HS
    have HML := hide hml
    have hEs : E ≤ wr.heap.size := by have := hS.lt; have := hS.ep; omega
    clear hft hnm hin hf hS hof hl hm hml
    go_wp2_with fail
    go_region_law ((refine step_push_fil rfl (.tmp 41) (.tmp 47) rfl E _ m l rfl (by first | exact ((unhide HOF).alloc _) | exact ((unhide HOF).alloc _).drew | exact (unhide HOF).drew.alloc _) f wr.heap.size rfl (by first | exact heap_alloc_new _ _ | exact heap_alloc_new wr.drew _) (by omega) (by simp; omega) ?_; intro A7 c7 w7 hown7 hg7; have hpush := CompS.pushF (v2' := .slice A7 (m + 1) c7) (f := f) ((unhide HS).below (by first | exact (Below.refl _ _).alloc (Nat.le_refl _) _ | exact ((Below.refl _ _).alloc (Nat.le_refl _) _).drew | exact (Below.refl _ _).drew.alloc (Nat.le_refl _) _)) hg7 (by have h9 := unhide HML; show w7.ownsRow E 61 5 _ (l.length + 1) _; rw [h9]; exact hown7); have HPUSH := hide hpush; obtain ⟨u0, u1, u2, u3⟩ := two_cells hpush.2.1; clear hown7 hg7 hpush))
    all_goals
     go_wp2_with fail
     go_roundw
     case rel =>
      refine ⟨k + 1, A7, c7, by omega, by go_num, ?_⟩
      rw [unhide HFT, show (l ++ [f]).length = m + 1 from by rw [List.length_append, unhide HML]; rfl]
      exact (unhide HPUSH).1
     case measure => simp [intOf]; omega
  ·have hall : a.fs.take k = a.fs := List.take_of_length_le (by omega)
   rw [hall] at hS p1
   obtain ⟨m, hm⟩ : ∃ m, m = (a.fs.filter fun f => decide (f.name ≠ file)).length := ⟨_, rfl⟩
   rw [← hm] at p1
   have hend := put_end hS.z hS.be hS.o hS.bel
   rw [← hm] at hend
   obtain ⟨e1, e2, e3⟩ := hend
   have E1 := hide e1
   have E2 := hide e2
   have E3 := hide e3
   have HZR := hide hS.z
   have z1 : ¬ (k : Int) < (n2 : Int) := by omega
   have z2 : decide ((k : Int) < (n2 : Int)) = false := by simp; omega
   clear hall hS HS e1 e2 e3 hm
   go_wp2_with (refine wpList_store_row rfl 33 (.tmp 4) (.tmp 50) rfl (B + 1) #[.slice A' n cap', .slice A3 m c3] rfl rfl 33 _ (unhide HZR) sizeArc rfl (one_two _ _ _ _ _ _) ?_)
   refine bodyPost_ret (results_row_tmp rfl _ _ (B + 1) 33 #[.slice A' n cap', .slice A3 m c3] (0, 0) _ rfl (unhide E1) Tryz.underlying33 rfl sizeArc) rfl ?_
   rw [unhide HR]
   exact ⟨⟨_, _, rfl, unhide E2⟩, unhide E3⟩
end Go.Proofs.YtjpgoeimclipjaaGreat
namespace Go.Proofs.YtjpgoeimclipjaaGreat
open Go.RowKit Go.Lib Pl
attribute [local go_sem] ext_list app_list
set_option maxHeartbeats 8000000 in
set_option maxRecDepth 100000 in
theorem archPuts_any (A : Option Addr) (n cap : Nat) (A2 : Option Addr) (n2 cap2 : Nat) (a : Arc) (file text : Bytes) (k : Int) (w : World) (h : ArcIn w A n A2 n2 a) (hz : ArcSz a) (hfl : file.length ≤ 140737488355328) (htl : text.length ≤ 9223372036854775807) (hk0 : -9223372036854775808 ≤ k) (hk1 : k ≤ 9223372036854775807) (hm : MaxLenIs w) :
  Calls Tryz.prog 6 #[arcV A n cap A2 n2 cap2, S file, S text, I k] w fun e w' => e = .returned (.bool true) ∧ Below w.heap.size w w' := by
 obtain ⟨r1, hr1⟩ : ∃ r1, r1 = put a file text k := ⟨_, rfl⟩
 obtain ⟨r2, hr2⟩ : ∃ r2, r2 = drop a file := ⟨_, rfl⟩
 have CP := fun (W : World) (hi : ArcIn W A n A2 n2 a) => put_any A n cap A2 n2 cap2 a file text k W hi hz hfl htl hk0 hk1
 have CD := fun (W : World) (hi : ArcIn W A n A2 n2 a) => drop_any A n cap A2 n2 cap2 a file W hi hz
 have CP2 := fun (W : World) (hi : ArcIn W A n A2 n2 a) => putOf_any A n cap A2 n2 cap2 a file text k W hi hz hfl htl
 have CD2 := fun (W : World) (hi : ArcIn W A n A2 n2 a) => dropOf_any A n cap A2 n2 cap2 a file W hi hz
 have CK := fun (W : World) (hi : ArcIn W A n A2 n2 a) => check_arch A n cap A2 n2 cap2 a W hi hz
 have CK2 := fun (W : World) (hi : ArcIn W A n A2 n2 a) => checkArchive_any A n cap A2 n2 cap2 a W hi hz
 have hra1 := put_ra a file text k
 have hra2 := drop_ra a file
 rw [← hr1] at CP CP2 hra1
 rw [← hr2] at CD CD2 hra2
 obtain ⟨c, hc⟩ : ∃ c, c = checkA a := ⟨_, rfl⟩
 rw [← hc] at CK CK2
 have CP := hide CP
 have CD := hide CD
 have CP2 := hide CP2
 have CD2 := hide CD2
 have CK := hide CK
 have CK2 := hide CK2
 have hnd1 := hra1.nd
 have hnf1 := hra1.nf
 have hnd2 := hra2.nd
 have hnf2 := hra2.nf
 clear hr1 hr2 hc hz hra1 hra2
 obtain ⟨B, hB⟩ : ∃ B, B = w.heap.size := ⟨_, rfl⟩
 obtain ⟨w0, hw0⟩ : ∃ w0, w0 = w.alloc (.cells #[.slice A n cap, .slice A2 n2 cap2] 33) := ⟨_, rfl⟩
 have H0 := hide (show St w w0 B [⟨B, A, n, cap, A2, n2, cap2, a⟩] by rw [hw0, hB]; exact St.box h cap cap2)
 have HB := hide hB
 have HW0 := hide hw0
 have HM := hide hm
 rw [← hB]
 clear hB hw0 hm
 go_enter Tryz.func6, Tryz.ntmps6
 go_upto_region 1 with fail
 rw [← unhide HW0, ← unhide HB]
 have u0x0 : w0.cell? ⟨B, 0, none⟩ = some (.slice A n cap) := (unhide H0).c0 0 rfl
 have v0x0 : w0.cell? ⟨B, 1, none⟩ = some (.slice A2 n2 cap2) := (unhide H0).c1 0 rfl
 go_wp2_with fail
 refine (unhide CP _ ((unhide H0).at_ 0 rfl).i).mono ?_
 rintro e w1 ⟨hr1, hb1⟩
 obtain ⟨Ra1, na1, ca1, Rb1, nb1, cb1, rfl, hi1, hc1, ho1⟩ := hr1.open
 have H1 := hide ((unhide H0).below hb1)
 have HI1 := hide hi1
 have HC1 := hide hc1
 have HO1 := hide ho1
 clear hb1 hi1 hc1 hr1 ho1
 go_upto_region 2 with (refine wpList_store_row rfl 33 (.tmp 9) (.tmp 23) rfl w1.heap.size #[.slice Ra1 na1 ca1, .slice Rb1 nb1 cb1] rfl rfl 33 _ (heap_alloc_new _ _) sizeArc rfl (one_two _ _ _ _ _ _) ?_)
 obtain ⟨x1, hx1⟩ : ∃ x, x = (w1.alloc (.cells #[.slice none 0 0, .slice none 0 0] 33)).setRow w1.heap.size #[.slice Ra1 na1 ca1, .slice Rb1 nb1 cb1] := ⟨_, rfl⟩
 obtain ⟨P1, hP1⟩ : ∃ P, P = w1.heap.size := ⟨_, rfl⟩
 have G1 := hide (show St w x1 B [⟨P1, Ra1, na1, ca1, Rb1, nb1, cb1, r1.1⟩, ⟨B, A, n, cap, A2, n2, cap2, a⟩] by rw [hx1, hP1]; exact (unhide H1).new (unhide HI1) ca1 cb1)
 rw [← hx1, ← hP1]
 clear hx1 hP1
 clear u0x0 v0x0
 have u1x0 : x1.cell? ⟨P1, 0, none⟩ = some (.slice Ra1 na1 ca1) := (unhide G1).c0 0 rfl
 have v1x0 : x1.cell? ⟨P1, 1, none⟩ = some (.slice Rb1 nb1 cb1) := (unhide G1).c1 0 rfl
 have u1x1 : x1.cell? ⟨B, 0, none⟩ = some (.slice A n cap) := (unhide G1).c0 1 rfl
 have v1x1 : x1.cell? ⟨B, 1, none⟩ = some (.slice A2 n2 cap2) := (unhide G1).c1 1 rfl
 go_wp2_with fail
 refine (unhide CD _ ((unhide G1).at_ 1 rfl).i).mono ?_
 rintro e w2 ⟨hr2, hb2⟩
 obtain ⟨Ra2, na2, ca2, Rb2, nb2, cb2, rfl, hi2, hc2, ho2⟩ := hr2.open
 have H2 := hide ((unhide G1).below hb2)
 have HI2 := hide hi2
 have HC2 := hide hc2
 have HO2 := hide ho2
 clear hb2 hi2 hc2 hr2 ho2
 go_upto_region 3 with (refine wpList_store_row rfl 33 (.tmp 11) (.tmp 29) rfl w2.heap.size #[.slice Ra2 na2 ca2, .slice Rb2 nb2 cb2] rfl rfl 33 _ (heap_alloc_new _ _) sizeArc rfl (one_two _ _ _ _ _ _) ?_)
 obtain ⟨x2, hx2⟩ : ∃ x, x = (w2.alloc (.cells #[.slice none 0 0, .slice none 0 0] 33)).setRow w2.heap.size #[.slice Ra2 na2 ca2, .slice Rb2 nb2 cb2] := ⟨_, rfl⟩
 obtain ⟨P2, hP2⟩ : ∃ P, P = w2.heap.size := ⟨_, rfl⟩
 have G2 := hide (show St w x2 B [⟨P2, Ra2, na2, ca2, Rb2, nb2, cb2, r2.1⟩, ⟨P1, Ra1, na1, ca1, Rb1, nb1, cb1, r1.1⟩, ⟨B, A, n, cap, A2, n2, cap2, a⟩] by rw [hx2, hP2]; exact (unhide H2).new (unhide HI2) ca2 cb2)
 rw [← hx2, ← hP2]
 clear hx2 hP2
 clear u1x0 v1x0 u1x1 v1x1
 have u2x0 : x2.cell? ⟨P2, 0, none⟩ = some (.slice Ra2 na2 ca2) := (unhide G2).c0 0 rfl
 have v2x0 : x2.cell? ⟨P2, 1, none⟩ = some (.slice Rb2 nb2 cb2) := (unhide G2).c1 0 rfl
 have u2x1 : x2.cell? ⟨P1, 0, none⟩ = some (.slice Ra1 na1 ca1) := (unhide G2).c0 1 rfl
 have v2x1 : x2.cell? ⟨P1, 1, none⟩ = some (.slice Rb1 nb1 cb1) := (unhide G2).c1 1 rfl
 have u2x2 : x2.cell? ⟨B, 0, none⟩ = some (.slice A n cap) := (unhide G2).c0 2 rfl
 have v2x2 : x2.cell? ⟨B, 1, none⟩ = some (.slice A2 n2 cap2) := (unhide G2).c1 2 rfl
 go_wp2_with fail
 refine (unhide CP2 _ ((unhide G2).at_ 2 rfl).i).mono ?_
 rintro e w3 ⟨hr3, hb3⟩
 obtain ⟨Ra3, na3, ca3, Rb3, nb3, cb3, rfl, hi3, hc3, ho3⟩ := hr3.open
 have H3 := hide ((unhide G2).below hb3)
 have HI3 := hide hi3
 have HC3 := hide hc3
 have HO3 := hide ho3
 clear hb3 hi3 hc3 hr3 ho3
 go_upto_region 4 with (refine wpList_store_row rfl 33 (.tmp 13) (.tmp 37) rfl w3.heap.size #[.slice Ra3 na3 ca3, .slice Rb3 nb3 cb3] rfl rfl 33 _ (heap_alloc_new _ _) sizeArc rfl (one_two _ _ _ _ _ _) ?_)
 obtain ⟨x3, hx3⟩ : ∃ x, x = (w3.alloc (.cells #[.slice none 0 0, .slice none 0 0] 33)).setRow w3.heap.size #[.slice Ra3 na3 ca3, .slice Rb3 nb3 cb3] := ⟨_, rfl⟩
 obtain ⟨P3, hP3⟩ : ∃ P, P = w3.heap.size := ⟨_, rfl⟩
 have G3 := hide (show St w x3 B [⟨P3, Ra3, na3, ca3, Rb3, nb3, cb3, r1.1⟩, ⟨P2, Ra2, na2, ca2, Rb2, nb2, cb2, r2.1⟩, ⟨P1, Ra1, na1, ca1, Rb1, nb1, cb1, r1.1⟩, ⟨B, A, n, cap, A2, n2, cap2, a⟩] by rw [hx3, hP3]; exact (unhide H3).new (unhide HI3) ca3 cb3)
 rw [← hx3, ← hP3]
 clear hx3 hP3
 clear u2x0 v2x0 u2x1 v2x1 u2x2 v2x2
 have u3x0 : x3.cell? ⟨P3, 0, none⟩ = some (.slice Ra3 na3 ca3) := (unhide G3).c0 0 rfl
 have v3x0 : x3.cell? ⟨P3, 1, none⟩ = some (.slice Rb3 nb3 cb3) := (unhide G3).c1 0 rfl
 have u3x1 : x3.cell? ⟨P2, 0, none⟩ = some (.slice Ra2 na2 ca2) := (unhide G3).c0 1 rfl
 have v3x1 : x3.cell? ⟨P2, 1, none⟩ = some (.slice Rb2 nb2 cb2) := (unhide G3).c1 1 rfl
 have u3x2 : x3.cell? ⟨P1, 0, none⟩ = some (.slice Ra1 na1 ca1) := (unhide G3).c0 2 rfl
 have v3x2 : x3.cell? ⟨P1, 1, none⟩ = some (.slice Rb1 nb1 cb1) := (unhide G3).c1 2 rfl
 have u3x3 : x3.cell? ⟨B, 0, none⟩ = some (.slice A n cap) := (unhide G3).c0 3 rfl
 have v3x3 : x3.cell? ⟨B, 1, none⟩ = some (.slice A2 n2 cap2) := (unhide G3).c1 3 rfl
 go_wp2_with fail
 refine (unhide CD2 _ ((unhide G3).at_ 3 rfl).i).mono ?_
 rintro e w4 ⟨hr4, hb4⟩
 obtain ⟨Ra4, na4, ca4, Rb4, nb4, cb4, rfl, hi4, hc4, ho4⟩ := hr4.open
 have H4 := hide ((unhide G3).below hb4)
 have HI4 := hide hi4
 have HC4 := hide hc4
 have HO4 := hide ho4
 clear hb4 hi4 hc4 hr4 ho4
 go_upto_region 5 with (refine wpList_store_row rfl 33 (.tmp 15) (.tmp 43) rfl w4.heap.size #[.slice Ra4 na4 ca4, .slice Rb4 nb4 cb4] rfl rfl 33 _ (heap_alloc_new _ _) sizeArc rfl (one_two _ _ _ _ _ _) ?_)
 obtain ⟨x4, hx4⟩ : ∃ x, x = (w4.alloc (.cells #[.slice none 0 0, .slice none 0 0] 33)).setRow w4.heap.size #[.slice Ra4 na4 ca4, .slice Rb4 nb4 cb4] := ⟨_, rfl⟩
 obtain ⟨P4, hP4⟩ : ∃ P, P = w4.heap.size := ⟨_, rfl⟩
 have G4 := hide (show St w x4 B [⟨P4, Ra4, na4, ca4, Rb4, nb4, cb4, r2.1⟩, ⟨P3, Ra3, na3, ca3, Rb3, nb3, cb3, r1.1⟩, ⟨P2, Ra2, na2, ca2, Rb2, nb2, cb2, r2.1⟩, ⟨P1, Ra1, na1, ca1, Rb1, nb1, cb1, r1.1⟩, ⟨B, A, n, cap, A2, n2, cap2, a⟩] by rw [hx4, hP4]; exact (unhide H4).new (unhide HI4) ca4 cb4)
 rw [← hx4, ← hP4]
 clear hx4 hP4
 clear u3x0 v3x0 u3x1 v3x1 u3x2 v3x2 u3x3 v3x3
 have u4x0 : x4.cell? ⟨P4, 0, none⟩ = some (.slice Ra4 na4 ca4) := (unhide G4).c0 0 rfl
 have v4x0 : x4.cell? ⟨P4, 1, none⟩ = some (.slice Rb4 nb4 cb4) := (unhide G4).c1 0 rfl
 have u4x1 : x4.cell? ⟨P3, 0, none⟩ = some (.slice Ra3 na3 ca3) := (unhide G4).c0 1 rfl
 have v4x1 : x4.cell? ⟨P3, 1, none⟩ = some (.slice Rb3 nb3 cb3) := (unhide G4).c1 1 rfl
 have u4x2 : x4.cell? ⟨P2, 0, none⟩ = some (.slice Ra2 na2 ca2) := (unhide G4).c0 2 rfl
 have v4x2 : x4.cell? ⟨P2, 1, none⟩ = some (.slice Rb2 nb2 cb2) := (unhide G4).c1 2 rfl
 have u4x3 : x4.cell? ⟨P1, 0, none⟩ = some (.slice Ra1 na1 ca1) := (unhide G4).c0 3 rfl
 have v4x3 : x4.cell? ⟨P1, 1, none⟩ = some (.slice Rb1 nb1 cb1) := (unhide G4).c1 3 rfl
 have u4x4 : x4.cell? ⟨B, 0, none⟩ = some (.slice A n cap) := (unhide G4).c0 4 rfl
 have v4x4 : x4.cell? ⟨B, 1, none⟩ = some (.slice A2 n2 cap2) := (unhide G4).c1 4 rfl
 have CB := hide (fun (W : World) (hW : St w W B [⟨P4, Ra4, na4, ca4, Rb4, nb4, cb4, r2.1⟩, ⟨P3, Ra3, na3, ca3, Rb3, nb3, cb3, r1.1⟩, ⟨P2, Ra2, na2, ca2, Rb2, nb2, cb2, r2.1⟩, ⟨P1, Ra1, na1, ca1, Rb1, nb1, cb1, r1.1⟩, ⟨B, A, n, cap, A2, n2, cap2, a⟩]) => archBegun_any W ((unhide HM).up (by have := hW.bel; rw [unhide HB] at this; exact this)))
 have CK := hide (fun (W : World) (hW : St w W B [⟨P4, Ra4, na4, ca4, Rb4, nb4, cb4, r2.1⟩, ⟨P3, Ra3, na3, ca3, Rb3, nb3, cb3, r1.1⟩, ⟨P2, Ra2, na2, ca2, Rb2, nb2, cb2, r2.1⟩, ⟨P1, Ra1, na1, ca1, Rb1, nb1, cb1, r1.1⟩, ⟨B, A, n, cap, A2, n2, cap2, a⟩]) => unhide CK W (hW.at_ 4 rfl).i)
 have CK2 := hide (fun (W : World) (hW : St w W B [⟨P4, Ra4, na4, ca4, Rb4, nb4, cb4, r2.1⟩, ⟨P3, Ra3, na3, ca3, Rb3, nb3, cb3, r1.1⟩, ⟨P2, Ra2, na2, ca2, Rb2, nb2, cb2, r2.1⟩, ⟨P1, Ra1, na1, ca1, Rb1, nb1, cb1, r1.1⟩, ⟨B, A, n, cap, A2, n2, cap2, a⟩]) => unhide CK2 W (hW.at_ 4 rfl).i)
 clear u4x0 v4x0 u4x1 v4x1 u4x2 v4x2 u4x3 v4x3 u4x4 v4x4
 have t0 : ∀ W : World, St w W B [⟨P4, Ra4, na4, ca4, Rb4, nb4, cb4, r2.1⟩, ⟨P3, Ra3, na3, ca3, Rb3, nb3, cb3, r1.1⟩, ⟨P2, Ra2, na2, ca2, Rb2, nb2, cb2, r2.1⟩, ⟨P1, Ra1, na1, ca1, Rb1, nb1, cb1, r1.1⟩, ⟨B, A, n, cap, A2, n2, cap2, a⟩] → W.cell? ⟨P4, 0, none⟩ = some (.slice Ra4 na4 ca4) := fun W hW => hW.c0 0 rfl
 have t1 : ∀ W : World, St w W B [⟨P4, Ra4, na4, ca4, Rb4, nb4, cb4, r2.1⟩, ⟨P3, Ra3, na3, ca3, Rb3, nb3, cb3, r1.1⟩, ⟨P2, Ra2, na2, ca2, Rb2, nb2, cb2, r2.1⟩, ⟨P1, Ra1, na1, ca1, Rb1, nb1, cb1, r1.1⟩, ⟨B, A, n, cap, A2, n2, cap2, a⟩] → W.cell? ⟨P4, 1, none⟩ = some (.slice Rb4 nb4 cb4) := fun W hW => hW.c1 0 rfl
 have t2 : ∀ W : World, St w W B [⟨P4, Ra4, na4, ca4, Rb4, nb4, cb4, r2.1⟩, ⟨P3, Ra3, na3, ca3, Rb3, nb3, cb3, r1.1⟩, ⟨P2, Ra2, na2, ca2, Rb2, nb2, cb2, r2.1⟩, ⟨P1, Ra1, na1, ca1, Rb1, nb1, cb1, r1.1⟩, ⟨B, A, n, cap, A2, n2, cap2, a⟩] → W.cell? ⟨P3, 0, none⟩ = some (.slice Ra3 na3 ca3) := fun W hW => hW.c0 1 rfl
 have t3 : ∀ W : World, St w W B [⟨P4, Ra4, na4, ca4, Rb4, nb4, cb4, r2.1⟩, ⟨P3, Ra3, na3, ca3, Rb3, nb3, cb3, r1.1⟩, ⟨P2, Ra2, na2, ca2, Rb2, nb2, cb2, r2.1⟩, ⟨P1, Ra1, na1, ca1, Rb1, nb1, cb1, r1.1⟩, ⟨B, A, n, cap, A2, n2, cap2, a⟩] → W.cell? ⟨P3, 1, none⟩ = some (.slice Rb3 nb3 cb3) := fun W hW => hW.c1 1 rfl
 have t4 : ∀ W : World, St w W B [⟨P4, Ra4, na4, ca4, Rb4, nb4, cb4, r2.1⟩, ⟨P3, Ra3, na3, ca3, Rb3, nb3, cb3, r1.1⟩, ⟨P2, Ra2, na2, ca2, Rb2, nb2, cb2, r2.1⟩, ⟨P1, Ra1, na1, ca1, Rb1, nb1, cb1, r1.1⟩, ⟨B, A, n, cap, A2, n2, cap2, a⟩] → W.cell? ⟨P2, 0, none⟩ = some (.slice Ra2 na2 ca2) := fun W hW => hW.c0 2 rfl
 have t5 : ∀ W : World, St w W B [⟨P4, Ra4, na4, ca4, Rb4, nb4, cb4, r2.1⟩, ⟨P3, Ra3, na3, ca3, Rb3, nb3, cb3, r1.1⟩, ⟨P2, Ra2, na2, ca2, Rb2, nb2, cb2, r2.1⟩, ⟨P1, Ra1, na1, ca1, Rb1, nb1, cb1, r1.1⟩, ⟨B, A, n, cap, A2, n2, cap2, a⟩] → W.cell? ⟨P2, 1, none⟩ = some (.slice Rb2 nb2 cb2) := fun W hW => hW.c1 2 rfl
 have t6 : ∀ W : World, St w W B [⟨P4, Ra4, na4, ca4, Rb4, nb4, cb4, r2.1⟩, ⟨P3, Ra3, na3, ca3, Rb3, nb3, cb3, r1.1⟩, ⟨P2, Ra2, na2, ca2, Rb2, nb2, cb2, r2.1⟩, ⟨P1, Ra1, na1, ca1, Rb1, nb1, cb1, r1.1⟩, ⟨B, A, n, cap, A2, n2, cap2, a⟩] → W.cell? ⟨P1, 0, none⟩ = some (.slice Ra1 na1 ca1) := fun W hW => hW.c0 3 rfl
 have t7 : ∀ W : World, St w W B [⟨P4, Ra4, na4, ca4, Rb4, nb4, cb4, r2.1⟩, ⟨P3, Ra3, na3, ca3, Rb3, nb3, cb3, r1.1⟩, ⟨P2, Ra2, na2, ca2, Rb2, nb2, cb2, r2.1⟩, ⟨P1, Ra1, na1, ca1, Rb1, nb1, cb1, r1.1⟩, ⟨B, A, n, cap, A2, n2, cap2, a⟩] → W.cell? ⟨P1, 1, none⟩ = some (.slice Rb1 nb1 cb1) := fun W hW => hW.c1 3 rfl
 have t8 : ∀ W : World, St w W B [⟨P4, Ra4, na4, ca4, Rb4, nb4, cb4, r2.1⟩, ⟨P3, Ra3, na3, ca3, Rb3, nb3, cb3, r1.1⟩, ⟨P2, Ra2, na2, ca2, Rb2, nb2, cb2, r2.1⟩, ⟨P1, Ra1, na1, ca1, Rb1, nb1, cb1, r1.1⟩, ⟨B, A, n, cap, A2, n2, cap2, a⟩] → W.cell? ⟨B, 0, none⟩ = some (.slice A n cap) := fun W hW => hW.c0 4 rfl
 have t9 : ∀ W : World, St w W B [⟨P4, Ra4, na4, ca4, Rb4, nb4, cb4, r2.1⟩, ⟨P3, Ra3, na3, ca3, Rb3, nb3, cb3, r1.1⟩, ⟨P2, Ra2, na2, ca2, Rb2, nb2, cb2, r2.1⟩, ⟨P1, Ra1, na1, ca1, Rb1, nb1, cb1, r1.1⟩, ⟨B, A, n, cap, A2, n2, cap2, a⟩] → W.cell? ⟨B, 1, none⟩ = some (.slice A2 n2 cap2) := fun W hW => hW.c1 4 rfl
 have CS := hide (fun (W : World) (hW : St w W B [⟨P4, Ra4, na4, ca4, Rb4, nb4, cb4, r2.1⟩, ⟨P3, Ra3, na3, ca3, Rb3, nb3, cb3, r1.1⟩, ⟨P2, Ra2, na2, ca2, Rb2, nb2, cb2, r2.1⟩, ⟨P1, Ra1, na1, ca1, Rb1, nb1, cb1, r1.1⟩, ⟨B, A, n, cap, A2, n2, cap2, a⟩]) (x y : Value) (hp : (x = arcV Ra1 na1 ca1 Rb1 nb1 cb1 ∧ y = arcV Ra3 na3 ca3 Rb3 nb3 cb3) ∨ (x = arcV Ra2 na2 ca2 Rb2 nb2 cb2 ∧ y = arcV Ra4 na4 ca4 Rb4 nb4 cb4)) => (show Calls Tryz.prog 18 #[x, y] W fun e w' => e = .returned (.bool true) ∧ Below W.heap.size W w' from by
  rcases hp with ⟨rfl, rfl⟩ | ⟨rfl, rfl⟩
  ·exact sameArc _ _ _ _ _ _ _ _ _ _ _ _ _ W (hW.at_ 3 rfl).i (hW.at_ 1 rfl).i hnd1 hnf1
  ·exact sameArc _ _ _ _ _ _ _ _ _ _ _ _ _ W (hW.at_ 2 rfl).i (hW.at_ 0 rfl).i hnd2 hnf2))
 go_region_held3 (fun W => St w W B [⟨P4, Ra4, na4, ca4, Rb4, nb4, cb4, r2.1⟩, ⟨P3, Ra3, na3, ca3, Rb3, nb3, cb3, r1.1⟩, ⟨P2, Ra2, na2, ca2, Rb2, nb2, cb2, r2.1⟩, ⟨P1, Ra1, na1, ca1, Rb1, nb1, cb1, r1.1⟩, ⟨B, A, n, cap, A2, n2, cap2, a⟩]) (first | exact (unhide G4).drew | assumption | exact St.drew (by assumption) | exact St.below (by assumption) (by assumption))
  ((first
   | (go_at_call 30; refine (unhide CB _ (by first | exact (unhide G4).drew | exact unhide G4 | assumption | exact St.drew (by assumption) | exact St.below (by assumption) (by assumption))).mono ?_; rintro e wz ⟨rfl, hbz⟩)
   | (go_at_call 31; refine (unhide CK _ (by first | exact (unhide G4).drew | exact unhide G4 | assumption | exact St.drew (by assumption) | exact St.below (by assumption) (by assumption))).mono ?_; rintro e wz ⟨rfl, hbz⟩)
   | (go_at_call 32; refine (unhide CK2 _ (by first | exact (unhide G4).drew | exact unhide G4 | assumption | exact St.drew (by assumption) | exact St.below (by assumption) (by assumption))).mono ?_; rintro e wz ⟨rfl, hbz⟩)
   | (go_at_call 18; refine (unhide CS _ (by first | exact (unhide G4).drew | exact unhide G4 | assumption | exact St.drew (by assumption) | exact St.below (by assumption) (by assumption)) _ _ (by first | exact Or.inl ⟨rfl, rfl⟩ | exact Or.inr ⟨rfl, rfl⟩)).mono ?_; rintro e wz ⟨rfl, hbz⟩)))
 all_goals
  go_wp2_with fail
  go_ret
  exact ⟨rfl, St.bel (by assumption)⟩
end Go.Proofs.YtjpgoeimclipjaaGreat
