/- trainBegun, and the laws TrainTells, TrainTrue: true for every input. -/
import Derived.Test.YtgfkkjcnnecefaaTrainOf
import Derived.Deep.QuietTactic
import Derived.BigQuiet
namespace Go.Proofs.Ytgfkkjcnnecefaa
open Go.RowKit Go.Lib Pl
attribute [local go_sem] ext_list app_list

theorem strsAt_lit (w : World) (l : List Bytes) (n : Nat) (hn : l.length = n) : StrsAt (w.alloc (.cells (l.map S).toArray 9)) (w.alloc (.cells (l.map S).toArray 9)).heap.size (some ⟨w.heap.size, 0, none⟩) n l := by
  refine ⟨hn, fun _ => ⟨w.heap.size, 0, rfl, by simp, fun i t hi => ?_⟩⟩
  rw [Nat.zero_add, World.cell?_alloc_new]
  simp only [List.getElem?_toArray, List.getElem?_map, hi, Option.map_some]

def tl1 : List Bytes := [[97, 98, 99, 100], [120, 97, 98, 99, 100, 120], [97, 98, 99]]
def tl2 : List Bytes := [[97, 98, 99, 100, 101], [120, 97, 98, 99, 100, 101], [122, 122, 122, 122]]
theorem tl1_n : countN tl1 [97, 98, 99, 100] = 2 := by decide +kernel
theorem tl1_e : countE tl1 [97, 98, 99, 100] = 0 := by decide +kernel
theorem tl2_d : trainD tl2 8 = [98, 99, 100, 101, 97, 98, 99, 100] := by decide +kernel
theorem tl2_e : trainE tl2 8 = 0 := by decide +kernel

set_option maxHeartbeats 1000000 in
set_option maxRecDepth 100000 in
theorem trainBegun_any (w : World) (hm : MaxLenIs w) : Calls Try.prog 40 #[] w fun e w' => e = .returned (.bool true) ∧ Below w.heap.size w w' := by
  have c1 := fun (W : World) (A : Option Addr) (n cap : Nat) (h : StrsAt W W.heap.size A n tl1) (hm : MaxLenIs W) => count_any A n cap tl1 [97, 98, 99, 100] W hm h (by have := h.1; simp [tl1] at this; omega) (by decide)
  rw [tl1_n, tl1_e] at c1
  have c2 := fun (W : World) (A : Option Addr) (n cap : Nat) (h : StrsAt W W.heap.size A n tl2) (hm : MaxLenIs W) => train_any A n cap tl2 8 W hm h (by have := h.1; simp [tl2] at this; omega) (by decide)
  rw [tl2_d, tl2_e] at c2
  have C1 := hide c1
  have C2 := hide c2
  have HM := hide hm
  clear c1 c2 hm
  go_enter Try.func40, Try.ntmps40
  go_wp2_with fail
  have b1 := (Below.refl w.heap.size w).alloc (Nat.le_refl _) (.cells #[S [97, 98, 99, 100], S [120, 97, 98, 99, 100, 120], S [97, 98, 99]] 9)
  have HB1 := hide b1
  have HS1 := hide (show StrsAt (w.alloc (.cells #[S [97, 98, 99, 100], S [120, 97, 98, 99, 100, 120], S [97, 98, 99]] 9)) (w.alloc (.cells #[S [97, 98, 99, 100], S [120, 97, 98, 99, 100, 120], S [97, 98, 99]] 9)).heap.size (some ⟨w.heap.size, 0, none⟩) 3 tl1 from strsAt_lit w tl1 3 rfl)
  clear b1
  refine (unhide C1 _ _ _ _ (unhide HS1) ((unhide HM).up (unhide HB1))).mono ?_
  rintro e w1 ⟨rfl, rfl⟩
  go_wp2_with fail
  obtain ⟨w1, hw1⟩ : ∃ w1, w1 = w.alloc (.cells #[S [97, 98, 99, 100], S [120, 97, 98, 99, 100, 120], S [97, 98, 99]] 9) := ⟨_, rfl⟩
  have hb1 := unhide HB1
  rw [← hw1] at hb1 ⊢
  have hws : w1.heap.size = w.heap.size + 1 := by rw [hw1]; simp
  rw [← hws]
  have b2 := hb1.alloc hb1.size (.cells #[S [97, 98, 99, 100, 101], S [120, 97, 98, 99, 100, 101], S [122, 122, 122, 122]] 9)
  have HB2 := hide b2
  have HS2 := hide (show StrsAt (w1.alloc (.cells #[S [97, 98, 99, 100, 101], S [120, 97, 98, 99, 100, 101], S [122, 122, 122, 122]] 9)) (w1.alloc (.cells #[S [97, 98, 99, 100, 101], S [120, 97, 98, 99, 100, 101], S [122, 122, 122, 122]] 9)).heap.size (some ⟨w1.heap.size, 0, none⟩) 3 tl2 from strsAt_lit w1 tl2 3 rfl)
  clear b2 hb1 hw1 hws HS1
  refine (unhide C2 _ _ _ _ (unhide HS2) ((unhide HM).up (unhide HB2))).mono ?_
  rintro e w2 ⟨rfl, hb2, _⟩
  go_wp2_with fail
  go_ret
  exact ⟨rfl, (unhide HB2).trans (hb2.mono (unhide HB2).size)⟩

set_option maxHeartbeats 4000000 in
set_option maxRecDepth 100000 in
theorem trainTells_any (A : Option Addr) (n cap : Nat) (l : List Bytes) (p : Bytes) (size : Int) (w : World) (hm : MaxLenIs w) (hl : StrsAt w w.heap.size A n l) (hn : n ≤ 4611686018427387904) (hs : ∀ t ∈ l, t.length ≤ 9223372036854775807) :
    Calls Try.prog 9 #[.slice A n cap, S p, I size] w fun e w' => e = .returned (.bool true) ∧ Below w.heap.size w w' := by
  have c1 := count_any A n cap l p w hm hl hn hs
  have c2 := train_any A n cap l size w hm hl hn hs
  have c3 := fun (W : World) (hb : Below w.heap.size w W) => textsError_any A n cap l W (hl.up hb) hn hs
  have c6 := fun (W : World) (hb : Below w.heap.size w W) => trainBegun_any W (hm.up hb)
  by_cases hb : manyB l = true
  · have e1 : countN l p = 0 := by unfold countN; rw [if_pos hb]
    have e2 : countE l p = 2 := by unfold countE; rw [if_pos hb]
    have e3 : trainD l size = [] := by unfold trainD; rw [if_pos hb]
    have e4 : trainE l size = 2 := by unfold trainE; rw [if_pos hb]
    have e5 : textsE l = 2 := by unfold textsE; rw [if_pos hb]
    rw [e1, e2] at c1
    rw [e3, e4] at c2
    rw [e5] at c3
    have C1 := hide c1
    have C2 := hide c2
    have C3 := hide c3
    have C6 := hide c6
    clear c1 c2 c3 c6 e1 e2 e3 e4 e5 hb hs
    go_enter Try.func9, Try.ntmps9
    go_wp2_with fail
    refine (unhide C1).mono ?_
    rintro e w1 ⟨rfl, rfl⟩
    go_wp2_with fail
    refine (unhide C2).mono ?_
    rintro e w2 ⟨rfl, hb2, _⟩
    go_wp2_with fail
    refine (unhide C3 _ hb2).mono ?_
    rintro e w3 ⟨rfl, rfl⟩
    go_wp2_with fail
    refine (unhide C6 _ hb2).mono ?_
    rintro e w4 ⟨rfl, hb4⟩
    go_wp2_with fail
    go_ret
    exact ⟨rfl, hb2.trans (hb4.mono hb2.size)⟩
  · have hb : manyB l = false := by simpa using hb
    have e5 : textsE l = 0 := by unfold textsE; rw [hb]; rfl
    rw [e5] at c3
    have hn12 : n ≤ 12 := by have := (manyB_no hb).1; have := hl.1; omega
    have c4 := fun (W : World) (hW : Below w.heap.size w W) (hp4 : p.length = 4) => countOf_any A n cap l p W (hl.up hW) hn12 (manyB_no hb).2 (by omega)
    have c5 := fun (W : World) (hW : Below w.heap.size w W) (q : Nat) (hq : q ≤ 256) => trainOf_any A n cap l q W (hl.up hW) hb hq
    have C3 := hide c3
    have C4 := hide c4
    have C5 := hide c5
    have C6 := hide c6
    clear c3 c4 c5 c6 e5
    by_cases hp4 : p.length = 4 <;> by_cases hz : size < 0 ∨ 256 < size
    · have e1 : countN l p = cnt l p := by unfold countN; rw [hb, if_neg (by simp), if_pos hp4]
      have e2 : countE l p = 0 := by unfold countE; rw [hb, if_neg (by simp), if_pos hp4]
      have e3 : trainD l size = [] := by unfold trainD; rw [hb, if_neg (by simp), if_pos hz]
      have e4 : trainE l size = 3 := by unfold trainE; rw [hb, if_neg (by simp), if_pos hz]
      rw [e1, e2] at c1
      rw [e3, e4] at c2
      have C1 := hide c1
      have C2 := hide c2
      have C4 := hide (fun (W : World) (hW : Below w.heap.size w W) => unhide C4 W hW hp4)
      have q1 : ((p.length : Int) == 4) = true := by rw [hp4]; rfl
      have q2 : ((p.length : Int) != 4) = false := by rw [hp4]; rfl
      clear c1 c2 e1 e2 e3 e4 hb hs hp4
      have hsz : (size < 0) ∨ (decide (size < 0) = false ∧ 256 < size) := by
        rcases hz with h | h
        · exact .inl h
        · exact .inr ⟨by simp; omega, h⟩
      clear hz
      rcases hsz with h0 | ⟨h0, h1⟩
      all_goals
        go_enter Try.func9, Try.ntmps9
        go_wp2_with fail
        refine (unhide C1).mono ?_
        rintro e w1 ⟨rfl, rfl⟩
        go_wp2_with fail
        refine (unhide C2).mono ?_
        rintro e w2 ⟨rfl, hb2, _⟩
        go_wp2_with fail
        refine (unhide C3 _ hb2).mono ?_
        rintro e w3 ⟨rfl, rfl⟩
        go_wp2_with fail
        refine (unhide C4 _ hb2).mono ?_
        rintro e w3 ⟨rfl, rfl⟩
        go_wp2_with fail
        refine (unhide C6 _ hb2).mono ?_
        rintro e w4 ⟨rfl, hb4⟩
        go_wp2_with fail
        go_ret
        exact ⟨rfl, hb2.trans (hb4.mono hb2.size)⟩
    · obtain ⟨q, rfl⟩ := Int.eq_ofNat_of_zero_le (show 0 ≤ size by omega)
      have hq : q ≤ 256 := by omega
      have e1 : countN l p = cnt l p := by unfold countN; rw [hb, if_neg (by simp), if_pos hp4]
      have e2 : countE l p = 0 := by unfold countE; rw [hb, if_neg (by simp), if_pos hp4]
      have e3 : trainD l (q : Int) = trainOf l q := by unfold trainD; rw [hb, if_neg (by simp), if_neg hz]; rfl
      have e4 : trainE l (q : Int) = 0 := by unfold trainE; rw [hb, if_neg (by simp), if_neg hz]
      rw [e1, e2] at c1
      rw [e3, e4] at c2
      have C1 := hide c1
      have C2 := hide c2
      have C4 := hide (fun (W : World) (hW : Below w.heap.size w W) => unhide C4 W hW hp4)
      have C5 := hide (fun (W : World) (hW : Below w.heap.size w W) => unhide C5 W hW q hq)
      have q1 : ((p.length : Int) == 4) = true := by rw [hp4]; rfl
      have q2 : ((p.length : Int) != 4) = false := by rw [hp4]; rfl
      have q3 : decide ((q : Int) > 256) = false := by simp; omega
      clear c1 c2 e1 e2 e3 e4 hb hs hp4 hz
      go_enter Try.func9, Try.ntmps9
      go_wp2_with fail
      refine (unhide C1).mono ?_
      rintro e w1 ⟨rfl, rfl⟩
      go_wp2_with fail
      refine (unhide C2).mono ?_
      rintro e w2 ⟨rfl, hb2, _⟩
      go_wp2_with fail
      refine (unhide C3 _ hb2).mono ?_
      rintro e w3 ⟨rfl, rfl⟩
      go_wp2_with fail
      refine (unhide C4 _ hb2).mono ?_
      rintro e w3 ⟨rfl, rfl⟩
      go_wp2_with fail
      refine (unhide C5 _ hb2).mono ?_
      rintro e w3 ⟨rfl, hb3⟩
      have hb3 := hb2.trans (hb3.mono hb2.size)
      go_wp2_with fail
      refine (unhide C6 _ hb3).mono ?_
      rintro e w4 ⟨rfl, hb4⟩
      go_wp2_with fail
      go_ret
      exact ⟨rfl, hb3.trans (hb4.mono hb3.size)⟩
    · have e1 : countN l p = 0 := by unfold countN; rw [hb, if_neg (by simp), if_neg hp4]
      have e2 : countE l p = 3 := by unfold countE; rw [hb, if_neg (by simp), if_neg hp4]
      have e3 : trainD l size = [] := by unfold trainD; rw [hb, if_neg (by simp), if_pos hz]
      have e4 : trainE l size = 3 := by unfold trainE; rw [hb, if_neg (by simp), if_pos hz]
      rw [e1, e2] at c1
      rw [e3, e4] at c2
      have C1 := hide c1
      have C2 := hide c2
      have q1 : ((p.length : Int) == 4) = false := by rw [beq_eq_false_iff_ne]; omega
      have q2 : ((p.length : Int) != 4) = true := by rw [bne_iff_ne]; omega
      clear c1 c2 e1 e2 e3 e4 hb hs hp4
      have hsz : (size < 0) ∨ (decide (size < 0) = false ∧ 256 < size) := by
        rcases hz with h | h
        · exact .inl h
        · exact .inr ⟨by simp; omega, h⟩
      clear hz
      rcases hsz with h0 | ⟨h0, h1⟩
      all_goals
        go_enter Try.func9, Try.ntmps9
        go_wp2_with fail
        refine (unhide C1).mono ?_
        rintro e w1 ⟨rfl, rfl⟩
        go_wp2_with fail
        refine (unhide C2).mono ?_
        rintro e w2 ⟨rfl, hb2, _⟩
        go_wp2_with fail
        refine (unhide C3 _ hb2).mono ?_
        rintro e w3 ⟨rfl, rfl⟩
        go_wp2_with fail
        refine (unhide C6 _ hb2).mono ?_
        rintro e w4 ⟨rfl, hb4⟩
        go_wp2_with fail
        go_ret
        exact ⟨rfl, hb2.trans (hb4.mono hb2.size)⟩
    · obtain ⟨q, rfl⟩ := Int.eq_ofNat_of_zero_le (show 0 ≤ size by omega)
      have hq : q ≤ 256 := by omega
      have e1 : countN l p = 0 := by unfold countN; rw [hb, if_neg (by simp), if_neg hp4]
      have e2 : countE l p = 3 := by unfold countE; rw [hb, if_neg (by simp), if_neg hp4]
      have e3 : trainD l (q : Int) = trainOf l q := by unfold trainD; rw [hb, if_neg (by simp), if_neg hz]; rfl
      have e4 : trainE l (q : Int) = 0 := by unfold trainE; rw [hb, if_neg (by simp), if_neg hz]
      rw [e1, e2] at c1
      rw [e3, e4] at c2
      have C1 := hide c1
      have C2 := hide c2
      have C5 := hide (fun (W : World) (hW : Below w.heap.size w W) => unhide C5 W hW q hq)
      have q1 : ((p.length : Int) == 4) = false := by rw [beq_eq_false_iff_ne]; omega
      have q2 : ((p.length : Int) != 4) = true := by rw [bne_iff_ne]; omega
      have q3 : decide ((q : Int) > 256) = false := by simp; omega
      clear c1 c2 e1 e2 e3 e4 hb hs hp4 hz
      go_enter Try.func9, Try.ntmps9
      go_wp2_with fail
      refine (unhide C1).mono ?_
      rintro e w1 ⟨rfl, rfl⟩
      go_wp2_with fail
      refine (unhide C2).mono ?_
      rintro e w2 ⟨rfl, hb2, _⟩
      go_wp2_with fail
      refine (unhide C3 _ hb2).mono ?_
      rintro e w3 ⟨rfl, rfl⟩
      go_wp2_with fail
      refine (unhide C5 _ hb2).mono ?_
      rintro e w3 ⟨rfl, hb3⟩
      have hb3 := hb2.trans (hb3.mono hb2.size)
      go_wp2_with fail
      refine (unhide C6 _ hb3).mono ?_
      rintro e w4 ⟨rfl, hb4⟩
      go_wp2_with fail
      go_ret
      exact ⟨rfl, hb3.trans (hb4.mono hb3.size)⟩

end Go.Proofs.Ytgfkkjcnnecefaa
