/- Parts of the proofs. -/
import Derived.Test.YtjpgoeimclipjaaGreatAd10
import Derived.Laws.RangeAny
import Derived.Laws.RangeString
import Derived.Lib.TrimU
namespace Go.Proofs.YtjpgoeimclipjaaGreat
open Go.RowKit Go.Lib Pl
attribute [local go_sem] ext_list app_list
def nameN (x : Nat) : Bool := decide (97 ≤ x ∧ x ≤ 122 ∨ 48 ≤ x ∧ x ≤ 57 ∨ x = 46)
theorem nameN_c (c : UInt8) : nameN c.toNat = nameC c := rfl
theorem nameN_high {x : Nat} (h : 128 ≤ x) : nameN x = false := by unfold nameN; rw [decide_eq_false]; omega
set_option maxHeartbeats 1000000 in
set_option maxRecDepth 100000 in
theorem name1_any (x : Nat) (w : World) (hx : x ≤ 1114111) :
  Calls Tryz.prog 104 #[.int .i32 (x : Int)] w fun e w' => e = .returned (.bool (!nameN x)) ∧ w' = w := by
 have hcase : (x < 46 ∧ nameN x = false) ∨ (x = 46 ∧ nameN x = true) ∨ (x = 47 ∧ nameN x = false) ∨ (48 ≤ x ∧ x ≤ 57 ∧ nameN x = true) ∨ (57 < x ∧ x < 97 ∧ nameN x = false) ∨ (97 ≤ x ∧ x ≤ 122 ∧ nameN x = true) ∨ (122 < x ∧ nameN x = false) := by
  have ht : ∀ (P : Prop) [Decidable P], P → decide P = true := fun P _ h => decide_eq_true h
  have hf : ∀ (P : Prop) [Decidable P], ¬ P → decide P = false := fun P _ h => decide_eq_false h
  rcases (show x < 46 ∨ x = 46 ∨ x = 47 ∨ (48 ≤ x ∧ x ≤ 57) ∨ (57 < x ∧ x < 97) ∨ (97 ≤ x ∧ x ≤ 122) ∨ 122 < x by omega) with h | h | h | h | h | h | h
  ·exact .inl ⟨h, hf _ (by omega)⟩
  ·exact .inr (.inl ⟨h, ht _ (by omega)⟩)
  ·exact .inr (.inr (.inl ⟨h, hf _ (by omega)⟩))
  ·exact .inr (.inr (.inr (.inl ⟨h.1, h.2, ht _ (by omega)⟩)))
  ·exact .inr (.inr (.inr (.inr (.inl ⟨h.1, h.2, hf _ (by omega)⟩))))
  ·exact .inr (.inr (.inr (.inr (.inr (.inl ⟨h.1, h.2, ht _ (by omega)⟩)))))
  ·exact .inr (.inr (.inr (.inr (.inr (.inr ⟨h, hf _ (by omega)⟩)))))
 rcases hcase with ⟨h1, e⟩ | ⟨h1, e⟩ | ⟨h1, e⟩ | ⟨h1, h2, e⟩ | ⟨h1, h2, e⟩ | ⟨h1, h2, e⟩ | ⟨h1, e⟩
 ·rw [e]
  have d1 : (x : Int) < 97 := by omega
  have d2 : (x : Int) < 48 := by omega
  have d3 : ((x : Int) != 46) = true := by rw [bne_iff_ne]; omega
  go_enter Tryz.func104, Tryz.ntmps104
  go_wp2_with fail
  go_ret
  exact ⟨rfl, rfl⟩
 ·subst h1
  rw [e]
  go_enter Tryz.func104, Tryz.ntmps104
  go_wp2_with fail
  go_ret
  exact ⟨rfl, rfl⟩
 ·subst h1
  rw [e]
  go_enter Tryz.func104, Tryz.ntmps104
  go_wp2_with fail
  go_ret
  exact ⟨rfl, rfl⟩
 ·rw [e]
  have d1 : (x : Int) < 97 := by omega
  have d2 : ¬ (x : Int) < 48 := by omega
  have d3 : ¬ (57 : Int) < (x : Int) := by omega
  go_enter Tryz.func104, Tryz.ntmps104
  go_wp2_with fail
  go_ret
  exact ⟨rfl, rfl⟩
 ·rw [e]
  have d1 : (x : Int) < 97 := by omega
  have d2 : ¬ (x : Int) < 48 := by omega
  have d3 : (57 : Int) < (x : Int) := by omega
  have d4 : ((x : Int) != 46) = true := by rw [bne_iff_ne]; omega
  go_enter Tryz.func104, Tryz.ntmps104
  go_wp2_with fail
  go_ret
  exact ⟨rfl, rfl⟩
 ·rw [e]
  have d1 : ¬ (x : Int) < 97 := by omega
  have d2 : ¬ (122 : Int) < (x : Int) := by omega
  go_enter Tryz.func104, Tryz.ntmps104
  go_wp2_with fail
  go_ret
  exact ⟨rfl, rfl⟩
 ·rw [e]
  have d1 : ¬ (x : Int) < 97 := by omega
  have d2 : (122 : Int) < (x : Int) := by omega
  have d3 : ¬ (x : Int) < 48 := by omega
  have d4 : (57 : Int) < (x : Int) := by omega
  have d5 : ((x : Int) != 46) = true := by rw [bne_iff_ne]; omega
  go_enter Tryz.func104, Tryz.ntmps104
  go_wp2_with fail
  go_ret
  exact ⟨rfl, rfl⟩
theorem idx_name (l : Bytes) : ∀ (f pos : Nat), l.length ≤ pos + f → (0 ≤ Lib.idxFuncFrom (fun x => !nameN x) true ⟨l.toArray⟩ f pos ↔ (l.drop pos).all nameC = false)
 | 0, pos, h => by
  rw [List.drop_of_length_le (by omega), Lib.idxFuncFrom]
  simp
 | f + 1, pos, h => by
  have hs : (⟨l.toArray⟩ : ByteArray).size = l.length := rfl
  by_cases hp : pos < l.length
  ·have hg : (⟨l.toArray⟩ : ByteArray)[pos]'hp = l[pos] := rfl
   rw [List.drop_eq_getElem_cons hp, List.all_cons, Lib.idxFuncFrom, if_pos (by rw [hs]; exact hp)]
   by_cases ha : (l[pos]).toNat < 128
   ·have hd := decode_ascii ⟨l.toArray⟩ pos hp (by rw [hg]; exact ha)
    rw [hd, hg]
    simp only
    rw [nameN_c]
    by_cases hc : nameC l[pos] = true
    ·rw [hc]
     have := idx_name l f (pos + 1) (by omega)
     simpa using this
    ·have hc : nameC l[pos] = false := by simpa using hc
     rw [hc]
     simp
   ·have hd := (decode_high ⟨l.toArray⟩ pos hp (by rw [hg]; omega)).1
    rw [nameN_high hd]
    have hc : nameC l[pos] = false := by rw [← nameN_c]; exact nameN_high (by omega)
    rw [hc]
    simp
  ·rw [Lib.idxFuncFrom_end _ _ _ _ _ (by rw [hs]; exact hp), List.drop_of_length_le (by omega)]
   simp
theorem idx_name_all (l : Bytes) : decide (0 ≤ Lib.idxFunc (fun x => !nameN x) true ⟨l.toArray⟩) = !l.all nameC := by
 have := idx_name l l.length 0 (by omega)
 show decide (0 ≤ Lib.idxFuncFrom (fun x => !nameN x) true ⟨l.toArray⟩ l.length 0) = !l.all nameC
 rw [List.drop_zero] at this
 by_cases h : l.all nameC = true
 ·rw [h] at this ⊢
  rw [decide_eq_false (fun e => by have := this.1 e; cases this)]; rfl
 ·have h : l.all nameC = false := by simpa using h
  rw [h] at this ⊢
  rw [decide_eq_true (this.2 rfl)]; rfl
set_option maxHeartbeats 1000000 in
set_option maxRecDepth 100000 in
theorem name_any (s : Bytes) (w : World) (hs : s.length ≤ 140737488355328) :
  Calls Tryz.prog 71 #[S s] w fun e w' => e = .returned (.bool (nameB s)) ∧ Below w.heap.size w w' := by
 have c1 := fun (W : World) => Tryz.strings_ContainsFunc_runes 104 #[] (by intro args w; rfl) (fun x => !nameN x) ⟨s.toArray⟩ W (fun W2 x hx _ => by
  show Calls Tryz.prog 104 (#[_] ++ #[]) W2 _
  exact (name1_any x W2 hx).mono fun e w' ⟨h1, h2⟩ => ⟨h1, 0, h2⟩)
 have c1 : ∀ W : World, Calls Tryz.prog 103 #[S s, .func (.func 104) #[] #[]] W fun e w' => e = .returned (.bool (!s.all nameC)) ∧ Below W.heap.size W w' := fun W => by
  have := c1 W
  rw [idx_name_all] at this
  exact this
 have hnb : nameB s = (decide (1 ≤ s.length ∧ s.length ≤ 12) && s.all nameC) := rfl
 obtain ⟨q, hq⟩ : ∃ q, q = s.all nameC := ⟨_, rfl⟩
 rw [← hq] at c1 hnb
 have c1 := hide c1
 clear hq
 by_cases h0 : s.length < 1
 ·have h1 : nameB s = false := by rw [hnb, decide_eq_false (by omega)]; rfl
  rw [h1]
  have d1 : ¬ (0 : Int) < (s.length : Int) := by omega
  clear hnb h1
  go_enter Tryz.func71, Tryz.ntmps71
  go_wp2_with fail
  go_ret
  exact ⟨rfl, Below.refl _ _⟩
 ·have d1 : (0 : Int) < (s.length : Int) := by omega
  by_cases h2 : 12 < s.length
  ·have h1 : nameB s = false := by rw [hnb, decide_eq_false (by omega)]; rfl
   rw [h1]
   have d2 : ¬ (s.length : Int) ≤ 12 := by omega
   have d3 : decide ((s.length : Int) ≤ 12) = false := decide_eq_false d2
   clear hnb h1
   go_enter Tryz.func71, Tryz.ntmps71
   go_wp2_with fail
   go_ret
   exact ⟨rfl, Below.refl _ _⟩
  ·have h1 : nameB s = q := by rw [hnb, decide_eq_true (by omega)]; rfl
   rw [h1]
   have d2 : (s.length : Int) ≤ 12 := by omega
   have d3 : decide ((s.length : Int) ≤ 12) = true := decide_eq_true d2
   clear hnb h1
   cases q
   all_goals
    go_enter Tryz.func71, Tryz.ntmps71
    go_wp2_with fail
    refine (unhide c1 _).mono ?_
    rintro e w1 ⟨rfl, hb1⟩
    go_wp2_with fail
    go_ret
    exact ⟨rfl, hb1⟩
set_option maxHeartbeats 1000000 in
set_option maxRecDepth 100000 in
theorem isName_any (s : Bytes) (w : World) (hs : s.length ≤ 140737488355328) :
  Calls Tryz.prog 77 #[S s] w fun e w' => e = .returned (.bool (nameB s)) ∧ w' = w := by
 have c1 := fun (W : World) => within_any (s.length : Int) 1 12 W
 have hnb : nameB s = (decide (1 ≤ s.length ∧ s.length ≤ 12) && s.all nameC) := rfl
 by_cases h0 : 1 ≤ s.length ∧ s.length ≤ 12
 ·rw [decide_eq_true h0, Bool.true_and] at hnb
  rw [decide_eq_true (by omega)] at c1
  have c1 := hide (fun (W : World) => (c1 W).mono fun e w' ⟨h1, h2⟩ => (⟨h1, h2.symm⟩ : e = Ending.returned (.bool true) ∧ w' = W))
  rw [hnb]
  clear hnb h0
  go_enter Tryz.func77, Tryz.ntmps77
  go_wp2_with fail
  refine (unhide c1 _).mono ?_
  rintro e w1 ⟨rfl, rfl⟩
  go_wp2_with fail
  go_loop [3] (fun iv => ∃ k : Nat, k ≤ s.length ∧ iv = .int .i64 k ∧ (s.take k).all nameC = true) (fun iv => s.length - (intOf iv).toNat)
  case atStart => exact ⟨0, by omega, rfl, by simp⟩
  case round =>
   obtain ⟨k, hk, rfl, hall⟩ := hrel
   have HALL := hide hall
   clear hall
   by_cases hks : k < s.length
   ·obtain ⟨c, hcc⟩ : ∃ c, (⟨s.toArray⟩ : ByteArray)[k]'hks = c := ⟨_, rfl⟩
    have hsc : s[k]? = some c := by rw [List.getElem?_eq_getElem hks]; exact congrArg some hcc
    have hnx : (s.take (k + 1)).all nameC = ((s.take k).all nameC && nameC c) := by rw [List.take_add_one, hsc, List.all_append]; simp
    have hc256 := c.toNat_lt
    have hst : nameC c = false → s.all nameC = false := fun h => by
     rw [← List.take_append_drop (k + 1) s, List.all_append, hnx, h]; simp
    obtain ⟨x, hx⟩ : ∃ x, x = c.toNat := ⟨_, rfl⟩
    have hcase : (nameC c = false ∧ (x < 46 ∨ x = 47 ∨ 57 < x ∧ x < 97 ∨ 122 < x)) ∨ (nameC c = true ∧ (x = 46 ∨ 48 ≤ x ∧ x ≤ 57 ∨ 97 ≤ x ∧ x ≤ 122)) := by
     by_cases h : 97 ≤ x ∧ x ≤ 122 ∨ 48 ≤ x ∧ x ≤ 57 ∨ x = 46
     ·exact .inr ⟨decide_eq_true (by rw [← hx]; exact h), by omega⟩
     ·exact .inl ⟨decide_eq_false (by rw [← hx]; exact h), by omega⟩
    have HNX := hide hnx
    have HST := hide hst
    rw [← hx] at hc256
    have hx' := hx.symm
    clear hsc hnx hst hx
    rcases hcase with ⟨hc, h1 | h1 | h1 | h1⟩ | ⟨hc, h1 | h1 | h1⟩
    ·have HC := hide hc
     have d1 : ¬ (97 : Int) ≤ (x : Int) := by omega
     have d2 : ¬ (48 : Int) ≤ (x : Int) := by omega
     have d3 : ((x : Int) == 46) = false := by rw [beq_eq_false_iff_ne]; omega
     have d1' : decide ((97 : Int) ≤ (x : Int)) = false := decide_eq_false d1
     have d2' : decide ((48 : Int) ≤ (x : Int)) = false := decide_eq_false d2
     clear hc
     go_wp2_with fail
     go_ret
     exact ⟨by rw [unhide HST (unhide HC)]; rfl, rfl⟩
    ·have HC := hide hc
     subst h1
     clear hc
     go_wp2_with fail
     go_ret
     exact ⟨by rw [unhide HST (unhide HC)]; rfl, rfl⟩
    ·have HC := hide hc
     have d1 : ¬ (97 : Int) ≤ (x : Int) := by omega
     have d2 : (48 : Int) ≤ (x : Int) := by omega
     have d2b : ¬ (x : Int) ≤ 57 := by omega
     have d3 : ((x : Int) == 46) = false := by rw [beq_eq_false_iff_ne]; omega
     have d1' : decide ((97 : Int) ≤ (x : Int)) = false := decide_eq_false d1
     have d2' : decide ((48 : Int) ≤ (x : Int)) = true := decide_eq_true d2
     have d2b' : decide ((x : Int) ≤ 57) = false := decide_eq_false d2b
     clear hc
     go_wp2_with fail
     go_ret
     exact ⟨by rw [unhide HST (unhide HC)]; rfl, rfl⟩
    ·have HC := hide hc
     have d1 : (97 : Int) ≤ (x : Int) := by omega
     have d1b : ¬ (x : Int) ≤ 122 := by omega
     have d2 : (48 : Int) ≤ (x : Int) := by omega
     have d2b : ¬ (x : Int) ≤ 57 := by omega
     have d3 : ((x : Int) == 46) = false := by rw [beq_eq_false_iff_ne]; omega
     have d1' : decide ((97 : Int) ≤ (x : Int)) = true := decide_eq_true d1
     have d1b' : decide ((x : Int) ≤ 122) = false := decide_eq_false d1b
     have d2' : decide ((48 : Int) ≤ (x : Int)) = true := decide_eq_true d2
     have d2b' : decide ((x : Int) ≤ 57) = false := decide_eq_false d2b
     clear hc
     go_wp2_with fail
     go_ret
     exact ⟨by rw [unhide HST (unhide HC)]; rfl, rfl⟩
    ·have HC := hide hc
     subst h1
     clear hc
     go_wp2_with fail
     go_round
     case rel => exact ⟨k + 1, by omega, by go_num, by rw [unhide HNX, unhide HALL, unhide HC]; rfl⟩
     case measure => simp [intOf]; omega
    ·have HC := hide hc
     have d1 : ¬ (97 : Int) ≤ (x : Int) := by omega
     have d2 : (48 : Int) ≤ (x : Int) := by omega
     have d2b : (x : Int) ≤ 57 := by omega
     have d1' : decide ((97 : Int) ≤ (x : Int)) = false := decide_eq_false d1
     have d2' : decide ((48 : Int) ≤ (x : Int)) = true := decide_eq_true d2
     have d2b' : decide ((x : Int) ≤ 57) = true := decide_eq_true d2b
     clear hc
     go_wp2_with fail
     go_round
     case rel => exact ⟨k + 1, by omega, by go_num, by rw [unhide HNX, unhide HALL, unhide HC]; rfl⟩
     case measure => simp [intOf]; omega
    ·have HC := hide hc
     have d1 : (97 : Int) ≤ (x : Int) := by omega
     have d1b : (x : Int) ≤ 122 := by omega
     have d1' : decide ((97 : Int) ≤ (x : Int)) = true := decide_eq_true d1
     have d1b' : decide ((x : Int) ≤ 122) = true := decide_eq_true d1b
     clear hc
     go_wp2_with fail
     go_round
     case rel => exact ⟨k + 1, by omega, by go_num, by rw [unhide HNX, unhide HALL, unhide HC]; rfl⟩
     case measure => simp [intOf]; omega
   ·have hk' : k = s.length := by omega
    subst hk'
    rw [List.take_length] at HALL
    go_wp2_with fail
    go_ret
    exact ⟨by rw [unhide HALL]; rfl, rfl⟩
 ·rw [decide_eq_false h0, Bool.false_and] at hnb
  rw [decide_eq_false (by omega)] at c1
  have c1 := hide (fun (W : World) => (c1 W).mono fun e w' ⟨h1, h2⟩ => (⟨h1, h2.symm⟩ : e = Ending.returned (.bool false) ∧ w' = W))
  rw [hnb]
  clear hnb h0
  go_enter Tryz.func77, Tryz.ntmps77
  go_wp2_with fail
  refine (unhide c1 _).mono ?_
  rintro e w1 ⟨rfl, rfl⟩
  go_wp2_with fail
  go_ret
  exact ⟨rfl, rfl⟩
end Go.Proofs.YtjpgoeimclipjaaGreat
namespace Go.Proofs.YtjpgoeimclipjaaGreat
open Go.RowKit Go.Lib Pl
attribute [local go_sem] ext_list app_list
def lastN (fs : List Fil) (k : Nat) : Bytes := ((fs.take k).getLast?.map Fil.name).getD []
theorem lastN_next {fs : List Fil} {k : Nat} {f : Fil} (h : fs[k]? = some f) : lastN fs (k + 1) = f.name := by
 unfold lastN
 rw [List.take_add_one, h]
 simp
theorem drop_at {fs : List Fil} {k : Nat} {f : Fil} (h : fs[k]? = some f) : fs.drop k = f :: fs.drop (k + 1) := by
 have hk := (List.getElem?_eq_some_iff.1 h).1
 rw [List.drop_eq_getElem_cons hk]
 congr 1
 rw [List.getElem?_eq_getElem hk] at h
 exact Option.some.inj h
set_option maxHeartbeats 4000000 in
set_option maxRecDepth 100000 in
theorem check_arch (A : Option Addr) (n cap : Nat) (A2 : Option Addr) (n2 cap2 : Nat) (a : Arc) (w : World) (h : ArcIn w A n A2 n2 a) (hz : ArcSz a) :
  Calls Tryz.prog 31 #[arcV A n cap A2 n2 cap2] w fun e w' => e = .returned (I (checkA a)) ∧ Below w.heap.size w w' := by
 obtain ⟨B, hB⟩ : ∃ B, B = w.heap.size := ⟨_, rfl⟩
 obtain ⟨w0, hw0⟩ : ∃ w0, w0 = w.alloc (.cells #[.slice A n cap, .slice A2 n2 cap2] 33) := ⟨_, rfl⟩
 have H0 := hide (show ABox A n cap A2 n2 cap2 a w w0 B by rw [hw0, hB]; exact ABox.new h cap cap2)
 have hn1 : n ≤ 4611686018427387904 := by have := hz.nd; have := h.s.1; omega
 have hn2 : n2 ≤ 4611686018427387904 := by have := hz.nf; have := h.f.1; omega
 have hl1 := h.s.1
 have hl2 := h.f.1
 have HB := hide hB
 have HW0 := hide hw0
 have HZ := hide hz
 have hdz : ∀ t ∈ a.ds, t.length ≤ 9223372036854775807 := fun t ht => by have := hz.ds t ht; omega
 have c1 := containsFuncD_any A n cap a.ds w0 (unhide H0).i.s hn1 hdz
 have hck : checkA a = if 4 < n ∨ 12 < n2 ∨ a.ds.any bigD = true then 2 else if filesB a.ds [] a.fs = true then 0 else 1 := by unfold checkA; rw [hl1, hl2]
 obtain ⟨q, hq⟩ : ∃ q, q = a.ds.any bigD := ⟨_, rfl⟩
 rw [← hq] at c1 hck
 have c1 := hide c1
 have HQ := hide hq
 have HCK := hide hck
 clear hB hw0 h hz hdz hck hq
 have enter1 : True := trivial
 by_cases h4 : 4 < n
 ·have e1 : checkA a = 2 := by rw [unhide HCK, if_pos (Or.inl h4)]
  rw [e1]
  have d1 : (4 : Int) < (n : Int) := by omega
  clear e1
  go_enter Tryz.func31, Tryz.ntmps31
  go_upto_region 1 with fail
  rw [← unhide HW0, ← unhide HB]
  obtain ⟨q0, q1⟩ := (unhide H0).c
  go_wp2_with fail
  go_ret
  rw [← unhide HB]
  exact ⟨rfl, (unhide H0).bel⟩
 by_cases h12 : 12 < n2
 ·have e1 : checkA a = 2 := by rw [unhide HCK, if_pos (Or.inr (Or.inl h12))]
  rw [e1]
  have d1 : ¬ (4 : Int) < (n : Int) := by omega
  have d2 : (12 : Int) < (n2 : Int) := by omega
  clear e1
  go_enter Tryz.func31, Tryz.ntmps31
  go_upto_region 1 with fail
  rw [← unhide HW0, ← unhide HB]
  obtain ⟨q0, q1⟩ := (unhide H0).c
  go_wp2_with fail
  go_ret
  rw [← unhide HB]
  exact ⟨rfl, (unhide H0).bel⟩
 have d1 : ¬ (4 : Int) < (n : Int) := by omega
 have d2 : ¬ (12 : Int) < (n2 : Int) := by omega
 cases q with
 | true =>
  have e1 : checkA a = 2 := by rw [unhide HCK, if_pos (Or.inr (Or.inr rfl))]
  rw [e1]
  clear e1
  go_enter Tryz.func31, Tryz.ntmps31
  go_upto_region 1 with fail
  rw [← unhide HW0, ← unhide HB]
  obtain ⟨q0, q1⟩ := (unhide H0).c
  go_wp2_with fail
  refine (unhide c1).mono ?_
  rintro e w1 ⟨rfl, rfl⟩
  go_wp2_with fail
  go_ret
  rw [← unhide HB]
  exact ⟨rfl, (unhide H0).bel⟩
 | false =>
  have hck2 : checkA a = if filesB a.ds [] a.fs = true then 0 else 1 := by rw [unhide HCK, if_neg (fun x => x.elim h4 fun x => x.elim h12 fun x => by cases x)]
  rw [hck2]
  have hds : ∀ d ∈ a.ds, d.length ≤ 256 := fun d hd => by
   have := List.any_eq_false.1 (unhide HQ).symm d hd
   simp only [bigD, decide_eq_true_eq] at this
   omega
  have HDS := hide hds
  obtain ⟨fs, hfs⟩ : ∃ fs, fs = a.fs := ⟨_, rfl⟩
  have HFS := hide hfs
  obtain ⟨r, hr⟩ : ∃ r, r = filesB a.ds [] a.fs := ⟨_, rfl⟩
  rw [← hr]
  have HR := hide hr
  clear hck2 hds HCK HQ hfs hr
  go_enter Tryz.func31, Tryz.ntmps31
  go_upto_region 1 with fail
  rw [← unhide HW0, ← unhide HB]
  obtain ⟨q0, q1⟩ := (unhide H0).c
  go_wp2_with fail
  refine (unhide c1).mono ?_
  rintro e w1 ⟨rfl, rfl⟩
  go_wp2_with fail
  clear c1 HW0
  go_loopw [3, 26] (fun lv iv wr => ∃ k : Nat, k ≤ n2 ∧ iv = .int .i64 k ∧ lv = S (lastN a.fs k) ∧ ABox A n cap A2 n2 cap2 a w wr B ∧ r = filesB a.ds (lastN a.fs k) (a.fs.drop k)) (fun _ iv _ => n2 - (intOf iv).toNat)
  case atStart => exact ⟨0, by omega, rfl, rfl, unhide H0, by rw [unhide HR]; rfl⟩
  case round =>
   obtain ⟨k, hk, rfl, rfl, hbx, hrk⟩ := hrel
   have HBX := hide hbx
   obtain ⟨p0, p1⟩ := hbx.c
   by_cases hkn : k < n2
   ·obtain ⟨b, off, f, rfl, hb, hf, x0, x1, x2, x3, x4⟩ := hbx.i.f.at_ hkn
    have hfz := (unhide HZ).fs f (List.mem_of_getElem? hf)
    have hnx := lastN_next hf
    rw [drop_at hf, filesB] at hrk
    have HRK := hide hrk
    have HNX := hide hnx
    obtain ⟨w2, hw2⟩ : ∃ w2, w2 = wr.alloc (.cells #[S f.name, I f.dict, I f.size, I f.sum, S f.block] 61) := ⟨_, rfl⟩
    obtain ⟨D, hD⟩ : ∃ D, D = wr.heap.size := ⟨_, rfl⟩
    have H2 := hide (show ABox A n cap (some ⟨b, off, none⟩) n2 cap2 a w w2 B by rw [hw2]; exact hbx.below ((Below.refl _ _).alloc (Nat.le_refl _) _))
    have F2 := hide (show FBox f w w2 B D by rw [hw2, hD]; exact FBox.new f hbx.bel (Nat.le_of_lt hbx.lt))
    have c2 := text_any A n cap (some ⟨b, off, none⟩) n2 cap2 a f w2 (unhide H2).i hfz hn1 (unhide HDS)
    have c3 := hide (fun (W : World) => name_any f.name W hfz.nm)
    have hfb : fileB a.ds f = ((textO a.ds f).isSome && nameB f.name) := rfl
    obtain ⟨o, ho⟩ : ∃ o, o = textO a.ds f := ⟨_, rfl⟩
    rw [← ho] at c2 hfb
    obtain ⟨m, hm⟩ : ∃ m, m = nameB f.name := ⟨_, rfl⟩
    obtain ⟨ln, hln⟩ : ∃ ln, ln = lastN a.fs k := ⟨_, rfl⟩
    rw [← hln] at hrk ⊢
    rw [← hm] at c3 hfb
    rw [hfb] at hrk
    have c2 := hide c2
    obtain ⟨g0, g1⟩ := (unhide H2).c
    obtain ⟨y0, y1, y2, y3, y4⟩ := (unhide F2).c
    have hw2' := hw2.symm
    have hD' := hD.symm
    have hirr := lessB_irrefl ln
    have hcase : (o = none ∧ r = false) ∨ (∃ t, o = some t ∧ m = false ∧ r = false) ∨ (∃ t, o = some t ∧ m = true ∧ Op.bytesLess f.name ln = true ∧ r = false) ∨ (∃ t, o = some t ∧ m = true ∧ Op.bytesLess f.name ln = false ∧ (f.name == ln) = true ∧ r = false) ∨
      (∃ t, o = some t ∧ m = true ∧ Op.bytesLess f.name ln = false ∧ (f.name == ln) = false ∧ r = filesB a.ds f.name (a.fs.drop (k + 1))) := by
     rw [hrk]
     cases o with
     | none => exact .inl ⟨rfl, rfl⟩
     | some t =>
      cases m with
      | false => exact .inr (.inl ⟨t, rfl, rfl, rfl⟩)
      | true =>
       cases hlt : lessB ln f.name with
       | false =>
        by_cases h1 : lessB f.name ln = true
        ·exact .inr (.inr (.inl ⟨t, rfl, rfl, by rw [less_model]; exact h1, rfl⟩))
        ·have h1 : lessB f.name ln = false := by simpa using h1
         have he := lessB_total h1 hlt
         exact .inr (.inr (.inr (.inl ⟨t, rfl, rfl, by rw [less_model]; exact h1, by rw [beq_iff_eq]; exact he, rfl⟩)))
       | true =>
        have h1 : lessB f.name ln = false := by
         cases h2 : lessB f.name ln with
         | false => rfl
         | true => have := lessB_trans h2 hlt; rw [lessB_irrefl] at this; cases this
        have h3 : (f.name == ln) = false := by
         rw [beq_eq_false_iff_ne]
         intro e
         rw [e] at hlt
         rw [lessB_irrefl] at hlt
         cases hlt
        exact .inr (.inr (.inr (.inr ⟨t, rfl, rfl, by rw [less_model]; exact h1, h3, rfl⟩)))
    clear hrk hf hfz hnx hbx hw2 hD hirr HRK hfb hln ho hm
    rcases hcase with ⟨rfl, hr⟩ | ⟨t, rfl, rfl, hr⟩ | ⟨t, rfl, rfl, s1, hr⟩ | ⟨t, rfl, rfl, s1, s2, hr⟩ | ⟨t, rfl, rfl, s1, s2, hr⟩
    ·subst hr
     go_upto_region 7 with fail
     try rw [hw2']
     try rw [hD']
     go_wp2_with fail
     refine (unhide c2).mono ?_
     rintro e w3 ⟨hres, hb3⟩
     have F3 := hide ((unhide F2).below hb3)
     clear hb3 y0 y1 y2 y3 y4 g0 g1 x0 x1 x2 x3 x4 p0 p1
     rcases hres with ⟨t, ht, _⟩ | ⟨t, _, rfl⟩
     ·cases ht
     obtain ⟨y0, y1, y2, y3, y4⟩ := (unhide F3).c
     go_wp2_with fail
     go_ret
     rw [← unhide HB]
     exact ⟨rfl, (unhide F3).bel⟩
    ·subst hr
     go_upto_region 7 with fail
     try rw [hw2']
     try rw [hD']
     go_wp2_with fail
     refine (unhide c2).mono ?_
     rintro e w3 ⟨hres, hb3⟩
     have F3 := hide ((unhide F2).below hb3)
     have H3 := hide ((unhide H2).below hb3)
     clear hb3 y0 y1 y2 y3 y4 g0 g1 x0 x1 x2 x3 x4 p0 p1
     rcases hres with ⟨t2, ht, rfl⟩ | ⟨t2, ht, _⟩
     rotate_left
     ·cases ht
     obtain ⟨y0, y1, y2, y3, y4⟩ := (unhide F3).c
     go_wp2_with fail
     refine (unhide c3 _).mono ?_
     rintro e w4 ⟨rfl, hb4⟩
     have F4 := hide ((unhide F3).below hb4)
     have H4 := hide ((unhide H3).below hb4)
     clear hb4 y0 y1 y2 y3 y4
     obtain ⟨y0, y1, y2, y3, y4⟩ := (unhide F4).c
     go_wp2_with fail
     go_ret
     rw [← unhide HB]
     exact ⟨rfl, (unhide F4).bel⟩
    ·subst hr
     go_upto_region 7 with fail
     try rw [hw2']
     try rw [hD']
     go_wp2_with fail
     refine (unhide c2).mono ?_
     rintro e w3 ⟨hres, hb3⟩
     have F3 := hide ((unhide F2).below hb3)
     have H3 := hide ((unhide H2).below hb3)
     clear hb3 y0 y1 y2 y3 y4 g0 g1 x0 x1 x2 x3 x4 p0 p1
     rcases hres with ⟨t2, ht, rfl⟩ | ⟨t2, ht, _⟩
     rotate_left
     ·cases ht
     obtain ⟨y0, y1, y2, y3, y4⟩ := (unhide F3).c
     go_wp2_with fail
     refine (unhide c3 _).mono ?_
     rintro e w4 ⟨rfl, hb4⟩
     have F4 := hide ((unhide F3).below hb4)
     have H4 := hide ((unhide H3).below hb4)
     clear hb4 y0 y1 y2 y3 y4
     obtain ⟨y0, y1, y2, y3, y4⟩ := (unhide F4).c
     go_wp2_with fail
     go_ret
     rw [← unhide HB]
     exact ⟨rfl, (unhide F4).bel⟩
    ·subst hr
     go_upto_region 7 with fail
     try rw [hw2']
     try rw [hD']
     go_wp2_with fail
     refine (unhide c2).mono ?_
     rintro e w3 ⟨hres, hb3⟩
     have F3 := hide ((unhide F2).below hb3)
     have H3 := hide ((unhide H2).below hb3)
     clear hb3 y0 y1 y2 y3 y4 g0 g1 x0 x1 x2 x3 x4 p0 p1
     rcases hres with ⟨t2, ht, rfl⟩ | ⟨t2, ht, _⟩
     rotate_left
     ·cases ht
     obtain ⟨y0, y1, y2, y3, y4⟩ := (unhide F3).c
     go_wp2_with fail
     refine (unhide c3 _).mono ?_
     rintro e w4 ⟨rfl, hb4⟩
     have F4 := hide ((unhide F3).below hb4)
     have H4 := hide ((unhide H3).below hb4)
     clear hb4 y0 y1 y2 y3 y4
     obtain ⟨y0, y1, y2, y3, y4⟩ := (unhide F4).c
     go_wp2_with fail
     go_ret
     rw [← unhide HB]
     exact ⟨rfl, (unhide F4).bel⟩
    ·have HR2 := hide hr
     clear hr
     go_upto_region 7 with fail
     try rw [hw2']
     try rw [hD']
     go_wp2_with fail
     refine (unhide c2).mono ?_
     rintro e w3 ⟨hres, hb3⟩
     have F3 := hide ((unhide F2).below hb3)
     have H3 := hide ((unhide H2).below hb3)
     clear hb3 y0 y1 y2 y3 y4 g0 g1 x0 x1 x2 x3 x4 p0 p1
     rcases hres with ⟨t2, ht, rfl⟩ | ⟨t2, ht, _⟩
     rotate_left
     ·cases ht
     obtain ⟨y0, y1, y2, y3, y4⟩ := (unhide F3).c
     go_wp2_with fail
     refine (unhide c3 _).mono ?_
     rintro e w4 ⟨rfl, hb4⟩
     have F4 := hide ((unhide F3).below hb4)
     have H4 := hide ((unhide H3).below hb4)
     clear hb4 y0 y1 y2 y3 y4
     obtain ⟨y0, y1, y2, y3, y4⟩ := (unhide F4).c
     go_wp2_with fail
     go_roundw
     case rel => exact ⟨k + 1, by omega, by go_num, by rw [unhide HNX], unhide H4, by rw [unhide HNX]; exact unhide HR2⟩
     case measure => simp [intOf]; omega
   ·have hk' : k = n2 := by omega
    subst hk'
    rw [List.drop_of_length_le (by omega), filesB] at hrk
    subst hrk
    go_wp2_with fail
    go_ret
    rw [← unhide HB]
    exact ⟨rfl, (unhide HBX).bel⟩
end Go.Proofs.YtjpgoeimclipjaaGreat
namespace Go.Proofs.YtjpgoeimclipjaaGreat
open Go.RowKit Go.Lib Pl
attribute [local go_sem] ext_list app_list
theorem ownFil_set {w : World} {base g cap n : Nat} {l : List Fil} (h : w.ownsRow base 61 5 (.slice (some ⟨g, 0, none⟩) n cap) n (filsCells l)) {i : Nat} (hi : i < n) (f : Fil) :
  w.there g (i * 5) 5 ∧ (w.setCells g (i * 5) (filCells f)).ownsRow base 61 5 (.slice (some ⟨g, 0, none⟩) n cap) n (filsCells (l.set i f)) ∧ w.grownBy (w.setCells g (i * 5) (filCells f)) (some g) ∧ base ≤ g := by
 obtain ⟨cur, hb, hg, hnc, hcm, hsz, ht⟩ := ownsFil_row h
 have hl := ownsFil_len h
 have hth : w.there g (i * 5) 5 := fun j hj => by
  refine ⟨?_, by simp [World.frozen?, hg]⟩
  rw [cell_of_row w g _ cur _ _ hg, Array.getElem?_eq_getElem (by omega)]; rfl
 have hst := run_storeCells_at Tryz.prog g (i * 5) 61 (filCells f) 0 cur w hg (by rw [filCells_len]; omega) (fil_one f)
 have hst2 := run_storeCells_cells (P := Tryz.prog) g (i * 5) (filCells f) 0 w (fun j hj => by simpa using (hth j (by simpa [filCells_len] using hj)).1) (fun j hj => by simpa using (hth j (by simpa [filCells_len] using hj)).2) (fil_one f)
 rw [hst] at hst2
 injection hst2 with _ hst2
 simp only [Nat.add_zero] at hst2
 rw [← hst2]
 refine ⟨hth, ownsFil_mk hb (setRow_heap _ _ _ _ _ _ hg) hnc hcm (by simp [filCells]; omega) (by simpa using hl) ?_, ⟨rfl, rfl, rfl, by simp [World.setRow], fun k hk hne => setRow_other w g k _ (fun e => hne (by rw [e]))⟩, hb⟩
 have e1 : cur.toList.take (i * 5) = filsCells (l.take i) := by
  rw [← filsCells_take (by omega), ← ht, List.take_take, Nat.min_eq_left (by omega)]
 have e2 : (cur.toList.drop (i * 5 + 5)).take ((n - (i + 1)) * 5) = filsCells (l.drop (i + 1)) := by
  rw [← filsCells_drop (by omega), ← ht, List.drop_take, show (i + 1) * 5 = i * 5 + 5 from by omega]
  congr 1; omega
 have hlen : (filsCells (l.take i) ++ filCells f).length = (i + 1) * 5 := by
  rw [List.length_append, filsCells_len, filCells_len, List.length_take]; omega
 rw [List.toList_toArray, filsCells_set (by omega), e1, filCells_len, List.take_append, hlen, List.take_of_length_le (by rw [hlen]; omega), show n * 5 - (i + 1) * 5 = (n - (i + 1)) * 5 from by omega, e2, List.append_assoc]
structure PutS (A : Option Addr) (n cap : Nat) (A2 : Option Addr) (n2 cap2 : Nat) (a : Arc) (w W : World) (B E P : Nat) (v1 v2 : Value) : Prop where
 r : AR A n cap A2 n2 cap2 a w W B
 p : W.heap[P]? = some (.cells #[v1, v2] 33 (0, 0))
 o : OwnA W E v1 v2 a
 be : B + 1 < E
 ob : ∀ k, v1.ownBlock = some k ∨ v2.ownBlock = some k → k < P
 ep : E ≤ P
section
variable {A A2 : Option Addr} {n cap n2 cap2 : Nat} {a : Arc} {w W W1 : World} {B E P : Nat} {v1 v2 : Value}
theorem PutS.lt (h : PutS A n cap A2 n2 cap2 a w W B E P v1 v2) : P < W.heap.size := (Array.getElem?_eq_some_iff.1 h.p).1
theorem PutS.below (h : PutS A n cap A2 n2 cap2 a w W B E P v1 v2) (hb : Below W.heap.size W W1) : PutS A n cap A2 n2 cap2 a w W1 B E P v1 v2 :=
 ⟨h.r.below hb, (hb.block _ h.lt).trans h.p, h.o.below hb, h.be, h.ob, h.ep⟩
theorem PutS.new (h : AR A n cap A2 n2 cap2 a w W B) (ho : OwnA W E v1 v2 a) (hE : B + 1 < E) (hEW : E ≤ W.heap.size) :
  PutS A n cap A2 n2 cap2 a w ((W.alloc (.cells #[.slice none 0 0, .slice none 0 0] 33)).setRow W.heap.size #[v1, v2]) B E W.heap.size v1 v2 := by
 have hb : Below W.heap.size W ((W.alloc (.cells #[.slice none 0 0, .slice none 0 0] 33)).setRow W.heap.size #[v1, v2]) := below_setRow ((Below.refl _ _).alloc (Nat.le_refl _) _) (Nat.le_refl _) _
 refine ⟨h.below hb, setRow_heap _ _ _ _ _ _ (heap_alloc_new _ _), ho.below hb, hE, fun k hk => ?_, hEW⟩
 rcases hk with hk | hk
 ·exact (ho.s.lt k hk).2
 ·exact (ho.f.lt k hk).2
theorem PutS.cells (h : PutS A n cap A2 n2 cap2 a w W B E P v1 v2) : W.cell? ⟨P, 0, none⟩ = some v1 ∧ W.cell? ⟨P, 1, none⟩ = some v2 ∧ W.frozen? ⟨P, 0, none⟩ = false ∧ W.frozen? ⟨P, 1, none⟩ = false := two_cells h.p
end
theorem own_setRow {w : World} {base e size n g : Nat} {v : Value} {xs : List Value} (h : w.ownsRow base e size v n xs) (hg : ∀ k, v.ownBlock = some k → k ≠ g) (c : Array Value) : (w.setRow g c).ownsRow base e size v n xs := by
 refine ⟨h.1, ?_⟩
 rcases h.2 with hn | ⟨b, cap, cur, rfl, hbb, hgg, rest⟩
 ·exact .inl hn
 ·exact .inr ⟨b, cap, cur, rfl, hbb, (setRow_other w g b c (hg b rfl)).trans hgg, rest⟩
theorem put_end {w W : World} {B E : Nat} {v1 v2 : Value} {x : Arc} (hz : W.heap[B + 1]? = some (.cells #[.slice none 0 0, .slice none 0 0] 33 (0, 0))) (hE : B + 1 < E) (ho : OwnA W E v1 v2 x) (hb : Below B w W) :
  (W.setRow (B + 1) #[v1, v2]).heap[B + 1]? = some (.cells #[v1, v2] 33 (0, 0)) ∧ OwnA (W.setRow (B + 1) #[v1, v2]) B v1 v2 x ∧ Below B w (W.setRow (B + 1) #[v1, v2]) :=
 ⟨setRow_heap _ _ _ _ _ _ hz, ⟨own_mono (own_setRow ho.s (fun k hk => by have := (ho.s.lt k hk).1; omega) _) (by omega), own_mono (own_setRow ho.f (fun k hk => by have := (ho.f.lt k hk).1; omega) _) (by omega)⟩, below_setRow hb (by omega) _⟩
theorem one_two (A A2 : Option Addr) (n cap n2 cap2 : Nat) : (#[Value.slice A n cap, Value.slice A2 n2 cap2] : Array Value).all (·.oneCell') = true :=
 all_oneCell_toArray (cs := [Value.slice A n cap, Value.slice A2 n2 cap2]) (by intro v hv; simp at hv; rcases hv with rfl | rfl <;> rfl)
set_option maxHeartbeats 8000000 in
set_option maxRecDepth 100000 in
theorem put_any (A : Option Addr) (n cap : Nat) (A2 : Option Addr) (n2 cap2 : Nat) (a : Arc) (file text : Bytes) (k : Int) (w : World) (h : ArcIn w A n A2 n2 a) (hz : ArcSz a) (hfl : file.length ≤ 140737488355328) (htl : text.length ≤ 9223372036854775807) (hk0 : -9223372036854775808 ≤ k) (hk1 : k ≤ 9223372036854775807) :
  Calls Tryz.prog 26 #[arcV A n cap A2 n2 cap2, S file, S text, I k] w fun e w' => ArcRes w.heap.size (put a file text k) e w' ∧ Below w.heap.size w w' := by
 obtain ⟨B, hB⟩ : ∃ B, B = w.heap.size := ⟨_, rfl⟩
 obtain ⟨w0, hw0⟩ : ∃ w0, w0 = (w.alloc (.cells #[.slice A n cap, .slice A2 n2 cap2] 33)).alloc (.cells #[.slice none 0 0, .slice none 0 0] 33) := ⟨_, rfl⟩
 have H0 := hide (show AR A n cap A2 n2 cap2 a w w0 B by rw [hw0, hB]; exact AR.new h cap cap2)
 have hl1 := h.s.1
 have hl2 := h.f.1
 have CK : ∀ W, AR A n cap A2 n2 cap2 a w W B → Calls Tryz.prog 31 #[arcV A n cap A2 n2 cap2] W fun e w' => e = .returned (I (checkA a)) ∧ Below W.heap.size W w' := fun W hW => check_arch A n cap A2 n2 cap2 a W hW.ab.i hz
 have CN := hide (fun (W : World) => name_any file W hfl)
 have CD : ∀ W, AR A n cap A2 n2 cap2 a w W B → Calls Tryz.prog 70 #[arcV A n cap A2 n2 cap2, I k] W fun e w' => e = .returned (.tuple #[S ((dictO a.ds k).getD []), .bool (dictO a.ds k).isSome]) ∧ Below W.heap.size W w' := fun W hW => dict_any A n cap A2 n2 cap2 a k W hW.ab.i (by have := hz.nd; omega) hk0 hk1
 obtain ⟨r, hr⟩ : ∃ r, r = put a file text k := ⟨_, rfl⟩
 rw [← hr, ← hB]
 have hput : r = if checkA a ≠ 0 then (arc0, checkA a) else if nameB file = false then (arc0, 4) else if dictO a.ds k = none then (arc0, 3) else if 512 < text.length then (arc0, 2) else if 12 < (insF (packedF a.ds file text k) a.fs).length then (arc0, 2) else (⟨a.ds, insF (packedF a.ds file text k) a.fs⟩, 0) := hr
 have HB := hide hB
 have HW0 := hide hw0
 have CD := hide CD
 have HZ := hide hz
 clear hB hw0 h hr hz
 by_cases hck : checkA a ≠ 0
 ·rw [if_pos hck] at hput
  obtain ⟨c, hc⟩ : ∃ c, c = checkA a := ⟨_, rfl⟩
  rw [← hc] at CK hput hck
  have CK := hide CK
  have d1 : ((c : Int) != 0) = true := by rw [bne_iff_ne]; omega
  have d2 : ((c : Int) == 0) = false := by rw [beq_eq_false_iff_ne]; omega
  have d3 : ¬ (c : Int) = 0 := by omega
  subst hput
  clear hck hc
  go_enter Tryz.func26, Tryz.ntmps26
  go_upto_region 1 with fail
  rw [← unhide HW0, ← unhide HB]
  obtain ⟨q0, q1⟩ := (unhide H0).ab.c
  go_wp2_with fail
  refine (unhide CK _ (unhide H0)).mono ?_
  rintro e w1 ⟨rfl, hb1⟩
  have H1 := hide ((unhide H0).below hb1)
  clear hb1 q0 q1
  obtain ⟨q0, q1⟩ := (unhide H1).ab.c
  go_wp2_with (refine wpList_store_row rfl 33 (.tmp 8) (.tmp 21) rfl (B + 1) #[.slice none 0 0, .slice none 0 0] rfl rfl 33 _ (unhide H1).z sizeArc rfl all_nil2 ?_)
  refine bodyPost_ret (results_row_tmp rfl _ _ (B + 1) 33 #[.slice none 0 0, .slice none 0 0] (0, 0) _ rfl ((unhide H1).end_ _).1 Tryz.underlying33 rfl sizeArc) rfl ⟨⟨_, _, rfl, ?_⟩, ((unhide H1).end_ _).2⟩
  exact OwnA.nil _ _
 have hck0 : checkA a = 0 := Decidable.not_not.1 hck
 have hra := (check_iff a).1 hck0
 rw [if_neg hck] at hput
 rw [hck0] at CK
 have CK := hide CK
 clear hck hck0
 by_cases hnm : nameB file = false
 ·rw [if_pos hnm] at hput
  rw [hnm] at CN
  subst hput
  clear hnm
  go_enter Tryz.func26, Tryz.ntmps26
  go_upto_region 1 with fail
  rw [← unhide HW0, ← unhide HB]
  obtain ⟨q0, q1⟩ := (unhide H0).ab.c
  go_wp2_with fail
  refine (unhide CK _ (unhide H0)).mono ?_
  rintro e w1 ⟨rfl, hb1⟩
  have H1 := hide ((unhide H0).below hb1)
  clear hb1 q0 q1
  obtain ⟨q0, q1⟩ := (unhide H1).ab.c
  go_wp2_with fail
  refine (unhide CD _ (unhide H1)).mono ?_
  rintro e w2 ⟨rfl, hb2⟩
  have H2 := hide ((unhide H1).below hb2)
  clear hb2 q0 q1
  obtain ⟨q0, q1⟩ := (unhide H2).ab.c
  go_wp2_with fail
  refine (unhide CN _).mono ?_
  rintro e w3 ⟨rfl, hb3⟩
  have H3 := hide ((unhide H2).below hb3)
  clear hb3 q0 q1
  obtain ⟨q0, q1⟩ := (unhide H3).ab.c
  go_wp2_with (refine wpList_store_row rfl 33 (.tmp 8) (.tmp 33) rfl (B + 1) #[.slice none 0 0, .slice none 0 0] rfl rfl 33 _ (unhide H3).z sizeArc rfl all_nil2 ?_)
  refine bodyPost_ret (results_row_tmp rfl _ _ (B + 1) 33 #[.slice none 0 0, .slice none 0 0] (0, 0) _ rfl ((unhide H3).end_ _).1 Tryz.underlying33 rfl sizeArc) rfl ⟨⟨_, _, rfl, ?_⟩, ((unhide H3).end_ _).2⟩
  exact OwnA.nil _ _
 rw [if_neg hnm] at hput
 have hnm : nameB file = true := by simpa using hnm
 rw [hnm] at CN
 cases hdo : dictO a.ds k with
 | none =>
  rw [if_pos hdo] at hput
  rw [hdo] at CD
  subst hput
  clear hnm hdo
  go_enter Tryz.func26, Tryz.ntmps26
  go_upto_region 1 with fail
  rw [← unhide HW0, ← unhide HB]
  obtain ⟨q0, q1⟩ := (unhide H0).ab.c
  go_wp2_with fail
  refine (unhide CK _ (unhide H0)).mono ?_
  rintro e w1 ⟨rfl, hb1⟩
  have H1 := hide ((unhide H0).below hb1)
  clear hb1 q0 q1
  obtain ⟨q0, q1⟩ := (unhide H1).ab.c
  go_wp2_with fail
  refine (unhide CD _ (unhide H1)).mono ?_
  rintro e w2 ⟨rfl, hb2⟩
  have H2 := hide ((unhide H1).below hb2)
  clear hb2 q0 q1
  obtain ⟨q0, q1⟩ := (unhide H2).ab.c
  go_wp2_with fail
  refine (unhide CN _).mono ?_
  rintro e w3 ⟨rfl, hb3⟩
  have H3 := hide ((unhide H2).below hb3)
  clear hb3 q0 q1
  obtain ⟨q0, q1⟩ := (unhide H3).ab.c
  go_wp2_with (refine wpList_store_row rfl 33 (.tmp 8) (.tmp 37) rfl (B + 1) #[.slice none 0 0, .slice none 0 0] rfl rfl 33 _ (unhide H3).z sizeArc rfl all_nil2 ?_)
  refine bodyPost_ret (results_row_tmp rfl _ _ (B + 1) 33 #[.slice none 0 0, .slice none 0 0] (0, 0) _ rfl ((unhide H3).end_ _).1 Tryz.underlying33 rfl sizeArc) rfl ⟨⟨_, _, rfl, ?_⟩, ((unhide H3).end_ _).2⟩
  exact OwnA.nil _ _
 | some d =>
  rw [if_neg (by rw [hdo]; simp)] at hput
  have hdl := dictO_len hra.sd hdo
  by_cases htx : 512 < text.length
  ·rw [if_pos htx] at hput
   rw [hdo] at CD
   have d1 : (512 : Int) < (text.length : Int) := by omega
   subst hput
   clear hnm hdo htx
   go_enter Tryz.func26, Tryz.ntmps26
   go_upto_region 1 with fail
   rw [← unhide HW0, ← unhide HB]
   obtain ⟨q0, q1⟩ := (unhide H0).ab.c
   go_wp2_with fail
   refine (unhide CK _ (unhide H0)).mono ?_
   rintro e w1 ⟨rfl, hb1⟩
   have H1 := hide ((unhide H0).below hb1)
   clear hb1 q0 q1
   obtain ⟨q0, q1⟩ := (unhide H1).ab.c
   go_wp2_with fail
   refine (unhide CD _ (unhide H1)).mono ?_
   rintro e w2 ⟨rfl, hb2⟩
   have H2 := hide ((unhide H1).below hb2)
   clear hb2 q0 q1
   obtain ⟨q0, q1⟩ := (unhide H2).ab.c
   go_wp2_with fail
   refine (unhide CN _).mono ?_
   rintro e w3 ⟨rfl, hb3⟩
   have H3 := hide ((unhide H2).below hb3)
   clear hb3 q0 q1
   obtain ⟨q0, q1⟩ := (unhide H3).ab.c
   go_wp2_with (refine wpList_store_row rfl 33 (.tmp 8) (.tmp 42) rfl (B + 1) #[.slice none 0 0, .slice none 0 0] rfl rfl 33 _ (unhide H3).z sizeArc rfl all_nil2 ?_)
   refine bodyPost_ret (results_row_tmp rfl _ _ (B + 1) 33 #[.slice none 0 0, .slice none 0 0] (0, 0) _ rfl ((unhide H3).end_ _).1 Tryz.underlying33 rfl sizeArc) rfl ⟨⟨_, _, rfl, ?_⟩, ((unhide H3).end_ _).2⟩
   exact OwnA.nil _ _
  rw [if_neg htx] at hput
  have d1 : ¬ (512 : Int) < (text.length : Int) := by omega
  have CP : ∀ W, AR A n cap A2 n2 cap2 a w W B → Calls Tryz.prog 73 #[arcV A n cap A2 n2 cap2, S file, S text, I k] W fun e w' => e = .returned (filV (packedF a.ds file text k)) ∧ Below W.heap.size W w' := fun W hW => packed_any A n cap A2 n2 cap2 a file text k d W hW.ab.i (by have := hra.nd; omega) hk0 hk1 hdo hdl (by omega)
  have CF : ∀ W, AR A n cap A2 n2 cap2 a w W B → Calls Tryz.prog 74 #[arcV A n cap A2 n2 cap2, S file] W fun e w' => e = .returned (.tuple #[I (posF file a.fs), .bool (thereB file a.fs)]) ∧ Below W.heap.size W w' := fun W hW => find_any A n cap A2 n2 cap2 a file W hW.ab.i (by have := hra.nf; omega) hra.fr.asc
  have CC : ∀ W, AR A n cap A2 n2 cap2 a w W B → Calls Tryz.prog 72 #[arcV A n cap A2 n2 cap2] W fun e w' => ∃ A' cap' A2' cap2', e = .returned (.agg #[.slice A' n cap', .slice A2' n2 cap2']) ∧ OwnA w' W.heap.size (.slice A' n cap') (.slice A2' n2 cap2') a ∧ Below W.heap.size W w' := fun W hW => by
   refine (copied_any A n cap A2 n2 cap2 a W hW.ab.i (by have := hra.nd; omega) (by have := hra.nf; omega)).mono ?_
   rintro e w' ⟨v1, v2, he, ho, hb⟩
   obtain ⟨A', cap', A2', cap2', rfl, rfl, _⟩ := ho.form
   rw [hl1] at he ho
   rw [hl2] at he ho
   exact ⟨A', cap', A2', cap2', he, ho, hb⟩
  rw [hdo] at CD
  obtain ⟨f, hf⟩ : ∃ f, f = packedF a.ds file text k := ⟨_, rfl⟩
  have hfn : f.name = file := by rw [hf]; rfl
  rw [← hf] at CP hput
  have hil := insF_len (f := f) (fs := a.fs)
  rw [hfn] at hil
  have hpl := posF_le file a.fs
  have h12 := hra.nf
  have CP := hide CP
  have CC := hide CC
  clear hnm hdo htx hdl hf hra
  cases hth : thereB file a.fs with
  | true =>
   rw [if_neg (by rw [hil, if_pos hth]; omega), insF_there (by rw [hfn]; exact hth), hfn] at hput
   have hpt := there_lt hth
   rw [hth] at CF
   obtain ⟨i, hi⟩ : ∃ i, i = posF file a.fs := ⟨_, rfl⟩
   rw [← hi] at CF hput hpt
   have CF := hide CF
   have z1 : (i : Int) < (n2 : Int) := by omega
   have z2 : (0 : Int) ≤ (i : Int) := by omega
   subst hput
   clear hil hpl hi hth hfn
   go_enter Tryz.func26, Tryz.ntmps26
   go_upto_region 1 with fail
   rw [← unhide HW0, ← unhide HB]
   obtain ⟨q0, q1⟩ := (unhide H0).ab.c
   go_wp2_with fail
   refine (unhide CK _ (unhide H0)).mono ?_
   rintro e w1 ⟨rfl, hb1⟩
   have H1 := hide ((unhide H0).below hb1)
   clear hb1 q0 q1
   obtain ⟨q0, q1⟩ := (unhide H1).ab.c
   go_wp2_with fail
   refine (unhide CD _ (unhide H1)).mono ?_
   rintro e w2 ⟨rfl, hb2⟩
   have H2 := hide ((unhide H1).below hb2)
   clear hb2 q0 q1
   obtain ⟨q0, q1⟩ := (unhide H2).ab.c
   go_wp2_with fail
   refine (unhide CN _).mono ?_
   rintro e w3 ⟨rfl, hb3⟩
   have H3 := hide ((unhide H2).below hb3)
   clear hb3 q0 q1
   obtain ⟨q0, q1⟩ := (unhide H3).ab.c
   go_wp2_with fail
   refine (unhide CC _ (unhide H3)).mono ?_
   rintro e w4 ⟨A', cap', A2', cap2', rfl, ho4, hb4⟩
   have H4 := hide ((unhide H3).below hb4)
   have HO4 := hide ho4
   have HS4 := hide hb4.size
   clear hb4 ho4 q0 q1
   go_upto_region 12 with (refine wpList_store_row rfl 33 (.tmp 13) (.tmp 44) rfl w4.heap.size #[.slice A' n cap', .slice A2' n2 cap2'] rfl rfl 33 _ (heap_alloc_new _ _) sizeArc rfl (one_two _ _ _ _ _ _) ?_)
   obtain ⟨w5, hw5⟩ : ∃ w5, w5 = (w4.alloc (.cells #[.slice none 0 0, .slice none 0 0] 33)).setRow w4.heap.size #[.slice A' n cap', .slice A2' n2 cap2'] := ⟨_, rfl⟩
   obtain ⟨P, hP⟩ : ∃ P, P = w4.heap.size := ⟨_, rfl⟩
   have S5 := hide (show PutS A n cap A2 n2 cap2 a w w5 B w3.heap.size P (.slice A' n cap') (.slice A2' n2 cap2') by rw [hw5, hP]; exact PutS.new (unhide H4) (unhide HO4) (unhide H3).lt (unhide HS4))
   rw [← hw5, ← hP]
   obtain ⟨E, hE⟩ : ∃ E, E = w3.heap.size := ⟨_, rfl⟩
   rw [← hE] at S5
   clear hw5 hP hE
   obtain ⟨q0, q1⟩ := (unhide S5).r.ab.c
   go_wp2_with fail
   refine (unhide CP _ (unhide S5).r).mono ?_
   rintro e w6 ⟨rfl, hb6⟩
   have S6 := hide ((unhide S5).below hb6)
   clear hb6 q0 q1
   go_upto_region 13 with (refine wpList_store_row rfl 61 (.tmp 14) (.tmp 49) rfl w6.heap.size (filA f) rfl rfl 61 _ (heap_alloc_new _ _) sizeFil rfl (filA_one f) ?_)
   obtain ⟨w7, hw7⟩ : ∃ w7, w7 = (w6.alloc (.cells zeroF 61)).setRow w6.heap.size (filA f) := ⟨_, rfl⟩
   obtain ⟨D, hD⟩ : ∃ D, D = w6.heap.size := ⟨_, rfl⟩
   have S7 := hide (show PutS A n cap A2 n2 cap2 a w w7 B E P (.slice A' n cap') (.slice A2' n2 cap2') by rw [hw7]; exact (unhide S6).below (below_setRow ((Below.refl _ _).alloc (Nat.le_refl _) _) (Nat.le_refl _) _))
   have F7 := hide (show w7.heap[D]? = some (.cells (filA f) 61 (0, 0)) by rw [hw7, hD]; exact setRow_heap _ _ _ _ _ _ (heap_alloc_new _ _))
   rw [← hw7, ← hD]
   have hPD : P < D := by rw [hD]; exact (unhide S6).lt
   clear hw7 hD
   obtain ⟨q0, q1⟩ := (unhide S7).r.ab.c
   go_wp2_with fail
   refine (unhide CF _ (unhide S7).r).mono ?_
   rintro e w8 ⟨rfl, hb8⟩
   have S8 := hide ((unhide S7).below hb8)
   have F8 := hide ((hb8.block D (Array.getElem?_eq_some_iff.1 (unhide F7)).1).trans (unhide F7))
   clear hb8 q0 q1
   obtain ⟨q0, q1⟩ := (unhide S8).r.ab.c
   obtain ⟨p0, p1, p2, p3⟩ := (unhide S8).cells
   have x0 : w8.cell? ⟨D, 0, none⟩ = some (S f.name) := by rw [cell_of_row _ _ _ _ _ _ (unhide F8)]; rfl
   have x1 : w8.cell? ⟨D, 1, none⟩ = some (I f.dict) := by rw [cell_of_row _ _ _ _ _ _ (unhide F8)]; rfl
   have x2 : w8.cell? ⟨D, 2, none⟩ = some (I f.size) := by rw [cell_of_row _ _ _ _ _ _ (unhide F8)]; rfl
   have x3 : w8.cell? ⟨D, 3, none⟩ = some (I f.sum) := by rw [cell_of_row _ _ _ _ _ _ (unhide F8)]; rfl
   have x4 : w8.cell? ⟨D, 4, none⟩ = some (S f.block) := by rw [cell_of_row _ _ _ _ _ _ (unhide F8)]; rfl
   obtain ⟨g, gc, hgv⟩ : ∃ g gc, (Value.slice A2' n2 cap2') = .slice (some ⟨g, 0, none⟩) n2 gc := by
    have hof := (unhide S8).o.f
    rw [hl2] at hof
    rcases ownsFil_form hof with ⟨_, h0, _⟩ | h1
    ·omega
    ·exact h1
   injection hgv with hg1 _ hg2
   subst hg1; subst hg2
   have hset := ownFil_set (by have := (unhide S8).o.f; rw [hl2] at this; exact this) (show i < n2 by omega) f
   have hset1 := hset.1
   have HSET := hide hset.2
   clear hset
   go_upto_region 19 with (refine wpList_store_mid rfl 61 (.tmp 69) (.tmp 68) rfl g (i * 5) (filA f) rfl rfl hset1 sizeFil (filA_one f) ?_)
   obtain ⟨w9, hw9⟩ : ∃ w9, w9 = w8.setCells g (i * 5) (filA f).toList := ⟨_, rfl⟩
   have HSET : Hid (w9.ownsRow E 61 5 (.slice (some ⟨g, 0, none⟩) n2 cap2') n2 (filsCells (a.fs.set i f)) ∧ w8.grownBy w9 (some g) ∧ E ≤ g) := by rw [hw9]; exact unhide HSET
   rw [← hw9]
   clear hw9 hset1 p0 p1 p2 p3 q0 q1 x0 x1 x2 x3 x4
   obtain ⟨hs1, hs2, hs3⟩ := unhide HSET
   have hgP := (unhide S8).ob g (.inr rfl)
   have hP9 : w9.heap[P]? = some (.cells #[.slice A' n cap', .slice (some ⟨g, 0, none⟩) n2 cap2'] 33 (0, 0)) := by rw [hs2.block P (unhide S8).lt (by simp; omega)]; exact (unhide S8).p
   have hB9 : w9.heap[B + 1]? = some (.cells #[.slice none 0 0, .slice none 0 0] 33 (0, 0)) := by rw [hs2.block (B + 1) (unhide S8).r.lt (by have := (unhide S8).be; simp; omega)]; exact (unhide S8).r.z
   have hO9 : OwnA w9 E (.slice A' n cap') (.slice (some ⟨g, 0, none⟩) n2 cap2') ⟨a.ds, a.fs.set i f⟩ := by
    refine ⟨(unhide S8).o.s.kept hs2 (.inr (fun e => ?_)), by simpa [hl2] using hs1⟩
    have hds := (unhide S8).o.s
    rcases hds.2 with ⟨hv, _⟩ | ⟨g2, c2, cu2, hv, _, hg2, _⟩
    ·rw [hv] at e; simp [Value.ownBlock] at e
    ·rw [hv] at e
     simp only [Value.ownBlock, Option.some.injEq] at e
     subst e
     obtain ⟨cu3, _, hg3, _⟩ := ownsFil_row (by have := (unhide S8).o.f; rw [hl2] at this; exact this)
     rw [hg2] at hg3
     injection hg3 with hg3
     injection hg3 with _ hg3 _
     exact absurd hg3 (by decide)
   have hL9 : Below B w w9 := (unhide S8).r.ab.bel.grown hs2 (by have := (unhide S8).r.lt; omega) (fun j hj => by have := (unhide S8).be; simp at hj; omega)
   obtain ⟨e1, e2, e3⟩ := put_end hB9 (unhide S8).be hO9 hL9
   obtain ⟨p0, p1, _, _⟩ := two_cells hP9
   have E1 := hide e1
   have E2 := hide e2
   have E3 := hide e3
   have HB9 := hide hB9
   clear hs1 hs2 hs3 hgP hP9 hB9 hO9 hL9 e1 e2 e3
   go_wp2_with (refine wpList_store_row rfl 33 (.tmp 8) (.tmp 76) rfl (B + 1) #[.slice A' n cap', .slice (some ⟨g, 0, none⟩) n2 cap2'] rfl rfl 33 _ (unhide HB9) sizeArc rfl (one_two _ _ _ _ _ _) ?_)
   refine bodyPost_ret (results_row_tmp rfl _ _ (B + 1) 33 #[.slice A' n cap', .slice (some ⟨g, 0, none⟩) n2 cap2'] (0, 0) _ rfl (unhide E1) Tryz.underlying33 rfl sizeArc) rfl ⟨⟨_, _, rfl, unhide E2⟩, unhide E3⟩
  | false =>
   have hnt : insF f a.fs = a.fs.take (posF file a.fs) ++ f :: a.fs.drop (posF file a.fs) := by have := insF_new (f := f) (fs := a.fs) (by rw [hfn]; exact hth); rw [hfn] at this; exact this
   rw [show (insF f a.fs).length = n2 + 1 from by rw [hil, if_neg (by rw [hth]; simp), hl2], hnt] at hput
   rw [hth] at CF
   obtain ⟨i, hi⟩ : ∃ i, i = posF file a.fs := ⟨_, rfl⟩
   rw [← hi] at CF hput hpl
   have CF := hide CF
   have hin : i ≤ n2 := by omega
   by_cases hfull : n2 = 12
   ·rw [if_pos (by omega)] at hput
    have z1 : ((n2 : Int) == 12) = true := by rw [beq_iff_eq]; omega
    subst hput
    clear hil hpl hi hth hfn hnt hfull
    go_enter Tryz.func26, Tryz.ntmps26
    go_upto_region 1 with fail
    rw [← unhide HW0, ← unhide HB]
    obtain ⟨q0, q1⟩ := (unhide H0).ab.c
    go_wp2_with fail
    refine (unhide CK _ (unhide H0)).mono ?_
    rintro e w1 ⟨rfl, hb1⟩
    have H1 := hide ((unhide H0).below hb1)
    clear hb1 q0 q1
    obtain ⟨q0, q1⟩ := (unhide H1).ab.c
    go_wp2_with fail
    refine (unhide CD _ (unhide H1)).mono ?_
    rintro e w2 ⟨rfl, hb2⟩
    have H2 := hide ((unhide H1).below hb2)
    clear hb2 q0 q1
    obtain ⟨q0, q1⟩ := (unhide H2).ab.c
    go_wp2_with fail
    refine (unhide CN _).mono ?_
    rintro e w3 ⟨rfl, hb3⟩
    have H3 := hide ((unhide H2).below hb3)
    clear hb3 q0 q1
    obtain ⟨q0, q1⟩ := (unhide H3).ab.c
    go_wp2_with fail
    refine (unhide CC _ (unhide H3)).mono ?_
    rintro e w4 ⟨A', cap', A2', cap2', rfl, ho4, hb4⟩
    have H4 := hide ((unhide H3).below hb4)
    have HO4 := hide ho4
    have HS4 := hide hb4.size
    clear hb4 ho4 q0 q1
    go_upto_region 12 with (refine wpList_store_row rfl 33 (.tmp 13) (.tmp 44) rfl w4.heap.size #[.slice A' n cap', .slice A2' n2 cap2'] rfl rfl 33 _ (heap_alloc_new _ _) sizeArc rfl (one_two _ _ _ _ _ _) ?_)
    obtain ⟨w5, hw5⟩ : ∃ w5, w5 = (w4.alloc (.cells #[.slice none 0 0, .slice none 0 0] 33)).setRow w4.heap.size #[.slice A' n cap', .slice A2' n2 cap2'] := ⟨_, rfl⟩
    obtain ⟨P, hP⟩ : ∃ P, P = w4.heap.size := ⟨_, rfl⟩
    have S5 := hide (show PutS A n cap A2 n2 cap2 a w w5 B w3.heap.size P (.slice A' n cap') (.slice A2' n2 cap2') by rw [hw5, hP]; exact PutS.new (unhide H4) (unhide HO4) (unhide H3).lt (unhide HS4))
    rw [← hw5, ← hP]
    obtain ⟨E, hE⟩ : ∃ E, E = w3.heap.size := ⟨_, rfl⟩
    rw [← hE] at S5
    clear hw5 hP hE
    obtain ⟨q0, q1⟩ := (unhide S5).r.ab.c
    go_wp2_with fail
    refine (unhide CP _ (unhide S5).r).mono ?_
    rintro e w6 ⟨rfl, hb6⟩
    have S6 := hide ((unhide S5).below hb6)
    clear hb6 q0 q1
    go_upto_region 13 with (refine wpList_store_row rfl 61 (.tmp 14) (.tmp 49) rfl w6.heap.size (filA f) rfl rfl 61 _ (heap_alloc_new _ _) sizeFil rfl (filA_one f) ?_)
    obtain ⟨w7, hw7⟩ : ∃ w7, w7 = (w6.alloc (.cells zeroF 61)).setRow w6.heap.size (filA f) := ⟨_, rfl⟩
    obtain ⟨D, hD⟩ : ∃ D, D = w6.heap.size := ⟨_, rfl⟩
    have S7 := hide (show PutS A n cap A2 n2 cap2 a w w7 B E P (.slice A' n cap') (.slice A2' n2 cap2') by rw [hw7]; exact (unhide S6).below (below_setRow ((Below.refl _ _).alloc (Nat.le_refl _) _) (Nat.le_refl _) _))
    have F7 := hide (show w7.heap[D]? = some (.cells (filA f) 61 (0, 0)) by rw [hw7, hD]; exact setRow_heap _ _ _ _ _ _ (heap_alloc_new _ _))
    rw [← hw7, ← hD]
    have hPD : P < D := by rw [hD]; exact (unhide S6).lt
    clear hw7 hD
    obtain ⟨q0, q1⟩ := (unhide S7).r.ab.c
    go_wp2_with fail
    refine (unhide CF _ (unhide S7).r).mono ?_
    rintro e w8 ⟨rfl, hb8⟩
    have S8 := hide ((unhide S7).below hb8)
    have F8 := hide ((hb8.block D (Array.getElem?_eq_some_iff.1 (unhide F7)).1).trans (unhide F7))
    clear hb8 q0 q1
    obtain ⟨q0, q1⟩ := (unhide S8).r.ab.c
    obtain ⟨p0, p1, p2, p3⟩ := (unhide S8).cells
    have x0 : w8.cell? ⟨D, 0, none⟩ = some (S f.name) := by rw [cell_of_row _ _ _ _ _ _ (unhide F8)]; rfl
    have x1 : w8.cell? ⟨D, 1, none⟩ = some (I f.dict) := by rw [cell_of_row _ _ _ _ _ _ (unhide F8)]; rfl
    have x2 : w8.cell? ⟨D, 2, none⟩ = some (I f.size) := by rw [cell_of_row _ _ _ _ _ _ (unhide F8)]; rfl
    have x3 : w8.cell? ⟨D, 3, none⟩ = some (I f.sum) := by rw [cell_of_row _ _ _ _ _ _ (unhide F8)]; rfl
    have x4 : w8.cell? ⟨D, 4, none⟩ = some (S f.block) := by rw [cell_of_row _ _ _ _ _ _ (unhide F8)]; rfl
    have H8 := hide (unhide S8).r
    go_wp2_with (refine wpList_store_row rfl 33 (.tmp 8) (.tmp 75) rfl (B + 1) #[.slice none 0 0, .slice none 0 0] rfl rfl 33 _ (unhide H8).z sizeArc rfl all_nil2 ?_)
    refine bodyPost_ret (results_row_tmp rfl _ _ (B + 1) 33 #[.slice none 0 0, .slice none 0 0] (0, 0) _ rfl ((unhide H8).end_ _).1 Tryz.underlying33 rfl sizeArc) rfl ⟨⟨_, _, rfl, ?_⟩, ((unhide H8).end_ _).2⟩
    exact OwnA.nil _ _
   rw [if_neg (by omega)] at hput
   have z1 : ((n2 : Int) == 12) = false := by rw [beq_eq_false_iff_ne]; omega
   subst hput
   clear hil hpl hi hth hfn hnt
   go_enter Tryz.func26, Tryz.ntmps26
   go_upto_region 1 with fail
   rw [← unhide HW0, ← unhide HB]
   obtain ⟨q0, q1⟩ := (unhide H0).ab.c
   go_wp2_with fail
   refine (unhide CK _ (unhide H0)).mono ?_
   rintro e w1 ⟨rfl, hb1⟩
   have H1 := hide ((unhide H0).below hb1)
   clear hb1 q0 q1
   obtain ⟨q0, q1⟩ := (unhide H1).ab.c
   go_wp2_with fail
   refine (unhide CD _ (unhide H1)).mono ?_
   rintro e w2 ⟨rfl, hb2⟩
   have H2 := hide ((unhide H1).below hb2)
   clear hb2 q0 q1
   obtain ⟨q0, q1⟩ := (unhide H2).ab.c
   go_wp2_with fail
   refine (unhide CN _).mono ?_
   rintro e w3 ⟨rfl, hb3⟩
   have H3 := hide ((unhide H2).below hb3)
   clear hb3 q0 q1
   obtain ⟨q0, q1⟩ := (unhide H3).ab.c
   go_wp2_with fail
   refine (unhide CC _ (unhide H3)).mono ?_
   rintro e w4 ⟨A', cap', A2', cap2', rfl, ho4, hb4⟩
   have H4 := hide ((unhide H3).below hb4)
   have HO4 := hide ho4
   have HS4 := hide hb4.size
   clear hb4 ho4 q0 q1
   go_upto_region 12 with (refine wpList_store_row rfl 33 (.tmp 13) (.tmp 44) rfl w4.heap.size #[.slice A' n cap', .slice A2' n2 cap2'] rfl rfl 33 _ (heap_alloc_new _ _) sizeArc rfl (one_two _ _ _ _ _ _) ?_)
   obtain ⟨w5, hw5⟩ : ∃ w5, w5 = (w4.alloc (.cells #[.slice none 0 0, .slice none 0 0] 33)).setRow w4.heap.size #[.slice A' n cap', .slice A2' n2 cap2'] := ⟨_, rfl⟩
   obtain ⟨P, hP⟩ : ∃ P, P = w4.heap.size := ⟨_, rfl⟩
   have S5 := hide (show PutS A n cap A2 n2 cap2 a w w5 B w3.heap.size P (.slice A' n cap') (.slice A2' n2 cap2') by rw [hw5, hP]; exact PutS.new (unhide H4) (unhide HO4) (unhide H3).lt (unhide HS4))
   rw [← hw5, ← hP]
   obtain ⟨E, hE⟩ : ∃ E, E = w3.heap.size := ⟨_, rfl⟩
   rw [← hE] at S5
   clear hw5 hP hE
   obtain ⟨q0, q1⟩ := (unhide S5).r.ab.c
   go_wp2_with fail
   refine (unhide CP _ (unhide S5).r).mono ?_
   rintro e w6 ⟨rfl, hb6⟩
   have S6 := hide ((unhide S5).below hb6)
   clear hb6 q0 q1
   go_upto_region 13 with (refine wpList_store_row rfl 61 (.tmp 14) (.tmp 49) rfl w6.heap.size (filA f) rfl rfl 61 _ (heap_alloc_new _ _) sizeFil rfl (filA_one f) ?_)
   obtain ⟨w7, hw7⟩ : ∃ w7, w7 = (w6.alloc (.cells zeroF 61)).setRow w6.heap.size (filA f) := ⟨_, rfl⟩
   obtain ⟨D, hD⟩ : ∃ D, D = w6.heap.size := ⟨_, rfl⟩
   have S7 := hide (show PutS A n cap A2 n2 cap2 a w w7 B E P (.slice A' n cap') (.slice A2' n2 cap2') by rw [hw7]; exact (unhide S6).below (below_setRow ((Below.refl _ _).alloc (Nat.le_refl _) _) (Nat.le_refl _) _))
   have F7 := hide (show w7.heap[D]? = some (.cells (filA f) 61 (0, 0)) by rw [hw7, hD]; exact setRow_heap _ _ _ _ _ _ (heap_alloc_new _ _))
   rw [← hw7, ← hD]
   have hPD : P < D := by rw [hD]; exact (unhide S6).lt
   clear hw7 hD
   obtain ⟨q0, q1⟩ := (unhide S7).r.ab.c
   go_wp2_with fail
   refine (unhide CF _ (unhide S7).r).mono ?_
   rintro e w8 ⟨rfl, hb8⟩
   have S8 := hide ((unhide S7).below hb8)
   have F8 := hide ((hb8.block D (Array.getElem?_eq_some_iff.1 (unhide F7)).1).trans (unhide F7))
   clear hb8 q0 q1
   obtain ⟨q0, q1⟩ := (unhide S8).r.ab.c
   obtain ⟨p0, p1, p2, p3⟩ := (unhide S8).cells
   have x0 : w8.cell? ⟨D, 0, none⟩ = some (S f.name) := by rw [cell_of_row _ _ _ _ _ _ (unhide F8)]; rfl
   have x1 : w8.cell? ⟨D, 1, none⟩ = some (I f.dict) := by rw [cell_of_row _ _ _ _ _ _ (unhide F8)]; rfl
   have x2 : w8.cell? ⟨D, 2, none⟩ = some (I f.size) := by rw [cell_of_row _ _ _ _ _ _ (unhide F8)]; rfl
   have x3 : w8.cell? ⟨D, 3, none⟩ = some (I f.sum) := by rw [cell_of_row _ _ _ _ _ _ (unhide F8)]; rfl
   have x4 : w8.cell? ⟨D, 4, none⟩ = some (S f.block) := by rw [cell_of_row _ _ _ _ _ _ (unhide F8)]; rfl
   have CI : ∀ W, Below w8.heap.size w8 W → VarF W w8.heap.size f → Calls Tryz.prog 75 #[.slice A2' n2 cap2', I i, .slice (some ⟨w8.heap.size, 0, none⟩) 1 1] W fun e w' => ∃ A3 cap3, e = .returned (.slice A3 (n2 + 1) cap3) ∧ w'.ownsRow E 61 5 (.slice A3 (n2 + 1) cap3) (n2 + 1) (filsCells (a.fs.take i ++ f :: a.fs.drop i)) ∧ W.grownBy w' (Value.slice A2' n2 cap2').ownBlock := fun W hW hv => by
    have hof := ((unhide S8).below hW).o.f
    rw [hl2] at hof
    refine (insertFil_any (.slice A2' n2 cap2') n2 i a.fs E f w8.heap.size W hof (by omega) hv (fun e => by have := (unhide S8).ob w8.heap.size (.inr e); have := (unhide S8).lt; omega) hin (by have := hW.size; have := (unhide S8).ep; have := (unhide S8).lt; omega)).mono ?_
    rintro e w' ⟨v', he, ho, hg⟩
    obtain ⟨A3, cap3, rfl, _, _⟩ := filsAt_of_own ho
    exact ⟨A3, cap3, he, ho, hg⟩
   have CI := hide CI
   go_wp2_with fail
   refine (unhide CI _ (by exact (Below.refl _ _).alloc (Nat.le_refl _) _) ⟨by exact heap_alloc_new _ _⟩).mono ?_
   rintro e w9 ⟨A3, cap3, rfl, ho9, hg9⟩
   have hbe := (unhide S8).be
   have hep := (unhide S8).ep
   have hPl := (unhide S8).lt
   have hgo : ∀ g, (Value.slice A2' n2 cap2').ownBlock = some g → E ≤ g ∧ g < P := fun g hg => ⟨((unhide S8).o.f.lt g hg).1, (unhide S8).ob g (.inr hg)⟩
   have hsz8 : (w8.alloc (.cells (filA f) 61)).heap.size = w8.heap.size + 1 := by simp
   have hkeep : ∀ k, k < w8.heap.size → k < E ∨ P ≤ k → w9.heap[k]? = w8.heap[k]? := fun k hk1 hk2 => by
    rw [hg9.block k (by simp; omega) (fun e => by have := hgo k e.symm; omega)]
    exact Below.heap_alloc _ _ k hk1
   have hP9 : w9.heap[P]? = some (.cells #[.slice A' n cap', .slice A2' n2 cap2'] 33 (0, 0)) := by rw [hkeep P hPl (.inr (Nat.le_refl _))]; exact (unhide S8).p
   have hB9 : w9.heap[B + 1]? = some (.cells #[.slice none 0 0, .slice none 0 0] 33 (0, 0)) := by rw [hkeep (B + 1) (unhide S8).r.lt (.inl hbe)]; exact (unhide S8).r.z
   have hds9 : w9.ownsRow E 9 1 (.slice A' n cap') a.ds.length (a.ds.map strS) := by
    refine ((unhide S8).o.s.alloc _).kept hg9 ?_
    cases hA' : (Value.slice A' n cap').ownBlock with
    | none => exact .inl rfl
    | some g2 =>
     refine .inr (fun e => ?_)
     have hds := (unhide S8).o.s
     have hfs := (unhide S8).o.f
     rcases hds.2 with ⟨hv, _⟩ | ⟨g3, c2, cu2, hv, _, hg3, _⟩
     ·rw [hv] at hA'; simp [Value.ownBlock] at hA'
     ·rcases hfs.2 with ⟨hv2, _⟩ | ⟨g4, c4, cu4, hv2, _, hg4, _⟩
      ·rw [hv2] at e; simp [Value.ownBlock] at e
      ·rw [hv2] at e
       rw [hv] at hA'
       simp only [Value.ownBlock, Option.some.injEq] at e hA'
       subst hA'
       subst e
       rw [hg3] at hg4
       injection hg4 with hg4
       injection hg4 with _ hg4 _
       exact absurd hg4 (by decide)
   have hL9 : Below B w w9 := ((unhide S8).r.ab.bel.alloc (by have h9 := (unhide S8).r.lt; omega) _).grown hg9 (by have h9 := (unhide S8).r.lt; simp; omega) (fun j hj => by have h9 := hgo j hj; omega)
   have hgo3 := fun g (hg : (Value.slice A3 (n2 + 1) cap3).ownBlock = some g) => ho9.lt g hg
   obtain ⟨p0', p1', p2', p3'⟩ := two_cells hP9
   have hne3 : ∀ g, (Value.slice A3 (n2 + 1) cap3).ownBlock = some g → g ≠ P := fun g hg e => by
    subst e
    rcases ho9.2 with ⟨hv, _⟩ | ⟨g4, c4, cu4, hv, _, hg4, _⟩
    ·rw [hv] at hg; simp [Value.ownBlock] at hg
    ·rw [hv] at hg
     simp only [Value.ownBlock, Option.some.injEq] at hg
     subst hg
     rw [hP9] at hg4
     injection hg4 with hg4
     injection hg4 with _ hg4 _
     exact absurd hg4 (by decide)
   obtain ⟨w10, hw10⟩ : ∃ w10, w10 = w9.setCell ⟨P, 1, none⟩ (.slice A3 (n2 + 1) cap3) := ⟨_, rfl⟩
   have hrow10 : w10 = w9.setRow P #[.slice A' n cap', .slice A3 (n2 + 1) cap3] := by rw [hw10, setCell_eq_setRow w9 P 1 _ _ _ _ hP9]; rfl
   have hP10 : w10.heap[P]? = some (.cells #[.slice A' n cap', .slice A3 (n2 + 1) cap3] 33 (0, 0)) := by rw [hrow10]; exact setRow_heap _ _ _ _ _ _ hP9
   have hB10 : w10.heap[B + 1]? = some (.cells #[.slice none 0 0, .slice none 0 0] 33 (0, 0)) := by rw [hrow10, setRow_other _ P (B + 1) _ (by omega)]; exact hB9
   have hO10 : OwnA w10 E (.slice A' n cap') (.slice A3 (n2 + 1) cap3) ⟨a.ds, a.fs.take i ++ f :: a.fs.drop i⟩ := by
    rw [hrow10]
    refine ⟨own_setRow hds9 (fun g hg => by have := (unhide S8).ob g (.inl hg); omega) _, ?_⟩
    have hlen : (a.fs.take i ++ f :: a.fs.drop i).length = n2 + 1 := by simp; omega
    show (w9.setRow P _).ownsRow E 61 5 (.slice A3 (n2 + 1) cap3) (a.fs.take i ++ f :: a.fs.drop i).length _
    rw [hlen]
    exact own_setRow ho9 hne3 _
   have hL10 : Below B w w10 := by rw [hrow10]; exact below_setRow hL9 (by omega) _
   obtain ⟨e1, e2, e3⟩ := put_end hB10 hbe hO10 hL10
   obtain ⟨r0, r1, _, _⟩ := two_cells hP10
   have E1 := hide e1
   have E2 := hide e2
   have E3 := hide e3
   have HB10 := hide hB10
   have HW10 := hide hw10
   clear hgo hsz8 hkeep hP9 hB9 hds9 hL9 hgo3 hne3 hrow10 hP10 hB10 hO10 hL10 e1 e2 e3 hw10 ho9 hg9
   go_upto_region 19 with fail
   rw [← unhide HW10]
   go_wp2_with (refine wpList_store_row rfl 33 (.tmp 8) (.tmp 76) rfl (B + 1) #[.slice A' n cap', .slice A3 (n2 + 1) cap3] rfl rfl 33 _ (unhide HB10) sizeArc rfl (one_two _ _ _ _ _ _) ?_)
   refine bodyPost_ret (results_row_tmp rfl _ _ (B + 1) 33 #[.slice A' n cap', .slice A3 (n2 + 1) cap3] (0, 0) _ rfl (unhide E1) Tryz.underlying33 rfl sizeArc) rfl ⟨⟨_, _, rfl, unhide E2⟩, unhide E3⟩
end Go.Proofs.YtjpgoeimclipjaaGreat
namespace Go.Proofs.YtjpgoeimclipjaaGreat
open Go.RowKit Go.Lib Pl
attribute [local go_sem] ext_list app_list
structure AV (W : World) (p : Nat) (A : Option Addr) (n cap : Nat) (A2 : Option Addr) (n2 cap2 : Nat) (a : Arc) : Prop where
 o : W.heap[p]? = some (.cells #[.slice A n cap, .slice A2 n2 cap2] 33 (0, 0))
 i : ArcIn W A n A2 n2 a
section
variable {W W' : World} {p : Nat} {A : Option Addr} {n cap : Nat} {A2 : Option Addr} {n2 cap2 : Nat} {a : Arc}
theorem AV.lt (h : AV W p A n cap A2 n2 cap2 a) : p < W.heap.size := (Array.getElem?_eq_some_iff.1 h.o).1
theorem AV.below (h : AV W p A n cap A2 n2 cap2 a) (hb : Below W.heap.size W W') : AV W' p A n cap A2 n2 cap2 a := ⟨(hb.block _ h.lt).trans h.o, h.i.up hb⟩
theorem AV.c (h : AV W p A n cap A2 n2 cap2 a) : W.cell? ⟨p, 0, none⟩ = some (.slice A n cap) ∧ W.cell? ⟨p, 1, none⟩ = some (.slice A2 n2 cap2) := ⟨(two_cells h.o).1, (two_cells h.o).2.1⟩
theorem AV.new (h : ArcIn W A n A2 n2 a) (cap cap2 : Nat) : AV ((W.alloc (.cells #[.slice none 0 0, .slice none 0 0] 33)).setRow W.heap.size #[.slice A n cap, .slice A2 n2 cap2]) W.heap.size A n cap A2 n2 cap2 a ∧ Below W.heap.size W ((W.alloc (.cells #[.slice none 0 0, .slice none 0 0] 33)).setRow W.heap.size #[.slice A n cap, .slice A2 n2 cap2]) := by
 have hb : Below W.heap.size W ((W.alloc (.cells #[.slice none 0 0, .slice none 0 0] 33)).setRow W.heap.size #[.slice A n cap, .slice A2 n2 cap2]) := below_setRow ((Below.refl _ _).alloc (Nat.le_refl _) _) (Nat.le_refl _) _
 exact ⟨⟨setRow_heap _ _ _ _ _ _ (heap_alloc_new _ _), h.up hb⟩, hb⟩
theorem AV.box (h : ArcIn W A n A2 n2 a) (cap cap2 : Nat) : AV (W.alloc (.cells #[.slice A n cap, .slice A2 n2 cap2] 33)) W.heap.size A n cap A2 n2 cap2 a := ⟨heap_alloc_new _ _, h.alloc _⟩
end
theorem own_cap {w : World} {base e size n cap : Nat} {A : Option Addr} {xs : List Value} (h : w.ownsRow base e size (.slice A n cap) n xs) : n ≤ cap := by
 rcases h.2 with ⟨hv, h0⟩ | ⟨g, cap', cur, hv, _, _, hn, _⟩
 ·omega
 ·injection hv with _ _ hc
  omega
theorem ArcRes.open {base : Nat} {r : Arc × Nat} {e : Ending} {w : World} (h : ArcRes base r e w) : ∃ A n cap A2 n2 cap2, e = .returned (.tuple #[arcV A n cap A2 n2 cap2, I r.2]) ∧ ArcIn w A n A2 n2 r.1 ∧ n ≤ cap ∧ OwnA w base (.slice A n cap) (.slice A2 n2 cap2) r.1 := by
 obtain ⟨v1, v2, he, ho⟩ := h
 obtain ⟨A, cap, A2, cap2, rfl, rfl, hi⟩ := ho.form
 exact ⟨A, _, cap, A2, _, cap2, he, hi, own_cap ho.s, ho⟩
theorem OwnA.inn {w : World} {base : Nat} {A A2 : Option Addr} {n cap n2 cap2 : Nat} {a : Arc} (h : OwnA w base (.slice A n cap) (.slice A2 n2 cap2) a) : ArcIn w A n A2 n2 a := by
 obtain ⟨A', cap', A2', cap2', e1, e2, hi⟩ := h.form
 injection e1 with a1 a2 _
 injection e2 with b1 b2 _
 rw [a1, a2, b1, b2]; exact hi
theorem OwnA.setRow {w : World} {base p : Nat} {v1 v2 : Value} {a : Arc} (h : OwnA w base v1 v2 a) (hp : p < base) (c : Array Value) : OwnA (w.setRow p c) base v1 v2 a :=
 ⟨own_setRow h.s (fun k hk => by have := (h.s.lt k hk).1; omega) c, own_setRow h.f (fun k hk => by have := (h.f.lt k hk).1; omega) c⟩
theorem right_sz {a : Arc} (h : RightA a) : ArcSz a := by
 refine ⟨by have := h.nd; omega, by have := h.nf; omega, fun d hd => by have := h.sd d hd; omega, fun f hf => ?_⟩
 obtain ⟨h1, h2, h3, h4, h5, h6, h7, h8⟩ := file_nums h.nd h.sd (h.fr.each f hf)
 exact ⟨by omega, by omega, by omega, by omega, by omega, by omega, by omega, by omega⟩
theorem arc0_sz : ArcSz arc0 := right_sz arc0_right
theorem arc0_in (W : World) : ArcIn W none 0 none 0 arc0 := ⟨⟨rfl, fun h => absurd h (by omega)⟩, filsAt.nil _ _ _⟩
end Go.Proofs.YtjpgoeimclipjaaGreat
namespace Go.Proofs.YtjpgoeimclipjaaGreat
open Go.RowKit Go.Lib Pl Go.ChangeMaps Go.MapKept Go.ChangeShapes
open Go.WideElems (Fit)
open Go.Maps (Keyed int_keyed keyOf_int_mk IsMap atKey_put_same atKey_put_other)
theorem keyedN : Keyed Tryz.prog 3 := int_keyed Tryz.underlying3
theorem keyN {k : Int} (h0 : -9223372036854775808 ≤ k) (h1 : k ≤ 9223372036854775807) : keyOf Tryz.prog 3 (I k) = some (.int .i64 k) :=
 keyOf_int_mk Tryz.underlying3 (WalkArith.wf_i64 ⟨by omega, by omega⟩)
def IntMap (w : World) (b n : Nat) (f : Int → Nat) : Prop :=
 ∃ D : DataW Unit, w.ownsMap Tryz.prog 3 (plainElem Tryz.prog 3) b n D ∧ IsMap D ∧ ∀ k : Int, D.atKey (.int .i64 k) (.lit (.int .i64 0)) = .lit (.int .i64 (f k))
theorem IntMap.made (w : World) : IntMap (w.alloc (.map #[] 0)) w.heap.size 0 fun _ => 0 :=
 ⟨.map [], World.ownsMap_made _ _ _ _, Go.Maps.isMap_empty, fun _ => rfl⟩
theorem IntMap.kept {w w' : World} {b n : Nat} {f : Int → Nat} {row : Option Nat} (h : IntMap w b n f) (hg : w.grownBy w' row) (hne : some b ≠ row) : IntMap w' b n f := by
 obtain ⟨D, ho, r⟩ := h
 exact ⟨D, ho.kept hg hne, r⟩
theorem IntMap.alloc {w : World} {b n : Nat} {f : Int → Nat} (h : IntMap w b n f) (o : Obj) : IntMap (w.alloc o) b n f := h.kept (World.grownBy_alloc w o none) (by simp)
theorem IntMap.lt {w : World} {b n : Nat} {f : Int → Nat} (h : IntMap w b n f) : b < w.heap.size := by
 obtain ⟨D, ho, r⟩ := h
 exact ho.lt
theorem IntMap.keep {w w' : World} {b n : Nat} {f : Int → Nat} (h : IntMap w b n f) (hb : w'.heap[b]? = w.heap[b]?) : IntMap w' b n f := by
 obtain ⟨D, ⟨es, clock, h1, r⟩, r2⟩ := h
 exact ⟨D, ⟨es, clock, hb.trans h1, r⟩, r2⟩
theorem IntMap.below {w w' : World} {b n : Nat} {f : Int → Nat} (h : IntMap w b n f) (hb : Below w.heap.size w w') : IntMap w' b n f := h.keep (hb.block b h.lt)
theorem wpList_lookN {w : World} {ops : Array Oper} {rest : List Oper} {o : Oper} {a : Act} {Q : Exit → Act → World → Prop}
  (hg : o.guard = none) (m x : Operand) (hop : o.op = Op.lookup 117 m x false) (b n : Nat) (f : Int → Nat)
  (hm : a.eval m = .map (some b)) (h : IntMap w b n f) (k : Int) (hx : a.eval x = I k) (h0 : -9223372036854775808 ≤ k) (h1 : k ≤ 9223372036854775807)
  (hK : wpList Tryz.prog ops Q rest (a.put o.dst (I (f k))) w) : wpList Tryz.prog ops Q (o :: rest) a w := by
 obtain ⟨D, ho, _, hr⟩ := h
 refine wpList_lookup_own_int w hg m x _ hop 3 3 .i64 keyedN Tryz.underlying117 Tryz.underlying3 (zero_int w) b n D hm ho _ _ hx (keyN h0 h1) ?_
 intro c hat _
 rw [hr k] at hat
 injection hat with hat; injection hat with _ hat
 subst hat
 exact hK
theorem wpList_putN {w : World} {ops : Array Oper} {rest : List Oper} {o : Oper} {a : Act} {Q : Exit → Act → World → Prop}
  (hg : o.guard = none) (m x v : Operand) (hop : o.op = Op.mapUpdate 117 m x v) (b n : Nat) (f : Int → Nat)
  (hm : a.eval m = .map (some b)) (h : IntMap w b n f) (k : Int) (hx : a.eval x = I k) (h0 : -9223372036854775808 ≤ k) (h1 : k ≤ 9223372036854775807) (c : Nat) (x' : Int) (hv : a.eval v = .int .i64 x') (hxc : x' = c) (hc : c ≤ 1000000000) (hn : n ≤ 1000000000)
  (hK : ∀ w', IntMap w' b (n + 1) (fun q => if q = k then c else f q) → w.grownBy w' (some b) → wpList Tryz.prog ops Q rest (a.put o.dst undef) w') : wpList Tryz.prog ops Q (o :: rest) a w := by
 subst hxc
 obtain ⟨D, ho, hD, hr⟩ := h
 have hwf : (Lit.int .i64 (c : Int)).wf = true := WalkArith.wf_i64 ⟨by omega, by omega⟩
 refine wpList_mapUpdate_own w hg m x v _ hop 3 3 keyedN Tryz.underlying117 (plainElem Tryz.prog 3) b n D hm ho (by unfold maxLen; omega) _ _ _ hx hv (keyN h0 h1) _ [] (plainElem_int Tryz.underlying3 hwf) ?_
 intro w' h1' h2
 refine hK w' ⟨_, h1', hD.put _ _, fun q => ?_⟩ h2
 show (D.put (.int .i64 k) (.lit (.int .i64 c))).atKey (.int .i64 q) (.lit (.int .i64 0)) = .lit (.int .i64 ((if q = k then c else f q : Nat) : Int))
 by_cases hq : q = k
 ·rw [if_pos hq, hq, atKey_put_same hD (keyedN.key (keyN h0 h1))]
 ·rw [if_neg hq, atKey_put_other (by intro e; injection e with _ e; exact hq e)]
  exact hr q
set_option maxRecDepth 100000 in
theorem IntMap.run {w : World} {b n : Nat} {f : Int → Nat} (h : IntMap w b n f) {k : Int} (h0 : -9223372036854775808 ≤ k) (h1 : k ≤ 9223372036854775807) :
  (Instr.lookup 117 (.map (some b)) (I k) false).run Tryz.prog w = .ok (I (f k)) w := by
 obtain ⟨D, ho, _, hr⟩ := h
 obtain ⟨c, hrun, hat, _⟩ := ho.lookup_int keyedN Tryz.underlying117 Tryz.underlying3 (zero_int w) (keyN h0 h1)
 rw [hr k] at hat
 injection hat with hat; injection hat with _ hat
 subst hat
 exact hrun
end Go.Proofs.YtjpgoeimclipjaaGreat
namespace Go.Proofs.YtjpgoeimclipjaaGreat
open Go.RowKit Go.Lib Pl
attribute [local go_sem] ext_list app_list
theorem info_str : (Tryz.prog.info? 9).map (fun i => (i.zero, i.size, i.bytes)) = some (some (.string ByteArray.empty), 1, 16) := by kernel_rfl
theorem strS_one (l : List Bytes) : ∀ y ∈ l.map strS, y.oneCell' = true := by
 intro y hy
 obtain ⟨t, _, rfl⟩ := List.mem_map.1 hy
 rfl
theorem wpList_push_str {w : World} {ops : Array Oper} {rest : List Oper} {o : Oper} {a : Act} {Q : Exit → Act → World → Prop} (hgd : o.guard = none) (s x : Operand)
  (ho : o.op = .call { callee := .builtin .append, args := #[s, x], argTypes := #[30, 30] })
  (base : Nat) (v : Value) (n : Nat) (l : List Bytes) (hs : a.eval s = v) (hown : w.ownsRow base 9 1 v n (l.map strS)) (t : Bytes)
  (H : Nat) (hH : w.heap.size = H) (hx : a.eval x = .slice (some ⟨H, 0, none⟩) 1 1)
  (hn : n ≤ 1000000) (hbase : base ≤ w.heap.size)
  (h : ∀ A' cap' w', w'.ownsRow base 9 1 (.slice A' (n + 1) cap') (n + 1) ((l ++ [t]).map strS) → Below base w w' → (w.alloc (.cells #[S t] 9)).grownBy w' v.ownBlock → wpList Tryz.prog ops Q rest (a.put o.dst (.slice A' (n + 1) cap')) w') :
  wpList Tryz.prog ops Q (o :: rest) a (w.alloc (.cells #[S t] 9)) := by
 subst hH
 obtain ⟨i0, hi, hz0, hz1, hz2⟩ := info_parts info_str
 refine wpList_append_own _ hgd s x _ ho base 9 i0 _ 1 16 Tryz.underlying30 hi hz0 hz1 hz2 rfl (by decide) v n (l.map strS) hs (hown.alloc _) ⟨w.heap.size, 0, none⟩ 1 1 [S t] hx rfl (fun j u hj => ?_) (fun y hy => ?_) (by unfold maxLen; omega) (by omega) (by simp; omega) ?_
 ·rw [Addr.add_lit, World.cell?_alloc_new]
  simpa using hj
 ·simp at hy; subst hy; rfl
 ·intro v' w' hown' hg _
  have hown2 : w'.ownsRow base 9 1 v' (n + 1) ((l ++ [t]).map strS) := by
   rw [List.map_append]; exact hown'
  obtain ⟨A', cap', rfl, _⟩ := strsAt_of_own hown2
  exact h A' cap' w' hown2 (((Below.refl _ _).alloc hbase _).grown hg (by simp; omega) (fun k hk => (hown.lt k hk).1)) hg
theorem filsCells_dict (x : Int) : ∀ (l : List Fil) (i : Nat) (f : Fil), l[i]? = some f → (filsCells l).set (i * 5 + 1) (I x) = filsCells (l.set i { f with dict := x })
 | [], i, f, h => by simp at h
 | g :: l, 0, f, h => by
  simp at h; subst h
  simp [filsCells, filCells]
 | g :: l, i + 1, f, h => by
  have h' : l[i]? = some f := by simpa using h
  rw [List.set_cons_succ, filsCells_cons, filsCells_cons, ← filsCells_dict x l i f h', List.set_append_right _ _ (by rw [filCells_len]; omega), filCells_len]
  congr 2; omega
theorem ownFil_dict {w : World} {base g cap n : Nat} {l : List Fil} (h : w.ownsRow base 61 5 (.slice (some ⟨g, 0, none⟩) n cap) n (filsCells l)) {i : Nat} {f : Fil} (hf : l[i]? = some f) (x : Int) :
  (w.setCell ⟨g, i * 5 + 1, none⟩ (I x)).ownsRow base 61 5 (.slice (some ⟨g, 0, none⟩) n cap) n (filsCells (l.set i { f with dict := x })) ∧ w.grownBy (w.setCell ⟨g, i * 5 + 1, none⟩ (I x)) (some g) ∧ w.cell? ⟨g, i * 5 + 1, none⟩ = some (I f.dict) ∧ w.frozen? ⟨g, i * 5 + 1, none⟩ = false := by
 obtain ⟨cur, hb, hg, hnc, hcm, hsz, ht⟩ := ownsFil_row h
 have hl := ownsFil_len h
 have hi := (List.getElem?_eq_some_iff.1 hf).1
 have hc : (filsCells l)[i * 5 + 1]? = some (I f.dict) := (filsCells_get l i f hf).2.1
 refine ⟨?_, ?_, ?_, by simp [World.frozen?, hg]⟩
 ·rw [setCell_eq_setRow w g _ cur _ _ _ hg]
  refine ownsFil_mk hb (setRow_heap _ _ _ _ _ _ hg) hnc hcm (by simpa using hsz) (by simpa using hl) ?_
  rw [Array.toList_setIfInBounds, List.take_set, ht, filsCells_dict x l i f hf]
 ·rw [setCell_eq_setRow w g _ cur _ _ _ hg]
  exact ⟨rfl, rfl, rfl, by simp [World.setRow], fun k hk hne => setRow_other w g k _ (fun e => hne (by rw [e]))⟩
 ·rw [cell_of_row w g _ cur _ _ hg]
  rw [← ht, List.getElem?_take] at hc
  split at hc
  ·simpa using hc
  ·cases hc
theorem IntMap.obj {w : World} {b n : Nat} {f : Int → Nat} (h : IntMap w b n f) : ∃ es c, w.heap[b]? = some (.map es c) := by
 obtain ⟨D, ⟨es, clock, h1, r⟩, r2⟩ := h
 exact ⟨es, clock, h1⟩
theorem own_obj {w : World} {base e size n k : Nat} {v : Value} {xs : List Value} (h : w.ownsRow base e size v n xs) (hk : v.ownBlock = some k) : ∃ cs, w.heap[k]? = some (.cells cs e (0, 0)) := by
 rcases h.2 with ⟨hv, _⟩ | ⟨g, cap, cur, hv, _, hg, _⟩
 ·rw [hv] at hk; simp [Value.ownBlock] at hk
 ·rw [hv] at hk
  simp only [Value.ownBlock, Option.some.injEq] at hk
  subst hk
  exact ⟨cur, hg⟩
theorem IntMap.notOwn {w : World} {b n base e size m : Nat} {f : Int → Nat} {v : Value} {xs : List Value} (h : IntMap w b n f) (ho : w.ownsRow base e size v m xs) : some b ≠ v.ownBlock := by
 intro e
 obtain ⟨es, c, h1⟩ := h.obj
 obtain ⟨cs, h2⟩ := own_obj ho e.symm
 rw [h1] at h2; cases h2
theorem own_apart {w : World} {b1 b2 e1 e2 s1 s2 n1 n2 : Nat} {v1 v2 : Value} {x1 x2 : List Value} (h1 : w.ownsRow b1 e1 s1 v1 n1 x1) (h2 : w.ownsRow b2 e2 s2 v2 n2 x2) (hne : e1 ≠ e2) : v1.ownBlock = none ∨ v1.ownBlock ≠ v2.ownBlock := by
 cases hk : v1.ownBlock with
 | none => exact .inl rfl
 | some k =>
  refine .inr fun e => ?_
  obtain ⟨c1, g1⟩ := own_obj h1 hk
  obtain ⟨c2, g2⟩ := own_obj h2 e.symm
  rw [g1] at g2
  injection g2 with g2
  injection g2 with _ g2 _
  exact hne g2
structure CompS (w W : World) (B E P : Nat) (c0 : Array Value) (v1 v2 : Value) (x : Arc) : Prop where
 b : W.heap[B]? = some (.cells c0 33 (0, 0))
 z : W.heap[B + 1]? = some (.cells #[.slice none 0 0, .slice none 0 0] 33 (0, 0))
 p : W.heap[P]? = some (.cells #[v1, v2] 33 (0, 0))
 o : OwnA W E v1 v2 x
 be : B + 1 < E
 ep : E ≤ P
 bel : Below B w W
section
variable {w W W' : World} {B E P : Nat} {c0 : Array Value} {v1 v2 : Value} {x : Arc}
theorem CompS.lt (h : CompS w W B E P c0 v1 v2 x) : P < W.heap.size := (Array.getElem?_eq_some_iff.1 h.p).1
theorem CompS.below (h : CompS w W B E P c0 v1 v2 x) (hb : Below W.heap.size W W') : CompS w W' B E P c0 v1 v2 x := by
 have := h.lt
 have := h.be
 have := h.ep
 exact ⟨(hb.block _ (by omega)).trans h.b, (hb.block _ (by omega)).trans h.z, (hb.block _ h.lt).trans h.p, h.o.below hb, h.be, h.ep, h.bel.trans (hb.mono (by omega))⟩
theorem CompS.ownP1 (h : CompS w W B E P c0 v1 v2 x) : some P ≠ v1.ownBlock := by
 intro e
 obtain ⟨c, g⟩ := own_obj h.o.s e.symm
 rw [h.p] at g
 injection g with g
 injection g with _ g _
 exact absurd g (by decide)
theorem CompS.ownP2 (h : CompS w W B E P c0 v1 v2 x) : some P ≠ v2.ownBlock := by
 intro e
 obtain ⟨c, g⟩ := own_obj h.o.f e.symm
 rw [h.p] at g
 injection g with g
 injection g with _ g _
 exact absurd g (by decide)
theorem CompS.map (h : CompS w W B E P c0 v1 v2 x) {V m : Nat} {f : Int → Nat} (hm : IntMap W V m f) (hE : E ≤ V) (hg : W.grownBy W' (some V)) : CompS w W' B E P c0 v1 v2 x := by
 have h1 := h.lt
 have h2 := h.be
 have h3 := h.ep
 have hP : P ≠ V := by
  intro e; subst e
  obtain ⟨es, c, g⟩ := hm.obj
  rw [h.p] at g; cases g
 exact ⟨(hg.block B (by omega) (by simp; omega)).trans h.b, (hg.block (B + 1) (by omega) (by simp; omega)).trans h.z, (hg.block P h1 (by simpa using hP)).trans h.p,
  ⟨h.o.s.kept hg (.inr (Ne.symm (hm.notOwn h.o.s))), h.o.f.kept hg (.inr (Ne.symm (hm.notOwn h.o.f)))⟩, h.be, h.ep, h.bel.grown hg (by omega) (fun k hk => by simp at hk; omega)⟩
theorem CompS.push (h : CompS w W B E P c0 v1 v2 x) {v1' : Value} {d : Bytes} (hg : W.grownBy W' v1.ownBlock) (hs : W'.ownsRow E 9 1 v1' (x.ds.length + 1) ((x.ds ++ [d]).map strS)) :
  CompS w (W'.setCell ⟨P, 0, none⟩ v1') B E P c0 v1' v2 ⟨x.ds ++ [d], x.fs⟩ ∧ W'.heap[P]? = some (.cells #[v1, v2] 33 (0, 0)) ∧ (∀ j, j < W.heap.size → j ≠ P → some j ≠ v1.ownBlock → (W'.setCell ⟨P, 0, none⟩ v1').heap[j]? = W.heap[j]?) := by
 have h1 := h.lt
 have h2 := h.be
 have h3 := h.ep
 have hP' : W'.heap[P]? = some (.cells #[v1, v2] 33 (0, 0)) := (hg.block P h1 h.ownP1).trans h.p
 have hlo : ∀ j, j < E → some j ≠ v1.ownBlock := fun j hj e => by have := (h.o.s.lt j e.symm).1; omega
 have hrow : W'.setCell ⟨P, 0, none⟩ v1' = W'.setRow P #[v1', v2] := by rw [setCell_eq_setRow W' P 0 _ _ _ _ hP']; rfl
 rw [hrow]
 have hoth : ∀ j, j < W.heap.size → j ≠ P → some j ≠ v1.ownBlock → (W'.setRow P #[v1', v2]).heap[j]? = W.heap[j]? := fun j hj hne hno => by
  rw [setRow_other W' P j _ hne]
  exact hg.block j hj hno
 have hf' : W'.ownsRow E 61 5 v2 x.fs.length (filsCells x.fs) := h.o.f.kept hg (own_apart h.o.f h.o.s (by decide))
 have hPt : ∀ {e size n : Nat} {v : Value} {xs : List Value}, W'.ownsRow E e size v n xs → e ≠ 33 → ∀ k, v.ownBlock = some k → k ≠ P := fun ho hne k hk e => by
  subst e
  obtain ⟨c, g⟩ := own_obj ho hk
  rw [hP'] at g
  injection g with g
  injection g with _ g _
  exact hne g.symm
 refine ⟨⟨(hoth B (by omega) (by omega) (hlo B (by omega))).trans h.b, (hoth (B + 1) (by omega) (by omega) (hlo (B + 1) h2)).trans h.z, setRow_heap _ _ _ _ _ _ hP', ⟨?_, own_setRow hf' (hPt hf' (by decide)) _⟩, h2, h3, ?_⟩, hP', hoth⟩
 ·have : (x.ds ++ [d]).length = x.ds.length + 1 := by simp
  show (W'.setRow P _).ownsRow E 9 1 v1' (x.ds ++ [d]).length _
  rw [this]
  exact own_setRow hs (hPt hs (by decide)) _
 ·exact below_setRow (h.bel.grown hg (by omega) (fun k hk => by have := (h.o.s.lt k hk).1; omega)) (by omega) _
theorem CompS.turn (h : CompS w W B E P c0 v1 v2 x) {l : List Fil} (hg : W.grownBy W' v2.ownBlock) (hf : W'.ownsRow E 61 5 v2 l.length (filsCells l)) : CompS w W' B E P c0 v1 v2 ⟨x.ds, l⟩ := by
 have h1 := h.lt
 have h2 := h.be
 have h3 := h.ep
 have hlo : ∀ j, j < E → some j ≠ v2.ownBlock := fun j hj e => by have := (h.o.f.lt j e.symm).1; omega
 exact ⟨(hg.block B (by omega) (hlo B (by omega))).trans h.b, (hg.block (B + 1) (by omega) (hlo (B + 1) h2)).trans h.z, (hg.block P h1 h.ownP2).trans h.p, ⟨h.o.s.kept hg (own_apart h.o.s h.o.f (by decide)), hf⟩, h2, h3, h.bel.grown hg (by omega) (fun k hk => by have := (h.o.f.lt k hk).1; omega)⟩
theorem CompS.cells (h : CompS w W B E P c0 v1 v2 x) : W.cell? ⟨P, 0, none⟩ = some v1 ∧ W.cell? ⟨P, 1, none⟩ = some v2 ∧ W.frozen? ⟨P, 0, none⟩ = false ∧ W.frozen? ⟨P, 1, none⟩ = false := two_cells h.p
end
theorem fils_drop {fs : List Fil} {k : Nat} {f : Fil} (h : fs[k]? = some f) : fs.drop k = f :: fs.drop (k + 1) := by
 have hk := (List.getElem?_eq_some_iff.1 h).1
 rw [List.drop_eq_getElem_cons hk]
 congr 1
 rw [List.getElem?_eq_getElem hk] at h
 exact Option.some.inj h
theorem done_step {fs : List Fil} {g : Fil → Fil} {k : Nat} {f : Fil} (h : fs[k]? = some f) : ((fs.take k).map g ++ fs.drop k)[k]? = some f ∧ ((fs.take k).map g ++ fs.drop k).set k (g f) = (fs.take (k + 1)).map g ++ fs.drop (k + 1) := by
 have hk := (List.getElem?_eq_some_iff.1 h).1
 have hl : ((fs.take k).map g).length = k := by rw [List.length_map, List.length_take]; omega
 have hd : fs.drop k = f :: fs.drop (k + 1) := fils_drop h
 refine ⟨by rw [List.getElem?_append_right (by omega), hl, Nat.sub_self, hd]; rfl, ?_⟩
 rw [List.set_append_right _ _ (by omega), hl, Nat.sub_self, hd, List.set_cons_zero, List.take_add_one, h, List.map_append]
 simp
end Go.Proofs.YtjpgoeimclipjaaGreat
namespace Go.Proofs.YtjpgoeimclipjaaGreat
open Go.RowKit Go.Lib Pl
attribute [local go_sem] ext_list app_list
theorem PcAt.up {w w' : World} {A : Option Addr} {n : Nat} {o : List (Bytes × Nat)} (h : PcAt w A n o) (hb : Below w.heap.size w w') : PcAt w' A n o :=
 ⟨h.1, fun hn => by
  obtain ⟨b, off, e, hlt, hc⟩ := h.2 hn
  exact ⟨b, off, e, Nat.lt_of_lt_of_le hlt hb.size, fun i x hx => by
   obtain ⟨a, b⟩ := hc i x hx
   exact ⟨(hb.cell (p := ⟨_, _, none⟩) hlt).trans a, (hb.cell (p := ⟨_, _, none⟩) hlt).trans b⟩⟩⟩
theorem PcAt.at_ {w : World} {A : Option Addr} {n k : Nat} {o : List (Bytes × Nat)} (h : PcAt w A n o) (hk : k < n) : ∃ b off x, A = some ⟨b, off, none⟩ ∧ b < w.heap.size ∧ o[k]? = some x ∧ w.cell? ⟨b, off + k * 2, none⟩ = some (S x.1) ∧ w.cell? ⟨b, off + k * 2 + 1, none⟩ = some (I x.2) := by
 obtain ⟨b, off, e, hb, hc⟩ := h.2 (by omega)
 have hl : k < o.length := by have := h.1; omega
 exact ⟨b, off, o[k], e, hb, List.getElem?_eq_getElem hl, hc k _ (List.getElem?_eq_getElem hl)⟩
theorem drop_cons' {α : Type} {l : List α} {k : Nat} {t : α} (h : l[k]? = some t) : l.drop k = t :: l.drop (k + 1) := by
 have hk : k < l.length := (List.getElem?_eq_some_iff.1 h).1
 rw [List.drop_eq_getElem_cons hk]
 congr 1
 rw [List.getElem?_eq_getElem hk] at h
 injection h
set_option maxHeartbeats 4000000 in
set_option maxRecDepth 100000 in
theorem train_ok (A : Option Addr) (n cap : Nat) (l : List Bytes) (size : Nat) (w : World) (hm : MaxLenIs w) (hl : StrsAt w w.heap.size A n l) (hb : manyB l = false) (hs : ∀ t ∈ l, t.length ≤ 9223372036854775807) (hsz : size ≤ 256) :
  Calls Tryz.prog 88 #[.slice A n cap, I size] w fun e w' => e = .returned (.tuple #[S (trainOf l size), I 0]) ∧ Below w.heap.size w w' ∧ ∃ c, Cands l c := by
 obtain ⟨h12, hs2⟩ := manyB_no hb
 have hn12 : n ≤ 12 := by have := hl.1; omega
 have C0 := many_any A n cap l w hl (by omega) hs
 rw [hb] at C0
 have C0 := hide C0
 have C1 := hide (pieces_any sortSpec A n cap l w hl hn12 hs2)
 have HM := hide hm
 clear hb hs hs2 hm
 go_enter Tryz.func88, Tryz.ntmps88
 go_wp2_with fail
 refine (unhide C0).mono ?_
 rintro e w1 ⟨rfl, rfl⟩
 go_wp2_with fail
 refine (unhide C1).mono ?_
 rintro e w1 ⟨⟨A1, n1, cap1, c, rfl, hc, hat, hn1b⟩, hb1⟩
 have HC := hide hc
 have HAT := hide hat
 have hc4 : ∀ p ∈ c, p.length = 4 := fun p hp => allPieces_len ((hc.mem p).1 hp).1
 have hcn : ∀ p, cnt l p ≤ 12 := fun p => Nat.le_trans (cnt_le l p) h12
 have HC4 := hide hc4
 have HCN := hide hcn
 have hn1 : c.length = n1 := by have := hat.1; simpa using this
 have HN1 := hide hn1
 clear hc hat hc4 hn1 hcn
 go_wp2_with fail
 go_loopw [6, 20] (fun d i wr => ∃ (k : Nat) (dict : Bytes), k ≤ n1 ∧ i = .int .i64 k ∧ d = S dict ∧ greedy size dict (c.drop k) = greedy size [] c ∧ dict.length ≤ size ∧ Below w1.heap.size w1 wr) (fun _ i _ => n1 - (intOf i).toNat)
 case atStart => exact ⟨0, [], Nat.zero_le _, rfl, rfl, by simp, by simp, Below.refl _ _⟩
 case round =>
  obtain ⟨k, dict, hk, rfl, rfl, hg, hdl, hbel⟩ := hrel
  have HG := hide hg
  clear hg
  have hml := hide (((unhide HM).up hb1).up hbel)
  by_cases hkn : k < n1
  ·obtain ⟨b, off, x, rfl, hb, hx, q0, q1⟩ := ((unhide HAT).up hbel).at_ hkn
   have hck : c[k]? = some x.1 ∧ x.2 = cnt l x.1 := by
    rw [List.getElem?_map] at hx
    cases hck : c[k]? with
    | none => rw [hck] at hx; simp at hx
    | some p => rw [hck] at hx; simp at hx; subst hx; exact ⟨rfl, rfl⟩
   obtain ⟨p, m⟩ := x
   simp only at hck q0 q1
   obtain ⟨hck, hmc⟩ := hck
   have hp4 := unhide HC4 p (List.mem_of_getElem? hck)
   have hm12 : m ≤ 12 := by rw [hmc]; exact unhide HCN p
   have hdr := drop_cons' hck
   have HDR := hide hdr
   have HP4 := hide hp4
   clear hx hck hmc hdr hp4
   by_cases hz : size < dict.length + 4
   ·have z1 : decide ((dict.length : Int) + 4 > (size : Int)) = true := by simp; omega
    have hres : trainOf l size = dict := by
     rw [trainOf_eq (unhide HC) hsz, ← unhide HG, unhide HDR, greedy, if_pos hz]
    have HRES := hide hres
    clear hres hz
    go_wp2_with fail
    go_ret2
    exact ⟨by rw [unhide HRES]; rfl, hb1.trans ((hbel.mono hb1.size).alloc (by have := hb1.size; have := hbel.size; omega) _), c, unhide HC⟩
   ·have z1 : decide ((dict.length : Int) + 4 > (size : Int)) = false := by simp; omega
    have K1 := fun (W : World) (h : MaxLenIs W) => contains_any dict p W h (by omega)
    cases hst : stands p dict with
    | true =>
     rw [hst] at K1
     have K1 := hide K1
     have HST := hide hst
     clear hst
     go_wp2_with fail
     refine (unhide K1 _ ((unhide hml).up ((Below.refl _ _).alloc (Nat.le_refl _) _))).mono ?_
     rintro e w2 ⟨rfl, rfl⟩
     go_wp2_with fail
     go_roundw
     case rel =>
      refine ⟨k + 1, dict, by omega, by go_num, rfl, ?_, hdl, hbel.alloc hbel.size _⟩
      rw [← unhide HG, unhide HDR, greedy, if_neg hz, if_pos (unhide HST)]
     case measure => simp [intOf]; omega
    | false =>
     rw [hst] at K1
     have K1 := hide K1
     have HST := hide hst
     clear hst
     go_wp2_with fail
     refine (unhide K1 _ ((unhide hml).up ((Below.refl _ _).alloc (Nat.le_refl _) _))).mono ?_
     rintro e w2 ⟨rfl, rfl⟩
     have hpl : p.length ≤ 4 := by have := unhide HP4; omega
     go_wp2_with fail
     go_roundw
     case rel =>
      refine ⟨k + 1, p ++ dict, by omega, by go_num, rfl, ?_, by have := unhide HP4; rw [List.length_append]; omega, hbel.alloc hbel.size _⟩
      rw [← unhide HG, unhide HDR, greedy, if_neg hz, if_neg (by rw [unhide HST]; simp)]
     case measure => simp [intOf]; omega
  ·have hres : trainOf l size = dict := by
    rw [trainOf_eq (unhide HC) hsz, ← unhide HG, List.drop_of_length_le (by have := unhide HN1; omega)]; rfl
   have HRES := hide hres
   have hk2 : decide ((k : Int) < (n1 : Int)) = false := by simp; omega
   clear hres
   go_wp2_with fail
   go_ret2
   exact ⟨by rw [unhide HRES]; rfl, hb1.trans (hbel.mono hb1.size), c, unhide HC⟩
set_option maxHeartbeats 1000000 in
set_option maxRecDepth 100000 in
theorem train_any (A : Option Addr) (n cap : Nat) (l : List Bytes) (size : Int) (w : World) (hm : MaxLenIs w) (hl : StrsAt w w.heap.size A n l) (hn : n ≤ 4611686018427387904) (hs : ∀ t ∈ l, t.length ≤ 9223372036854775807) :
  Calls Tryz.prog 88 #[.slice A n cap, I size] w fun e w' => e = .returned (.tuple #[S (trainD l size), I (trainE l size)]) ∧ Below w.heap.size w w' ∧ (trainE l size = 0 → ∃ c, Cands l c) := by
 have C0 := many_any A n cap l w hl hn hs
 by_cases h : manyB l = true
 ·have e1 : trainE l size = 2 := by unfold trainE; rw [if_pos h]
  have e2 : trainD l size = [] := by unfold trainD; rw [if_pos h]
  rw [e1, e2]
  rw [h] at C0
  have C0 := hide C0
  clear e1 e2 h
  go_enter Tryz.func88, Tryz.ntmps88
  go_wp2_with fail
  refine (unhide C0).mono ?_
  rintro e w1 ⟨rfl, rfl⟩
  go_wp2_with fail
  go_ret2
  exact ⟨rfl, Below.refl _ _, fun h => by omega⟩
 ·have h : manyB l = false := by simpa using h
  by_cases hz : size < 0 ∨ 256 < size
  ·have e1 : trainE l size = 3 := by unfold trainE; rw [h, if_neg (by simp), if_pos hz]
   have e2 : trainD l size = [] := by unfold trainD; rw [h, if_neg (by simp), if_pos hz]
   rw [e1, e2]
   rw [h] at C0
   have C0 := hide C0
   clear e1 e2 h
   by_cases h0 : size < 0
   ·clear hz
    go_enter Tryz.func88, Tryz.ntmps88
    go_wp2_with fail
    refine (unhide C0).mono ?_
    rintro e w1 ⟨rfl, rfl⟩
    go_wp2_with fail
    go_ret2
    exact ⟨rfl, Below.refl _ _, fun h => by omega⟩
   ·have h1 : 256 < size := by omega
    have h2 : 0 ≤ size := by omega
    have e4 : decide (size < 0) = false := by simp; omega
    clear hz h0
    go_enter Tryz.func88, Tryz.ntmps88
    go_wp2_with fail
    refine (unhide C0).mono ?_
    rintro e w1 ⟨rfl, rfl⟩
    go_wp2_with fail
    go_ret2
    exact ⟨rfl, Below.refl _ _, fun h => by omega⟩
  ·have e1 : trainE l size = 0 := by unfold trainE; rw [h, if_neg (by simp), if_neg hz]
   have e2 : trainD l size = trainOf l size.toNat := by unfold trainD; rw [h, if_neg (by simp), if_neg hz]
   obtain ⟨q, rfl⟩ := Int.eq_ofNat_of_zero_le (show 0 ≤ size by omega)
   rw [e1, e2, Int.toNat_natCast]
   exact (train_ok A n cap l q w hm hl h hs (by omega)).mono fun e w' ⟨h1, h2, h3⟩ => ⟨h1, h2, fun _ => h3⟩
end Go.Proofs.YtjpgoeimclipjaaGreat
