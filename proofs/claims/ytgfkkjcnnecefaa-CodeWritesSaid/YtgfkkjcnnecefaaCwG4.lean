/- Arrays of 16 numbers. -/
import Derived.Test.YtgfkkjcnnecefaaCwG3
import Derived.Laws.Rows
import Derived.Deep.WholeRow
import Derived.Laws.CopyOwn
import Derived.OneCell

namespace Go.Proofs.Ytgfkkjcnnecefaa
open Go.RowKit Go.Lib Pl

abbrev cells16 (l : List Int) : Array Value := (l.map (Value.int .i64)).toArray
abbrev A16 (l : List Int) : Value := .agg (cells16 l)
theorem info16 : (Try.prog.info? 64).map (·.size) = some 16 := by kernel_rfl

/-- the whole array, read out of its variable -/
theorem wpList_load16 {ops : Array Oper} {rest : List Oper} {o : Oper} {a : Act} {w : World} {Q : Exit → Act → World → Prop} (hgd : o.guard = none) (x : Operand) (ho : o.op = .load 64 x)
    (g : Nat) (hx : a.eval x = .pointer (some ⟨g, 0, none⟩)) (l : List Int) (hl : l.length = 16) {t : TypeId} {fz : Nat × Nat} (hg : w.heap[g]? = some (.cells (cells16 l) t fz))
    (h : wpList Try.prog ops Q rest (a.put o.dst (A16 l)) w) : wpList Try.prog ops Q (o :: rest) a w :=
  wpList_load_row hgd 64 x ho g hx t (cells16 l) fz _ hg Try.underlying64 rfl (by rw [info16]; simp [hl]) h

theorem cell16 {w : World} {g : Nat} {l : List Int} {t : TypeId} {fz : Nat × Nat} (hg : w.heap[g]? = some (.cells (cells16 l) t fz)) {k : Nat} {x : Int} (hk : l[k]? = some x) : w.cell? ⟨g, k, none⟩ = some (.int .i64 x) := by
  rw [cell_of_row w _ k _ _ _ hg]
  simp [cells16, hk]
theorem run_index16 (l : List Int) (hl : l.length = 16) (k : Nat) (x : Int) (hk : l[k]? = some x) (w : World) : (Instr.index 64 (A16 l) (.int .i64 k)).run Try.prog w = .ok (.int .i64 x) w := by
  have hk2 : k < l.length := (List.getElem?_eq_some_iff.1 hk).1
  have hk3 : l[k] = x := (List.getElem?_eq_some_iff.1 hk).2
  unfold Instr.index
  simp [run_underlying Try.underlying64, asIntOf, Result.andThen, part, Try.isAgg3, Try.sizeOf3, cells16, hk]
  intro h2; omega

end Go.Proofs.Ytgfkkjcnnecefaa

/- The walk of Play, Check. -/
namespace Go.Proofs.Ytgfkkjcnnecefaa
open Go.RowKit Go.Lib Pl
attribute [local go_sem] ext_list app_list

theorem drop_cons {α : Type} {l : List α} {k : Nat} {t : α} (h : l[k]? = some t) : l.drop k = t :: l.drop (k + 1) := by
  have hk : k < l.length := (List.getElem?_eq_some_iff.1 h).1
  rw [List.drop_eq_getElem_cons hk]
  congr 1
  rw [List.getElem?_eq_getElem hk] at h
  injection h

set_option maxHeartbeats 1000000 in
set_option maxRecDepth 100000 in
theorem play_walk (dict : Bytes) (A : Option Addr) (n cap : Nat) (l : List Tok) (w : World) (hl : ToksAt w w.heap.size A n l) (hd : dict.length ≤ 256) (hn : n ≤ 4611686018427387904) :
    Calls Try.prog 24 #[S dict, .slice A n cap] w fun e w' => e = .returned (.tuple #[S (play dict l).1, I (play dict l).2]) ∧ Below w.heap.size w w' := by
  have kb := fun (W : World) => run_bytes_of_string (P := Try.prog) W 9 73 5 ⟨dict.toArray⟩ Try.underlying9 Try.underlying73 Try.underlying5
  go_enter Try.func24, Try.ntmps24
  go_wp2_with fail
  go_loopw [21] (fun i wr => ∃ (k : Nat) (lit : Bool) (s : Bytes), k ≤ n ∧ i = .int .i64 k ∧ Mk wr w.heap.size (w.heap.size + 1) dict.length lit s ∧ dict.length ≤ s.length ∧ s.length ≤ dict.length + 512 ∧
      playF dict.length s lit (l.drop k) = play dict l ∧ Below w.heap.size w wr)
    (fun i _ => n - (intOf i).toNat)
  case atStart =>
    refine ⟨0, false, dict, by omega, rfl, Mk.made w _ dict (Nat.le_refl _) (by omega), by omega, by omega, ?_, ?_⟩
    · unfold play; rw [if_neg (by unfold maxDict; omega)]; rfl
    · exact ((Below.refl _ _).drew.alloc (Nat.le_refl _) _).alloc (by simp) _
  case round =>
    obtain ⟨k, lit, s, hk, rfl, hMk, hs1, hs2, hpl, hbel⟩ := hrel
    by_cases hkn : k < n
    · obtain ⟨b, off, t, rfl, hb, ht, q0, q1, q2⟩ := (hl.below hbel).at_ hkn
      obtain ⟨c, hc⟩ : ∃ c, c = tokE dict.length s lit t := ⟨_, rfl⟩
      have c1 := fun (W : World) (h : Mk W w.heap.size (w.heap.size + 1) dict.length lit s) => tok_any w.heap.size (w.heap.size + 1) dict.length lit s t W h hs1 hs2 hd
      rw [← hc] at c1
      have C1 := hide c1
      have HC := hide hc
      have HP := hide hpl
      have HT := hide ht
      clear c1 hc hpl ht
      by_cases hz : c = 0
      · subst hz
        go_wp2_with fail
        refine (unhide C1 _ (hMk.alloc _)).mono ?_
        rintro e w1 ⟨rfl, hmk1, hb1, _⟩
        have hmk1 := hmk1 (by first | trivial | exact (unhide HC).symm)
        go_wp2_with fail
        go_roundw
        case rel =>
          obtain ⟨h1, h2, _⟩ := tokS_len (unhide HC).symm hs2 hs1
          refine ⟨k + 1, isLit t, tokS s t, by omega, by go_num, hmk1, h1, h2, ?_, (hbel.alloc hbel.size _).trans hb1⟩
          rw [← unhide HP, drop_cons (unhide HT), playF, if_neg (by rw [← unhide HC]; omega)]
        case measure => simp [intOf]; omega
      · have HZ := hide hz
        have z1 : ((c : Int) == 0) = false := beq_eq_false_iff_ne.2 (by omega)
        have z2 : ((c : Int) != 0) = true := by rw [bne_iff_ne]; omega
        clear hz
        go_wp2_with fail
        refine (unhide C1 _ (hMk.alloc _)).mono ?_
        rintro e w1 ⟨rfl, _, hb1, _⟩
        go_wp2_with fail
        go_ret2
        rw [← unhide HP, drop_cons (unhide HT), playF, if_pos (by rw [← unhide HC]; exact unhide HZ), ← unhide HC]
        exact ⟨rfl, (hbel.alloc hbel.size _).trans hb1⟩
    · have hkn2 : k = n := by omega
      have hpl2 : play dict l = (s.drop dict.length, 0) := by
        rw [← hpl, hkn2, List.drop_of_length_le (by have := hl.1; omega), playF]
      obtain ⟨hbM, A1, cap1, hblk, hown⟩ := hMk
      have c0 : wr.cell? ⟨w.heap.size + 1, 0, none⟩ = some (.slice A1 s.length cap1) := by rw [cell_of_row wr _ 0 _ _ _ hblk]; rfl
      have HP := hide hpl2
      have HO := hide hown
      clear hpl2 hkn2 hblk hown hpl
      have st1 := run_str_cut (P := Try.prog) (k := dict.length) (unhide HO) 73 9 Try.underlying73 Try.underlying5 Try.underlying9
      have hnc : s.length ≤ cap1 := by
        rcases (unhide HO).2 with ⟨hv, h0⟩ | ⟨g, cap', cur, fz, hv, _, _, _, h5, _⟩
        · omega
        · injection hv with _ _ h6; omega
      by_cases hcd : cap1 = dict.length
      · have hsl : s.length - dict.length = 0 := by omega
        have st0 := fun (p : Option Addr) (c : Nat) => run_str_zero (P := Try.prog) wr p c 73 9 5 Try.underlying73 Try.underlying5 Try.underlying9
        have hdr : s.drop dict.length = [] := List.drop_of_length_le (by omega)
        have HD := hide hdr
        clear st1 hdr
        go_wp2_with fail
        go_ret2
        rw [unhide HP, unhide HD]
        exact ⟨rfl, hbel⟩
      · go_wp2_with fail
        go_ret2
        rw [unhide HP]
        exact ⟨rfl, hbel⟩

set_option maxHeartbeats 1000000 in
set_option maxRecDepth 100000 in
theorem play_many (dict : Bytes) (A : Option Addr) (n cap : Nat) (w : World) (hd : 256 < dict.length) (hd2 : dict.length ≤ 9223372036854775807) :
    Calls Try.prog 24 #[S dict, .slice A n cap] w fun e w' => e = .returned (.tuple #[S [], I 2]) ∧ Below w.heap.size w w' := by
  go_enter Try.func24, Try.ntmps24
  go_wp2_with fail
  go_ret2
  exact ⟨rfl, Below.refl _ _⟩

/-- Play -/
theorem play_any (dict : Bytes) (A : Option Addr) (n cap : Nat) (l : List Tok) (w : World) (hl : ToksAt w w.heap.size A n l) (hd : dict.length ≤ 9223372036854775807) (hn : n ≤ 4611686018427387904) :
    Calls Try.prog 24 #[S dict, .slice A n cap] w fun e w' => e = .returned (.tuple #[S (play dict l).1, I (play dict l).2]) ∧ Below w.heap.size w w' := by
  by_cases h : dict.length ≤ 256
  · exact play_walk dict A n cap l w hl h hn
  · have e : play dict l = ([], 2) := by unfold play; exact if_pos (by unfold maxDict; omega)
    rw [e]; exact play_many dict A n cap w (by omega) hd

set_option maxHeartbeats 1000000 in
set_option maxRecDepth 100000 in
/-- Check -/
theorem check_any (dict : Bytes) (A : Option Addr) (n cap : Nat) (l : List Tok) (w : World) (hl : ToksAt w w.heap.size A n l) (hd : dict.length ≤ 9223372036854775807) (hn : n ≤ 4611686018427387904) :
    Calls Try.prog 27 #[S dict, .slice A n cap] w fun e w' => e = .returned (I (play dict l).2) ∧ Below w.heap.size w w' := by
  have c1 := hide (play_any dict A n cap l w hl hd hn)
  go_enter Try.func27, Try.ntmps27
  go_wp2_with fail
  refine (unhide c1).mono ?_
  rintro e w1 ⟨rfl, hb⟩
  go_wp2_with fail
  go_ret
  exact ⟨rfl, hb⟩

end Go.Proofs.Ytgfkkjcnnecefaa

/- The walk of the reference's CheckToks. -/
namespace Go.Proofs.Ytgfkkjcnnecefaa
open Go.RowKit Go.Lib Pl
attribute [local go_sem] ext_list app_list

theorem within_any (a b c : Int) (w : World) : Calls Try.prog 54 #[I a, I b, I c] w fun e w' => e = .returned (.bool (decide (b ≤ a ∧ a ≤ c))) ∧ w = w' := by
  by_cases h1 : b ≤ a
  · by_cases h2 : a ≤ c
    · rw [decide_eq_true ⟨h1, h2⟩]
      go_enter Try.func54, Try.ntmps54
      go_wp2
      go_ret
      exact ⟨rfl, rfl⟩
    · rw [decide_eq_false (by omega)]
      go_enter Try.func54, Try.ntmps54
      go_wp2
      go_ret
      exact ⟨rfl, rfl⟩
  · rw [decide_eq_false (by omega)]
    go_enter Try.func54, Try.ntmps54
    go_wp2
    go_ret
    exact ⟨rfl, rfl⟩
theorem within_yes (a b c : Int) (w : World) (h : b ≤ a ∧ a ≤ c) : Calls Try.prog 54 #[I a, I b, I c] w fun e w' => e = .returned (.bool true) ∧ w = w' :=
  (within_any a b c w).mono fun _ _ ⟨he, hw⟩ => ⟨by rw [he, decide_eq_true h], hw⟩
theorem within_no (a b c : Int) (w : World) (h : ¬ (b ≤ a ∧ a ≤ c)) : Calls Try.prog 54 #[I a, I b, I c] w fun e w' => e = .returned (.bool false) ∧ w = w' :=
  (within_any a b c w).mono fun _ _ ⟨he, hw⟩ => ⟨by rw [he, decide_eq_false h], hw⟩

theorem slice_one {s : Bytes} {a : Nat} {c : UInt8} (h : s[a]? = some c) : slice s a (a + 1) = [c] := by
  unfold slice
  rw [List.take_add_one, h]
  have : a < s.length := (List.getElem?_eq_some_iff.1 h).1
  rw [List.drop_append_of_le_length (by simp; omega), List.drop_of_length_le (by simp; omega)]
  rfl

/-- the tok before the k-th is as it is -/
def prevLit (l : List Tok) (k : Nat) : Bool := decide (0 < k) && (match l[k - 1]? with | some t => isLit t | none => false)
theorem prevLit_succ {l : List Tok} {k : Nat} {t : Tok} (h : l[k]? = some t) : prevLit l (k + 1) = isLit t := by
  unfold prevLit; simp [h]

set_option maxHeartbeats 4000000 in
set_option maxRecDepth 100000 in
theorem checkToks_walk (dict : Bytes) (A : Option Addr) (n cap : Nat) (l : List Tok) (w : World) (hl : ToksAt w w.heap.size A n l) (hd : dict.length ≤ 256) (hn : n ≤ 4611686018427387904) :
    Calls Try.prog 25 #[S dict, .slice A n cap] w fun e w' => e = .returned (.tuple #[S (play dict l).1, I (play dict l).2]) ∧ Below w.heap.size w w' := by
  go_enter Try.func25, Try.ntmps25
  go_wp2_with fail
  go_loopw [6, 7] (fun sv i wr => ∃ (k : Nat) (s : Bytes), k ≤ n ∧ i = .int .i64 k ∧ sv = S s ∧ dict.length ≤ s.length ∧ s.length ≤ dict.length + 512 ∧
      playF dict.length s (prevLit l k) (l.drop k) = play dict l ∧ Below w.heap.size w wr)
    (fun _ i _ => n - (intOf i).toNat)
  case atStart =>
    refine ⟨0, dict, by omega, rfl, rfl, by omega, by omega, ?_, Below.refl _ _⟩
    unfold play; rw [if_neg (by unfold maxDict; omega)]; rfl
  case round =>
    obtain ⟨k, s, hk, rfl, rfl, hs1, hs2, hpl, hbel⟩ := hrel
    have hd0 : (0 : Int) ≤ (s.length : Int) - (dict.length : Int) := by omega
    have hd1 : (s.length : Int) - (dict.length : Int) ≤ 512 := by omega
    by_cases hkn : k < n
    · obtain ⟨b, off, rfl, hb, hc⟩ := (hl.below hbel).2 (by omega)
      have hkl : k < l.length := by have := hl.1; omega
      have hbw : b < wr.heap.size := Nat.lt_of_lt_of_le hb hbel.size
      obtain ⟨t, ht⟩ : ∃ t, l[k]? = some t := ⟨_, List.getElem?_eq_getElem hkl⟩
      obtain ⟨q0, q1, q2⟩ := hc k t ht
      obtain ⟨tl, tf, tn⟩ := t
      by_cases hlit : tl = []
      · subst hlit
        have HP := hide hpl
        have HT := hide ht
        clear hpl ht hc
        by_cases h1 : 3 ≤ tn ∧ tn ≤ 64
        · obtain ⟨h1, h2⟩ := h1
          by_cases h3 : 1 ≤ tf ∧ tf ≤ (s.length : Int)
          · obtain ⟨h3, h4⟩ := h3
            obtain ⟨f, rfl⟩ := Int.eq_ofNat_of_zero_le (show 0 ≤ tf by omega)
            obtain ⟨m, rfl⟩ := Int.eq_ofNat_of_zero_le (show 0 ≤ tn by omega)
            have hgd : ¬ ((m : Int) < 3 ∨ 64 < (m : Int) ∨ (f : Int) < 1 ∨ (s.length : Int) < (f : Int)) := by omega
            by_cases h5 : 512 < m + (s.length - dict.length)
            · have hE : tokE dict.length s (prevLit l k) ⟨[], f, m⟩ = 2 := by unfold tokE; rw [if_neg (by simp), if_neg hgd, if_pos (by show 512 < (m : Int) + _; omega)]
              have HE := hide hE
              have h6 : 512 - ((s.length : Int) - (dict.length : Int)) < (m : Int) := by omega
              clear hE hgd
              go_wp2_with ((go_at_call 54; first | (refine (within_yes _ _ _ _ ⟨by omega, by omega⟩).mono ?_; rintro e w1 ⟨rfl, rfl⟩) | (refine (within_no _ _ _ _ (by omega)).mono ?_; rintro e w1 ⟨rfl, rfl⟩)))
              go_ret2
              rw [← unhide HP, drop_cons (unhide HT), playF, if_pos (by rw [unhide HE]; omega), unhide HE]
              exact ⟨rfl, hbel.alloc hbel.size _⟩
            · have hE : tokE dict.length s (prevLit l k) ⟨[], f, m⟩ = 0 := by unfold tokE; rw [if_neg (by simp), if_neg hgd, if_neg (by show ¬ 512 < (m : Int) + _; omega)]
              have HE := hide hE
              have h6 : (m : Int) ≤ 512 - ((s.length : Int) - (dict.length : Int)) := by omega
              have h6n : decide (512 - ((s.length : Int) - (dict.length : Int)) < (m : Int)) = false := by simp; omega
              have h4n : decide (s.length < f) = false := by simp; omega
              clear hE hgd
              go_wp2_with ((go_at_call 54; first | (refine (within_yes _ _ _ _ ⟨by omega, by omega⟩).mono ?_; rintro e w1 ⟨rfl, rfl⟩) | (refine (within_no _ _ _ _ (by omega)).mono ?_; rintro e w1 ⟨rfl, rfl⟩)))
              obtain ⟨wo, hwo⟩ : ∃ wo : World, wo = wr := ⟨_, rfl⟩
              go_loop [6, 9] (fun sv i => ∃ j : Nat, j ≤ m ∧ i = .int .i64 j ∧ sv = S (copyB j f s)) (fun _ i => m - (intOf i).toNat)
              case atStart => exact ⟨0, by omega, rfl, rfl⟩
              case round =>
                obtain ⟨j, hj, rfl, rfl⟩ := hrel
                have hcl := copyB_len j f s
                obtain ⟨s', hs'⟩ : ∃ s', s' = copyB j f s := ⟨_, rfl⟩
                rw [← hs'] at hcl
                rw [← hs']
                have HS := hide hs'
                by_cases hjm : j < m
                · obtain ⟨a, ha⟩ : ∃ a : Nat, a = s'.length - f := ⟨_, rfl⟩
                  have ha1 : (s'.length : Int) - (f : Int) = (a : Int) := by omega
                  have ha2 : a < s'.length := by omega
                  obtain ⟨c, hcc⟩ : ∃ c, s'[a]? = some c := ⟨_, List.getElem?_eq_getElem ha2⟩
                  have hso := slice_one hcc
                  have hb3 : s'.length ≤ 832 := by omega
                  have HCC := hide hcc
                  have HA := hide ha
                  clear hcl hs' hcc ha hwo
                  go_wp2_with fail
                  go_round
                  case rel =>
                    refine ⟨j + 1, by omega, by go_num, ?_⟩
                    rw [copyB_snoc, ← unhide HS, ← unhide HA, List.getD_eq_getElem?_getD, unhide HCC]
                    rfl
                  case measure => simp [intOf]; omega
                · have hjm2 : j = m := by omega
                  have HJ := hide hjm2
                  have hb3 : s'.length ≤ dict.length + 512 := by omega
                  have hb4 : dict.length ≤ s'.length := by omega
                  clear hcl hs' hjm2 hwo
                  go_wp2_with fail
                  go_roundw
                  case rel =>
                    refine ⟨k + 1, s', by omega, by go_num, rfl, hb4, hb3, ?_, hbel.alloc hbel.size _⟩
                    have e1 : tokS s ⟨[], f, m⟩ = s' := by rw [unhide HS, unhide HJ]; simp [tokS]
                    rw [← unhide HP, drop_cons (unhide HT), playF, if_neg (by rw [unhide HE]; omega), prevLit_succ (unhide HT), e1]
                  case measure => simp [intOf]; omega
          · have hE : tokE dict.length s (prevLit l k) ⟨[], tf, tn⟩ = 1 := by unfold tokE; rw [if_neg (by simp), if_pos (by show tn < 3 ∨ 64 < tn ∨ tf < 1 ∨ (s.length : Int) < tf; omega)]
            have HE := hide hE
            clear hE
            go_wp2_with ((go_at_call 54; first | (refine (within_yes _ _ _ _ ⟨by omega, by omega⟩).mono ?_; rintro e w1 ⟨rfl, rfl⟩) | (refine (within_no _ _ _ _ (by omega)).mono ?_; rintro e w1 ⟨rfl, rfl⟩)))
            go_ret2
            rw [← unhide HP, drop_cons (unhide HT), playF, if_pos (by rw [unhide HE]; omega), unhide HE]
            exact ⟨rfl, hbel.alloc hbel.size _⟩
        · have hE : tokE dict.length s (prevLit l k) ⟨[], tf, tn⟩ = 1 := by unfold tokE; rw [if_neg (by simp), if_pos (by show tn < 3 ∨ 64 < tn ∨ tf < 1 ∨ (s.length : Int) < tf; omega)]
          have HE := hide hE
          clear hE
          go_wp2_with ((go_at_call 54; first | (refine (within_yes _ _ _ _ ⟨by omega, by omega⟩).mono ?_; rintro e w1 ⟨rfl, rfl⟩) | (refine (within_no _ _ _ _ (by omega)).mono ?_; rintro e w1 ⟨rfl, rfl⟩)))
          go_ret2
          rw [← unhide HP, drop_cons (unhide HT), playF, if_pos (by rw [unhide HE]; omega), unhide HE]
          exact ⟨rfl, hbel.alloc hbel.size _⟩
      · have hl1 : tl.isEmpty = false := by simpa using hlit
        have hl2 : (tl == []) = false := by simpa using hlit
        have HL := hide hlit
        have HP := hide hpl
        have HT := hide ht
        have HCELL := hide hc
        clear hlit hpl ht hc
        by_cases h1 : tf = 0
        · subst h1
          by_cases h2 : tn = 0
          · subst h2
            by_cases hk0 : 0 < k
            · have hk1 : k - 1 < l.length := by omega
              obtain ⟨tp, htp⟩ : ∃ t, l[k - 1]? = some t := ⟨_, List.getElem?_eq_getElem hk1⟩
              obtain ⟨r0, _, _⟩ := (unhide HCELL) (k - 1) tp htp
              obtain ⟨pl, pf, pn⟩ := tp
              have hv : prevLit l k = !pl.isEmpty := by unfold prevLit; rw [htp]; simp [hk0, isLit]
              have hj2 : ((k : Int) - 1).toNat = k - 1 := by omega
              clear htp
              by_cases hpe : pl = []
              · subst hpe
                have HV := hide (show prevLit l k = false by rw [hv]; rfl)
                clear hv
                by_cases h4 : 512 < tl.length + (s.length - dict.length)
                · have hE : tokE dict.length s (prevLit l k) ⟨tl, 0, 0⟩ = 2 := by rw [unhide HV]; simp [tokE, unhide HL, h4]
                  have HE := hide hE
                  have h5 : 512 - ((s.length : Int) - (dict.length : Int)) < (tl.length : Int) := by omega
                  clear hE
                  go_wp2_with fail
                  go_ret2
                  rw [← unhide HP, drop_cons (unhide HT), playF, if_pos (by rw [unhide HE]; omega), unhide HE]
                  exact ⟨rfl, hbel.alloc hbel.size _⟩
                · have hE : tokE dict.length s (prevLit l k) ⟨tl, 0, 0⟩ = 0 := by rw [unhide HV]; simp [tokE, unhide HL]; omega
                  have HE := hide hE
                  have h5 : (tl.length : Int) ≤ 512 - ((s.length : Int) - (dict.length : Int)) := by omega
                  clear hE
                  go_wp2_with fail
                  go_roundw
                  case rel =>
                    refine ⟨k + 1, s ++ tl, by omega, by go_num, rfl, by rw [List.length_append]; omega, by rw [List.length_append]; omega, ?_, hbel.alloc hbel.size _⟩
                    have e1 : tokS s ⟨tl, 0, 0⟩ = s ++ tl := by simp [tokS, unhide HL]
                    rw [← unhide HP, drop_cons (unhide HT), playF, if_neg (by rw [unhide HE]; omega), prevLit_succ (unhide HT), e1]
                  case measure => simp [intOf]; omega
              · have hp1 : pl.isEmpty = false := by simpa using hpe
                have hp2 : (pl == []) = false := by simpa using hpe
                have hE : tokE dict.length s (prevLit l k) ⟨tl, 0, 0⟩ = 1 := by rw [hv, hp1]; simp [tokE, unhide HL]
                have HE := hide hE
                clear hpe hE hv
                go_wp2_with fail
                go_ret2
                rw [← unhide HP, drop_cons (unhide HT), playF, if_pos (by rw [unhide HE]; omega), unhide HE]
                exact ⟨rfl, hbel.alloc hbel.size _⟩
            · have hk1 : k < 1 := by omega
              have HV := hide (show prevLit l k = false by unfold prevLit; simp [hk0])
              by_cases h4 : 512 < tl.length + (s.length - dict.length)
              · have hE : tokE dict.length s (prevLit l k) ⟨tl, 0, 0⟩ = 2 := by rw [unhide HV]; simp [tokE, unhide HL, h4]
                have HE := hide hE
                have h5 : 512 - ((s.length : Int) - (dict.length : Int)) < (tl.length : Int) := by omega
                clear hE
                go_wp2_with fail
                go_ret2
                rw [← unhide HP, drop_cons (unhide HT), playF, if_pos (by rw [unhide HE]; omega), unhide HE]
                exact ⟨rfl, hbel.alloc hbel.size _⟩
              · have hE : tokE dict.length s (prevLit l k) ⟨tl, 0, 0⟩ = 0 := by rw [unhide HV]; simp [tokE, unhide HL]; omega
                have HE := hide hE
                have h5 : (tl.length : Int) ≤ 512 - ((s.length : Int) - (dict.length : Int)) := by omega
                clear hE
                go_wp2_with fail
                go_roundw
                case rel =>
                  refine ⟨k + 1, s ++ tl, by omega, by go_num, rfl, by rw [List.length_append]; omega, by rw [List.length_append]; omega, ?_, hbel.alloc hbel.size _⟩
                  have e1 : tokS s ⟨tl, 0, 0⟩ = s ++ tl := by simp [tokS, unhide HL]
                  rw [← unhide HP, drop_cons (unhide HT), playF, if_neg (by rw [unhide HE]; omega), prevLit_succ (unhide HT), e1]
                case measure => simp [intOf]; omega
          · have z1 : (tn == 0) = false := beq_eq_false_iff_ne.2 h2
            have z2 : (tn != 0) = true := by rw [bne_iff_ne]; exact h2
            have hE : tokE dict.length s (prevLit l k) ⟨tl, 0, tn⟩ = 1 := by simp [tokE, unhide HL, h2]
            have HE := hide hE
            clear h2 hE
            go_wp2_with fail
            go_ret2
            rw [← unhide HP, drop_cons (unhide HT), playF, if_pos (by rw [unhide HE]; omega), unhide HE]
            exact ⟨rfl, hbel.alloc hbel.size _⟩
        · have z1 : (tf == 0) = false := beq_eq_false_iff_ne.2 h1
          have z2 : (tf != 0) = true := by rw [bne_iff_ne]; exact h1
          have hE : tokE dict.length s (prevLit l k) ⟨tl, tf, tn⟩ = 1 := by simp [tokE, unhide HL, h1]
          have HE := hide hE
          clear h1 hE
          go_wp2_with fail
          go_ret2
          rw [← unhide HP, drop_cons (unhide HT), playF, if_pos (by rw [unhide HE]; omega), unhide HE]
          exact ⟨rfl, hbel.alloc hbel.size _⟩
    · have hkn2 : k = n := by omega
      have hpl2 : play dict l = (slice s dict.length s.length, 0) := by
        rw [← hpl, hkn2, List.drop_of_length_le (by have := hl.1; omega), playF, slice_end]
      have HP := hide hpl2
      clear hpl2 hkn2 hpl
      go_wp2_with fail
      go_ret2
      rw [unhide HP]
      exact ⟨rfl, hbel⟩

set_option maxHeartbeats 1000000 in
set_option maxRecDepth 100000 in
theorem checkToks_many (dict : Bytes) (A : Option Addr) (n cap : Nat) (w : World) (hd : 256 < dict.length) (hd2 : dict.length ≤ 9223372036854775807) :
    Calls Try.prog 25 #[S dict, .slice A n cap] w fun e w' => e = .returned (.tuple #[S [], I 2]) ∧ Below w.heap.size w w' := by
  go_enter Try.func25, Try.ntmps25
  go_wp2_with fail
  go_ret2
  exact ⟨rfl, Below.refl _ _⟩
theorem checkToks_any (dict : Bytes) (A : Option Addr) (n cap : Nat) (l : List Tok) (w : World) (hl : ToksAt w w.heap.size A n l) (hd : dict.length ≤ 9223372036854775807) (hn : n ≤ 4611686018427387904) :
    Calls Try.prog 25 #[S dict, .slice A n cap] w fun e w' => e = .returned (.tuple #[S (play dict l).1, I (play dict l).2]) ∧ Below w.heap.size w w' := by
  by_cases h : dict.length ≤ 256
  · exact checkToks_walk dict A n cap l w hl h hn
  · have e : play dict l = ([], 2) := by unfold play; exact if_pos (by unfold maxDict; omega)
    rw [e]; exact checkToks_many dict A n cap w (by omega) hd

end Go.Proofs.Ytgfkkjcnnecefaa

/- The walks of code.Check and the reference's CheckCode. -/
namespace Go.Proofs.Ytgfkkjcnnecefaa
open Go.RowKit Go.Lib Pl

theorem pw_wrap (m : Nat) : wrap64 ((2 : Int) ^ (15 - m)) = (pw m : Int) := by
  have h : (2 : Int) ^ (15 - m) = ((pw m : Nat) : Int) := by unfold pw; norm_cast
  have := pw_le m
  rw [h]; exact IntWalk.wrap64_in _ ⟨by omega, by omega⟩
theorem kr1_zero {x : Int} (h : ¬ 0 < x) : kr1 x = 0 := by unfold kr1; rw [if_neg h]
theorem kr1_pos {m : Nat} (h : 0 < m) : kr1 (m : Int) = pw m := by unfold kr1; rw [if_pos (by omega)]; rfl
theorem kr_take_le (l : List Int) (k : Nat) (hk : k ≤ 16) : kr (l.take k) ≤ 524288 := by
  have := kr_le (l.take k)
  rw [List.length_take] at this
  omega

set_option maxHeartbeats 2000000 in
set_option maxRecDepth 100000 in
theorem checkCode_any (l : List Int) (w : World) (hl : l.length = 16) :
    Calls Try.prog 47 #[A16 l] w fun e w' => e = .returned (I (checkE l)) ∧ Below w.heap.size w w' := by
  have hg0 := heap_alloc_new w (.cells (cells16 l) 64)
  have HG0 := hide hg0
  have HL := hide hl
  have hbel := (Below.refl w.heap.size w).alloc (Nat.le_refl _) (.cells (cells16 l) 64)
  have HBEL := hide hbel
  clear hl hg0 hbel
  go_enter Try.func47, Try.ntmps47
  go_wp2_with (first | (refine wpList_load16 rfl (.tmp 1) rfl w.heap.size rfl l (unhide HL) (unhide HG0) ?_) | fail)
  go_loop [3, 5, 7] (fun s _ i => ∃ (k : Nat) (r : Int), k ≤ 16 ∧ i = .int .i64 k ∧ s = .int .i64 r ∧ r = 32768 - (kr (l.take k) : Int) ∧ (l.take k).any badL = false) (fun _ _ i => 16 - (intOf i).toNat)
  case atStart => exact ⟨0, 32768, by omega, rfl, rfl, by simp [kr], by simp⟩
  case round =>
    obtain ⟨k, r, hk, rfl, rfl, hr, hnb⟩ := hrel
    have hkl := kr_take_le l k hk
    have hr1 : -1000000 ≤ r := by omega
    have hr2 : r ≤ 32768 := by omega
    have HR := hide hr
    have HNB := hide hnb
    clear hr hnb hkl
    by_cases hk16 : k < 16
    · obtain ⟨x, hx⟩ : ∃ x, l[k]? = some x := ⟨_, List.getElem?_eq_getElem (by have := unhide HL; omega)⟩
      have hix := run_index16 l (unhide HL) k x hx
      have HX := hide hx
      clear hx
      by_cases hb : x < 0 ∨ 15 < x
      · have hres : checkE l = 3 := checkE_bad (bad_of_take (k := k + 1) (by rw [bad_take (unhide HX)]; simp [badL, hb]))
        have HRES := hide hres
        have hsz : (x < 0) ∨ (decide (x < 0) = false ∧ 15 < x) := by
          rcases hb with h | h
          · exact .inl h
          · exact .inr ⟨by simp; omega, h⟩
        clear hres hb
        rcases hsz with h0 | ⟨h0, h1⟩
        all_goals
          go_wp2_with fail
          go_ret
          exact ⟨by rw [unhide HRES]; rfl, unhide HBEL⟩
      · have hnb2 : (l.take (k + 1)).any badL = false := by rw [bad_take (unhide HX), unhide HNB]; simp [badL]; omega
        have HN2 := hide hnb2
        obtain ⟨m, rfl⟩ := Int.eq_ofNat_of_zero_le (show 0 ≤ x by omega)
        have hm15 : m ≤ 15 := by omega
        have d1 : decide ((m : Int) < 0) = false := by simp
        have hkt := kr_take (unhide HX)
        have HKT := hide hkt
        have hpw := pw_wrap m
        have hpl := pw_le m
        clear hnb2 hkt hb
        by_cases hp : 0 < m
        · have hk1 := kr1_pos hp
          have HK1 := hide hk1
          clear hk1
          go_wp2_with fail
          go_round
          case rel => exact ⟨k + 1, r - (pw m : Nat), by omega, by go_num, rfl, by rw [unhide HR, unhide HKT, unhide HK1]; omega, unhide HN2⟩
          case measure => simp [intOf]; omega
        · have hk1 := kr1_zero (x := (m : Int)) (by omega)
          have HK1 := hide hk1
          clear hk1
          go_wp2_with fail
          go_round
          case rel => exact ⟨k + 1, r, by omega, by go_num, rfl, by rw [unhide HR, unhide HKT, unhide HK1]; omega, unhide HN2⟩
          case measure => simp [intOf]; omega
    · have hfin : l.take k = l := List.take_of_length_le (by have := unhide HL; omega)
      have hnb := unhide HNB
      have hr := unhide HR
      rw [hfin] at hnb hr
      by_cases hbad : kr l = 0 ∨ 32768 < kr l
      · have hres := checkE_form hnb hbad
        have HRES := hide hres
        have hsz : (r < 0) ∨ (decide (r < 0) = false ∧ (r == 32768) = true) := by
          rcases hbad with h | h
          · exact .inr ⟨by simp; omega, by rw [beq_iff_eq]; omega⟩
          · exact .inl (by omega)
        clear hres hbad hnb hr hfin
        rcases hsz with h0 | ⟨h0, h1⟩
        all_goals
          go_wp2_with fail
          go_ret
          exact ⟨by rw [unhide HRES]; rfl, unhide HBEL⟩
      · have hres := checkE_ok hnb hbad
        have HRES := hide hres
        have h0 : decide (r < 0) = false := by simp; omega
        have h1 : (r == 32768) = false := by rw [beq_eq_false_iff_ne]; omega
        clear hres hbad hnb hr hfin
        go_wp2_with fail
        go_ret
        exact ⟨by rw [unhide HRES]; rfl, unhide HBEL⟩

set_option maxHeartbeats 2000000 in
set_option maxRecDepth 100000 in
/-- the reference's own -/
theorem checkCodeR_any (l : List Int) (w : World) (hl : l.length = 16) :
    Calls Try.prog 48 #[A16 l] w fun e w' => e = .returned (I (checkE l)) ∧ Below w.heap.size w w' := by
  have hg0 := heap_alloc_new w (.cells (cells16 l) 64)
  have HG0 := hide hg0
  have HL := hide hl
  have hbel := (Below.refl w.heap.size w).alloc (Nat.le_refl _) (.cells (cells16 l) 64)
  have HBEL := hide hbel
  clear hl hg0 hbel
  go_enter Try.func48, Try.ntmps48
  go_wp2_with fail
  go_loop [3, 4, 5] (fun s u i => ∃ (k r : Nat) (b : Bool), k ≤ 16 ∧ i = .int .i64 k ∧ s = .int .i64 r ∧ u = .bool b ∧ r = kr (l.take k) ∧ (l.take k).any badL = false ∧ b = decide (0 < r)) (fun _ _ i => 16 - (intOf i).toNat)
  case atStart => exact ⟨0, 0, false, by omega, rfl, rfl, rfl, by simp [kr], by simp, rfl⟩
  case round =>
    obtain ⟨k, r, b, hk, rfl, rfl, rfl, hr, hnb, hbb⟩ := hrel
    have hkl := kr_take_le l k hk
    have hr2 : r ≤ 524288 := by omega
    have HR := hide hr
    have HNB := hide hnb
    have HBB := hide hbb
    clear hr hnb hkl hbb
    by_cases hk16 : k < 16
    · obtain ⟨x, hx⟩ : ∃ x, l[k]? = some x := ⟨_, List.getElem?_eq_getElem (by have := unhide HL; omega)⟩
      have hc := cell16 (unhide HG0) hx
      have HX := hide hx
      clear hx
      by_cases hb : x < 0 ∨ 15 < x
      · have hres : checkE l = 3 := checkE_bad (bad_of_take (k := k + 1) (by rw [bad_take (unhide HX)]; simp [badL, hb]))
        have HRES := hide hres
        have C1 := hide (fun (W : World) => within_no x 0 15 W (by omega))
        clear hres hb
        go_wp2_with (go_at_call 54; refine (unhide C1 _).mono ?_; rintro e w1 ⟨rfl, rfl⟩)
        go_ret
        exact ⟨by rw [unhide HRES]; rfl, unhide HBEL⟩
      · have hnb2 : (l.take (k + 1)).any badL = false := by rw [bad_take (unhide HX), unhide HNB]; simp [badL]; omega
        have HN2 := hide hnb2
        obtain ⟨m, rfl⟩ := Int.eq_ofNat_of_zero_le (show 0 ≤ x by omega)
        have hm15 : m ≤ 15 := by omega
        have C1 := hide (fun (W : World) => within_yes (m : Int) 0 15 W ⟨by omega, by omega⟩)
        have hkt := kr_take (unhide HX)
        have HKT := hide hkt
        have hpw := pw_wrap m
        have hpl := pw_le m
        have hpp := pw_pos m
        clear hnb2 hkt hb
        by_cases hp : 0 < m
        · have hk1 := kr1_pos hp
          have HK1 := hide hk1
          clear hk1
          go_wp2_with (go_at_call 54; refine (unhide C1 _).mono ?_; rintro e w1 ⟨rfl, rfl⟩)
          go_round
          case rel => exact ⟨k + 1, r + pw m, true, by omega, by go_num, by go_num, rfl, by rw [unhide HR, unhide HKT, unhide HK1], unhide HN2, by simp; omega⟩
          case measure => simp [intOf]; omega
        · have hk1 := kr1_zero (x := (m : Int)) (by omega)
          have HK1 := hide hk1
          clear hk1
          go_wp2_with (go_at_call 54; refine (unhide C1 _).mono ?_; rintro e w1 ⟨rfl, rfl⟩)
          go_round
          case rel => exact ⟨k + 1, r, b, by omega, by go_num, rfl, rfl, by rw [unhide HR, unhide HKT, unhide HK1]; omega, unhide HN2, unhide HBB⟩
          case measure => simp [intOf]; omega
    · have hfin : l.take k = l := List.take_of_length_le (by have := unhide HL; omega)
      have hnb := unhide HNB
      have hr := unhide HR
      have hbb := unhide HBB
      rw [hfin] at hnb hr
      by_cases h0 : r = 0
      · have hb0 : b = false := by rw [hbb, h0]; rfl
        subst hb0
        have hres := checkE_form hnb (.inl (by omega))
        have HRES := hide hres
        clear hres hnb hr hfin hbb h0
        go_wp2_with fail
        go_ret
        exact ⟨by rw [unhide HRES]; rfl, unhide HBEL⟩
      · have hb1 : b = true := by rw [hbb]; simp; omega
        subst hb1
        by_cases hbig : 32768 < r
        · have hres := checkE_form hnb (.inr (by omega))
          have HRES := hide hres
          clear hres hnb hr hfin hbb h0
          go_wp2_with fail
          go_ret
          exact ⟨by rw [unhide HRES]; rfl, unhide HBEL⟩
        · have hres := checkE_ok hnb (by omega)
          have HRES := hide hres
          clear hres hnb hr hfin hbb h0
          go_wp2_with fail
          go_ret
          exact ⟨by rw [unhide HRES]; rfl, unhide HBEL⟩

end Go.Proofs.Ytgfkkjcnnecefaa

/- The walk of the reference's words. -/
namespace Go.Proofs.Ytgfkkjcnnecefaa
open Go.RowKit Go.Lib Pl

/-- an array of sixteen strings -/
abbrev cellsS (o : Nat → Bytes) : Array Value := ((List.range 16).map fun j => S (o j)).toArray
abbrev AS (o : Nat → Bytes) : Value := .agg (cellsS o)
theorem info16s : (Try.prog.info? 125).map (fun i => (i.zero, i.size)) = some (some (AS fun _ => []), 16) := by kernel_rfl
theorem size16s : (Try.prog.info? 125).map (·.size) = some 16 := (zero_of_info info16s).2
theorem zero16s (w : World) : (zeroValue 125).run Try.prog w = .ok (AS fun _ => []) w := (zero_of_info info16s).1 w
theorem cellsS_get (o : Nat → Bytes) (k : Nat) (hk : k < 16) : (cellsS o)[k]? = some (S (o k)) := by simp [cellsS, hk]
theorem cellsS_set (o : Nat → Bytes) (k : Nat) (b : Bytes) (hk : k < 16) : (cellsS o).setIfInBounds k (S b) = cellsS fun j => if j = k then b else o j := by
  apply Array.ext_getElem?
  intro j
  rw [Array.getElem?_setIfInBounds]
  by_cases hj : j < 16
  · rw [cellsS_get _ j hj]
    by_cases e : k = j
    · subst e; simp [hj]
    · rw [if_neg e, cellsS_get _ j hj, if_neg (fun h => e h.symm)]
  · have e1 : ∀ o, (cellsS o)[j]? = none := fun o => by simp [cellsS]; omega
    rw [e1, e1]
    split
    · split
      · rename_i h1 h2; subst h1; simp [cellsS] at h2; omega
      · rfl
    · rfl
theorem cellsS_congr {o o' : Nat → Bytes} (h : ∀ j, j < 16 → o j = o' j) : cellsS o = cellsS o' := by
  apply Array.ext_getElem?
  intro j
  by_cases hj : j < 16
  · rw [cellsS_get _ j hj, cellsS_get _ j hj, h j hj]
  · have e1 : ∀ o, (cellsS o)[j]? = none := fun o => by simp [cellsS]; omega
    rw [e1, e1]
theorem cellsS_one (o : Nat → Bytes) : (cellsS o).all (·.oneCell') = true := by
  rw [Array.all_eq_true_iff_forall_mem]
  intro v hv
  simp only [cellsS, List.mem_toArray, List.mem_map] at hv
  obtain ⟨j, _, rfl⟩ := hv
  rfl
theorem cellsS_size (o : Nat → Bytes) : (cellsS o).size = 16 := by simp [cellsS]

/-- what lies there when the words of the earlier ones are written -/
def outW (l : List Int) (s i : Nat) (j : Nat) : Bytes := if Pl.early l s i j = true then bstr (wordB l j) else []
/-- where the reference stands -/
structure RefAt (l : List Int) (s i n q : Nat) : Prop where
  le : q ≤ s
  q15 : q ≤ 15
  val : n * pw q = preS l s i
theorem RefAt.small {l : List Int} {s i n q : Nat} (h : RefAt l s i n q) (hr : Right l) : n ≤ 32768 := by
  have h1 := Nat.le_trans (preS_le l s i) hr.sum
  rw [← h.val] at h1
  exact Nat.le_trans (Nat.le_mul_of_pos_right n (pw_pos q)) h1
theorem RefAt.start (l : List Int) : RefAt l 1 0 0 0 := ⟨by omega, by omega, by rw [preS_zero]; omega⟩
theorem RefAt.skip {l : List Int} {s i n q : Nat} (h : RefAt l s i n q) (hn : ln l i ≠ s) : RefAt l s (i + 1) n q := ⟨h.le, h.q15, by rw [preS_skip hn]; exact h.val⟩
theorem RefAt.row {l : List Int} {s n q : Nat} (h : RefAt l s 16 n q) : RefAt l (s + 1) 0 n q := ⟨by have := h.le; omega, h.q15, by rw [preS_row]; exact h.val⟩
theorem RefAt.number {l : List Int} {s i n q : Nat} (h : RefAt l s i n q) (hs : s ≤ 15) (hn : ln l i = s) : wv l i = n * 2 ^ (s - q) := by
  have h1 := wv_mul l i
  rw [hn, ← h.val, pw_split h.le hs, ← Nat.mul_assoc] at h1
  exact Nat.eq_of_mul_eq_mul_right (pw_pos s) h1
theorem RefAt.hit {l : List Int} {s i n q : Nat} (_h : RefAt l s i n q) (hs : s ≤ 15) (h0 : 0 < s) (hi : i < 16) (hn : ln l i = s) : RefAt l s (i + 1) (wv l i + 1) s := by
  refine ⟨Nat.le_refl _, hs, ?_⟩
  have h1 := wv_mul l i
  rw [hn] at h1
  rw [preS_hit hn h0 hi, Nat.add_mul, h1, Nat.one_mul]
theorem outW_start (l : List Int) : outW l 1 0 = fun _ => [] := by
  funext j
  unfold outW
  rw [if_neg]
  rw [early_iff]; omega
theorem outW_skip {l : List Int} {s i : Nat} (hn : ln l i ≠ s) : outW l s (i + 1) = outW l s i := by
  funext j
  unfold outW
  rw [early_skip hn]
theorem outW_hit {l : List Int} {s i : Nat} (hn : ln l i = s) (h0 : 0 < s) : outW l s (i + 1) = fun j => if j = i then bstr (bt (wv l i) s) else outW l s i j := by
  funext j
  unfold outW
  rw [early_hit hn h0]
  by_cases e : j = i
  · subst e; simp [wordB, hn]
  · simp [e]
theorem outW_row (l : List Int) (s : Nat) : cellsS (outW l s 16) = cellsS (outW l (s + 1) 0) :=
  cellsS_congr fun j hj => by unfold outW; rw [early_row hj]
theorem outW_end {l : List Int} (hr : Right l) : cellsS (outW l 16 0) = cellsS fun j => bstr (wordB l j) :=
  cellsS_congr fun j _ => by
    unfold outW
    by_cases e : Pl.early l 16 0 j = true
    · rw [if_pos e]
    · rw [if_neg e]
      rw [early_iff] at e
      have := hr.one j
      have h0 : ln l j = 0 := by omega
      unfold wordB
      rw [h0]; rfl
theorem ln_get {l : List Int} (hr : Right l) {i : Nat} (hi : i < 16) : l[i]? = some (ln l i : Int) := by
  have hl := hr.len
  have h1 : l[i]? = some l[i] := List.getElem?_eq_getElem (by omega)
  have h2 := hr.nn _ (List.getElem_mem (show i < l.length by omega))
  rw [h1]
  unfold ln
  rw [List.getD_eq_getElem?_getD, h1]
  simp; omega

theorem shl_fact {x d v : Nat} (h : v = x * 2 ^ d) (hd : d ≤ 64) (hv : v ≤ 100000) : wrap64 ((x : Int) * 2 ^ min d 64) = (v : Int) := by
  have e : (x : Int) * 2 ^ d = ((x * 2 ^ d : Nat) : Int) := by norm_cast
  rw [Nat.min_eq_left hd, e, ← h]
  clear e h
  exact IntWalk.wrap64_in _ ⟨by omega, by omega⟩

structure RefW (l : List Int) (w wr : World) (B s i n q : Nat) : Prop where
  a : wr.heap[B]? = some (.cells (cells16 l) 64 (0, 0))
  z : wr.heap[B + 1]? = some (.cells (cellsS fun _ => []) 125 (0, 0))
  o : wr.heap[B + 2]? = some (.cells (cellsS (outW l s i)) 125 (0, 0))
  at_ : RefAt l s i n q
  bel : Below B w wr

theorem RefW.skip {l : List Int} {w wr : World} {B s i n q : Nat} (h : RefW l w wr B s i n q) (hn : ln l i ≠ s) : RefW l w wr B s (i + 1) n q :=
  ⟨h.a, h.z, by rw [outW_skip hn]; exact h.o, h.at_.skip hn, h.bel⟩
theorem RefW.row {l : List Int} {w wr : World} {B s n q : Nat} (h : RefW l w wr B s 16 n q) : RefW l w wr B (s + 1) 0 n q :=
  ⟨h.a, h.z, by rw [← outW_row]; exact h.o, h.at_.row, h.bel⟩
theorem RefW.put {l : List Int} {w wr w1 : World} {B s i n q n' q' : Nat} (h : RefW l w wr B s i n q) (hb : Below wr.heap.size wr w1) (b : Bytes) (hi : i < 16) :
    w1.cell? ⟨B + 2, i, none⟩ = some (S (outW l s i i)) ∧ w1.frozen? ⟨B + 2, i, none⟩ = false ∧
    (outW l s (i + 1) = (fun j => if j = i then b else outW l s i j) → RefAt l s (i + 1) n' q' → RefW l w (w1.setCell ⟨B + 2, i, none⟩ (S b)) B s (i + 1) n' q') ∧ True ∧ True := by
  have s1 := (Array.getElem?_eq_some_iff.1 h.a).1
  have s2 := (Array.getElem?_eq_some_iff.1 h.z).1
  have s3 := (Array.getElem?_eq_some_iff.1 h.o).1
  have a1 := (hb.block B s1).trans h.a
  have z1 := (hb.block (B + 1) s2).trans h.z
  have o1 := (hb.block (B + 2) s3).trans h.o
  refine ⟨?_, frozen_of_row _ _ _ _ _ o1, fun he hr => ⟨?_, ?_, ?_, hr, ?_⟩, trivial, trivial⟩
  · rw [cell_of_row w1 _ _ _ _ _ o1]; exact cellsS_get _ _ hi
  · rw [heap_setCell_other _ _ _ _ (by show B ≠ B + 2; omega)]; exact a1
  · rw [heap_setCell_other _ _ _ _ (by show B + 1 ≠ B + 2; omega)]; exact z1
  · rw [heap_setCell_same _ _ _ _ _ _ o1, cellsS_set _ _ _ hi, he]
  · exact (h.bel.trans (hb.mono (by omega))).setCell (by show B ≤ B + 2; omega) _

set_option maxHeartbeats 2000000 in
set_option maxRecDepth 100000 in
theorem refWords_any (l : List Int) (w : World) (hr : Right l) :
    Calls Try.prog 74 #[A16 l] w fun e w' => e = .returned (AS fun j => bstr (wordB l j)) ∧ Below w.heap.size w w' := by
  have HR := hide hr
  have hz := zero16s
  obtain ⟨w0, hw0⟩ : ∃ w0, w0 = ((w.alloc (.cells (cells16 l) 64)).alloc (.cells (cellsS fun _ => []) 125)).alloc (.cells (cellsS fun _ => []) 125) := ⟨_, rfl⟩
  obtain ⟨B, hB⟩ : ∃ B, B = w.heap.size := ⟨_, rfl⟩
  have h0 : RefW l w w0 B 1 0 0 0 := by
    subst hB
    have h2 := heap_alloc2_old w (.cells (cells16 l) 64) (.cells (cellsS fun _ => []) 125)
    have h3 := heap_alloc2_new w (.cells (cells16 l) 64) (.cells (cellsS fun _ => []) 125)
    refine ⟨?_, ?_, ?_, RefAt.start l, ?_⟩
    · rw [hw0]; exact (Below.heap_alloc _ _ _ (by simp; omega)).trans h2
    · rw [hw0]; exact (Below.heap_alloc _ _ _ (by simp)).trans h3
    · rw [hw0, outW_start]
      have := heap_alloc_new ((w.alloc (.cells (cells16 l) 64)).alloc (.cells (cellsS fun _ => []) 125)) (.cells (cellsS fun _ => []) 125)
      simpa using this
    · rw [hw0]
      exact (((Below.refl _ _).alloc (Nat.le_refl _) _).alloc (by simp) _).alloc (by simp; omega) _
  have H0 := hide h0
  have HW0 := hide hw0
  have HB := hide hB
  clear hr h0 hw0 hB
  go_enter Try.func74, Try.ntmps74
  go_wp2_with fail
  rw [← unhide HW0, ← unhide HB, show B + 1 + 1 = B + 2 from rfl]
  go_loopw [4, 5, 6, 7] (fun n q sz _ wr => ∃ (x y s : Nat), 1 ≤ s ∧ s ≤ 16 ∧ n = .int .i64 x ∧ q = .int .i64 y ∧ sz = .int .i64 s ∧ RefW l w wr B s 0 x y) (fun _ _ sz _ _ => 16 - (intOf sz).toNat)
  case atStart => exact ⟨0, 0, 1, by omega, by omega, rfl, rfl, rfl, unhide H0⟩
  case round =>
    obtain ⟨x, y, s, hs1, hs16, rfl, rfl, rfl, hst⟩ := hrel
    have HST := hide hst
    clear hst
    by_cases hs : s ≤ 15
    · have ds : decide ((s : Int) ≤ 15) = true := by simp; omega
      go_wp2_with fail
      go_loopw [4, 5, 7] (fun n q i wx => ∃ (x y k : Nat), k ≤ 16 ∧ n = .int .i64 x ∧ q = .int .i64 y ∧ i = .int .i64 k ∧ RefW l w wx B s k x y) (fun _ _ i _ => 16 - (intOf i).toNat)
      case atStart => exact ⟨x, y, 0, by omega, rfl, rfl, rfl, unhide HST⟩
      case round =>
        obtain ⟨x1, y1, k, hk, rfl, rfl, rfl, hsx⟩ := hrel
        have hsm := hsx.at_.small (unhide HR)
        have hyl := hsx.at_.le
        have hrt := unhide HR
        have HSX := hide hsx
        by_cases hk16 : k < 16
        · have hc := cell16 hsx.a (ln_get hrt hk16)
          by_cases hh : ln l k = s
          · have hnum := hsx.at_.number hs hh
            have hnx := hsx.at_.hit hs (by omega) hk16 hh
            have hv := wv_lt hrt hk16 (by omega)
            have hvw : wv l k ≤ 32768 := by
              have := hnx.small hrt; omega
            rw [hh] at hc
            obtain ⟨d, hd⟩ : ∃ d, d = s - y1 := ⟨_, rfl⟩
            rw [← hd] at hnum
            have hsd : IntKind.i64.wrap ((s : Int) - (y1 : Int)) = (d : Int) := by
              have e : (s : Int) - (y1 : Int) = (d : Int) := by omega
              rw [e]; exact IntWalk.i64_in _ ⟨by omega, by omega⟩
            obtain ⟨v, hvv⟩ : ∃ v, v = wv l k := ⟨_, rfl⟩
            have hpw := shl_fact (hvv.trans hnum) (by omega) (by omega)
            have HPW := hide hpw
            clear hpw
            rw [← hvv] at hnx hvw
            have hou := outW_hit (l := l) hh (by omega : 0 < s)
            rw [← hvv] at hou
            have HOU := hide hou
            have HNX := hide hnx
            have C1 := hide (fun (W : World) => bits_any s v W (Nat.le_trans hs (by decide)) (Nat.le_trans hvw (by decide)))
            clear hsx hh hnum hnx hv hd hvv hou hrt
            go_wp2_with (go_at_call 76; rw [unhide HPW]; refine (unhide C1 _).mono ?_; rintro e w1 ⟨rfl, hb1⟩; obtain ⟨hg1, hg2, hg3, -, -⟩ := (unhide HSX).put hb1 (bstr (bt v s)) hk16; have HG3 := hide hg3; clear hg3)
            go_roundw
            case rel => exact ⟨v + 1, s, k + 1, by omega, by go_num, rfl, by go_num, (unhide HG3) (unhide HOU) (unhide HNX)⟩
            case measure => simp [intOf]; omega
          · have hnx := (unhide HSX).skip hh
            have HNX := hide hnx
            have z1 : ((ln l k : Int) == (s : Int)) = false := by rw [beq_eq_false_iff_ne]; omega
            have z2 : (ln l k == s) = false := by rw [beq_eq_false_iff_ne]; omega
            clear hsx hnx hrt
            go_wp2_with fail
            go_roundw
            case rel => exact ⟨x1, y1, k + 1, by omega, rfl, rfl, by go_num, unhide HNX⟩
            case measure => simp [intOf]; omega
        · have hk' : k = 16 := by omega
          subst hk'
          have hnx := hsx.row
          have HNX := hide hnx
          clear hsx hnx hrt
          go_wp2_with fail
          go_roundw
          case rel => exact ⟨x1, y1, s + 1, by omega, by omega, rfl, rfl, by go_num, unhide HNX⟩
          case measure => simp [intOf]; omega
    · have hs' : s = 16 := by omega
      subst hs'
      have hou := outW_end (unhide HR)
      have HOU := hide hou
      clear hou
      go_wp2_with (first
        | (refine wpList_load_row rfl 125 (.tmp 3) rfl (B + 2) rfl 125 _ (0, 0) _ (unhide HST).o Try.underlying125 rfl (by rw [size16s, cellsS_size]) ?_; rw [unhide HOU])
        | (refine wpList_store_row rfl 125 (.tmp 2) (.tmp 34) rfl (B + 1) _ rfl rfl 125 _ (unhide HST).z (by rw [size16s, cellsS_size]) (by rw [cellsS_size, cellsS_size]) (cellsS_one _) ?_))
      refine bodyPost_ret (results_cell_row rfl _ _ (B + 1) 125 (cellsS fun j => bstr (wordB l j)) (0, 0) _ rfl (setRow_heap _ _ _ _ _ _ (unhide HST).z) Try.underlying125 rfl (by rw [size16s, cellsS_size])) rfl ⟨rfl, ?_⟩
      rw [← unhide HB]
      exact below_setRow (unhide HST).bel (by omega) _

end Go.Proofs.Ytgfkkjcnnecefaa

/- Plain mathematics of chapter 3: writing and reading with a code. No program in sight. -/
namespace Go.Proofs.Ytgfkkjcnnecefaa
namespace Pl

def zeros (n : Nat) : List Bool := List.replicate n false
theorem zeros_len (n : Nat) : (zeros n).length = n := List.length_replicate
theorem zeros_add (a b : Nat) : zeros a ++ zeros b = zeros (a + b) := List.replicate_append_replicate
theorem val_zeros (n : Nat) : val (zeros n) = 0 := by
  induction n with
  | zero => rfl
  | succ n ih =>
    have : zeros (n + 1) = zeros n ++ [false] := by rw [← zeros_add]; rfl
    rw [this, val_snoc, ih]; rfl
/-- bytes as bits -/
def unpackB (b : Bytes) : List Bool := b.flatMap fun c => bt c.toNat 8
theorem unpackB_cons (c : UInt8) (b : Bytes) : unpackB (c :: b) = bt c.toNat 8 ++ unpackB b := by simp [unpackB]
theorem unpackB_len (b : Bytes) : (unpackB b).length = 8 * b.length := by
  induction b with
  | nil => rfl
  | cons c b ih => rw [unpackB_cons, List.length_append, bt_len, ih, List.length_cons]; omega
theorem unpackB_app (a b : Bytes) : unpackB (a ++ b) = unpackB a ++ unpackB b := by simp [unpackB]
/-- at most eight bits, as a byte -/
def byteOfB (x : List Bool) : UInt8 := UInt8.ofNat (val x * 2 ^ (8 - x.length))
theorem byteOfB_nat {x : List Bool} (h : x.length ≤ 8) : (byteOfB x).toNat = val x * 2 ^ (8 - x.length) := by
  have h1 := val_lt x
  have h2 : val x * 2 ^ (8 - x.length) < 2 ^ x.length * 2 ^ (8 - x.length) := Nat.mul_lt_mul_of_pos_right h1 (Nat.pow_pos (by omega))
  rw [← Nat.pow_add, show x.length + (8 - x.length) = 8 from by omega] at h2
  show (UInt8.ofNat _).toNat = _
  rw [UInt8.toNat_ofNat']
  exact Nat.mod_eq_of_lt (by simpa using h2)
theorem bt_byteOfB {x : List Bool} (h : x.length ≤ 8) : bt (byteOfB x).toNat 8 = x ++ zeros (8 - x.length) := by
  rw [byteOfB_nat h]
  have h1 : val (x ++ zeros (8 - x.length)) = val x * 2 ^ (8 - x.length) := by rw [val_app, val_zeros, zeros_len]; omega
  have h2 := bt_val (x ++ zeros (8 - x.length))
  rw [h1, List.length_append, zeros_len, show x.length + (8 - x.length) = 8 from by omega] at h2
  exact h2
theorem byteOfB_bt (c : UInt8) : byteOfB (bt c.toNat 8) = c := by
  have := c.toNat_lt
  apply UInt8.toNat_inj.1
  rw [byteOfB_nat (by rw [bt_len]; omega), val_bt, bt_len]
  simp
def packN : Nat → List Bool → Bytes
  | 0, _ => []
  | n + 1, x => byteOfB (x.take 8) :: packN n (x.drop 8)
def packB (x : List Bool) : Bytes := packN ((x.length + 7) / 8) x
theorem packN_len (n : Nat) (x : List Bool) : (packN n x).length = n := by
  induction n generalizing x with
  | zero => rfl
  | succ n ih => rw [packN, List.length_cons, ih]
theorem unpack_packN : ∀ (n : Nat) (x : List Bool), x.length ≤ 8 * n → unpackB (packN n x) = x ++ zeros (8 * n - x.length)
  | 0, x, h => by
    have : x = [] := List.length_eq_zero_iff.1 (by omega)
    subst this; rfl
  | n + 1, x, h => by
    rw [packN, unpackB_cons, bt_byteOfB (by rw [List.length_take]; omega), unpack_packN n _ (by rw [List.length_drop]; omega), List.length_take, List.length_drop]
    by_cases h8 : 8 ≤ x.length
    · rw [show 8 - min 8 x.length = 0 from by omega, show 8 * n - (x.length - 8) = 8 * (n + 1) - x.length from by omega]
      rw [show zeros 0 = [] from rfl, List.append_nil, ← List.append_assoc, List.take_append_drop]
    · rw [List.take_of_length_le (by omega), List.drop_eq_nil_of_le (by omega), List.nil_append, List.append_assoc, zeros_add]
      congr 2; omega
theorem packN_unpack (b : Bytes) : packN b.length (unpackB b) = b := by
  induction b with
  | nil => rfl
  | cons c b ih =>
    rw [List.length_cons, packN, unpackB_cons]
    have h8 := bt_len 8 c.toNat
    rw [List.take_append_of_le_length (by omega), List.take_of_length_le (by omega), byteOfB_bt, List.drop_append_of_le_length (by omega), List.drop_eq_nil_of_le (by omega), List.nil_append, ih]
theorem unpackB_inj {a b : Bytes} (h : unpackB a = unpackB b) : a = b := by
  have hl := congrArg List.length h
  rw [unpackB_len, unpackB_len] at hl
  rw [← packN_unpack a, ← packN_unpack b, h, show a.length = b.length from by omega]
theorem packB_len (x : List Bool) : (packB x).length = (x.length + 7) / 8 := packN_len _ _
theorem unpack_packB (x : List Bool) : unpackB (packB x) = x ++ zeros (8 * ((x.length + 7) / 8) - x.length) := unpack_packN _ _ (by omega)
theorem pack_iff (x rest : List Bool) (b : Bytes) (h : unpackB b = x ++ rest) : packB x = b ↔ rest.length < 8 ∧ rest = zeros rest.length := by
  constructor
  · intro e
    have h2 := unpack_packB x
    rw [e, h] at h2
    have h3 := List.append_cancel_left h2
    rw [h3, zeros_len]
    exact ⟨by omega, rfl⟩
  · rintro ⟨h1, h2⟩
    apply unpackB_inj
    rw [unpack_packB, h]
    have hl := congrArg List.length h
    rw [unpackB_len, List.length_append] at hl
    rw [h2]
    congr 2; omega
/-- one byte more -/
theorem packN_app (n m : Nat) (x y : List Bool) (h : x.length = 8 * n) : packN (n + m) (x ++ y) = packN n x ++ packN m y := by
  induction n generalizing x with
  | zero =>
    have : x = [] := List.length_eq_zero_iff.1 (by omega)
    subst this; simp [packN]
  | succ n ih =>
    rw [show n + 1 + m = (n + m) + 1 from by omega, packN, packN, List.take_append_of_le_length (by omega), List.drop_append_of_le_length (by omega), ih _ (by rw [List.length_drop]; omega), List.cons_append]

theorem packN_snoc : ∀ (n : Nat) (x : List Bool), packN (n + 1) x = packN n x ++ [byteOfB ((x.drop (8 * n)).take 8)]
  | 0, x => by simp [packN]
  | n + 1, x => by
    rw [packN, packN_snoc n (x.drop 8), packN, List.cons_append, List.drop_drop, show 8 + 8 * n = 8 * (n + 1) from by omega]
theorem packN_pad (x : List Bool) (n : Nat) (h : x.length ≤ 8 * n) : packN n (x ++ zeros (8 * n - x.length)) = packN n x := by
  apply unpackB_inj
  rw [unpack_packN _ _ (by rw [List.length_append, zeros_len]; omega), unpack_packN _ _ h, List.length_append, zeros_len, show 8 * n - (x.length + (8 * n - x.length)) = 0 from by omega]
  simp [zeros]
/-- half bytes -/
def nibs (s : Bytes) : List Nat := s.flatMap fun c => [c.toNat / 16, c.toNat % 16]
theorem nibs_cons (c : UInt8) (s : Bytes) : nibs (c :: s) = c.toNat / 16 :: c.toNat % 16 :: nibs s := by simp [nibs]
theorem nibs_len (s : Bytes) : (nibs s).length = 2 * s.length := by
  induction s with
  | nil => rfl
  | cons c s ih => rw [nibs_cons, List.length_cons, List.length_cons, ih, List.length_cons]; omega
theorem nibs_lt (s : Bytes) : ∀ k ∈ nibs s, k < 16 := by
  induction s with
  | nil => intro k hk; simp [nibs] at hk
  | cons c s ih =>
    intro k hk
    have := c.toNat_lt
    rw [nibs_cons, List.mem_cons, List.mem_cons] at hk
    rcases hk with rfl | rfl | hk
    · omega
    · omega
    · exact ih k hk
theorem nibs_app (a b : Bytes) : nibs (a ++ b) = nibs a ++ nibs b := by simp [nibs]
def half : List Nat → Bytes
  | [] => []
  | [a] => [UInt8.ofNat (16 * a)]
  | a :: b :: r => UInt8.ofNat (16 * a + b) :: half r
theorem half_nibs (s : Bytes) : half (nibs s) = s := by
  induction s with
  | nil => rfl
  | cons c s ih =>
    rw [nibs_cons, half, ih, Nat.div_add_mod]
    congr 1
    exact UInt8.ofNat_toNat
theorem nibs_half : ∀ (ks : List Nat), ks.length % 2 = 0 → (∀ k ∈ ks, k < 16) → nibs (half ks) = ks
  | [], _, _ => rfl
  | [_], h, _ => by simp at h
  | a :: b :: r, h, hk => by
    have ha := hk a (by simp)
    have hb := hk b (by simp)
    have e : (UInt8.ofNat (16 * a + b)).toNat = 16 * a + b := by rw [UInt8.toNat_ofNat']; exact Nat.mod_eq_of_lt (by simp; omega)
    rw [half, nibs_cons, e, nibs_half r (by simp at h; omega) (fun k hk' => hk k (by simp [hk']))]
    congr 1
    · omega
    · congr 1; omega
theorem half_app : ∀ (a b : List Nat), a.length % 2 = 0 → half (a ++ b) = half a ++ half b
  | [], _, _ => rfl
  | [_], _, h => by simp at h
  | x :: y :: r, b, h => by
    rw [List.cons_append, List.cons_append, half, half, List.cons_append, half_app r b (by simp at h; omega)]
theorem half_len : ∀ (ks : List Nat), (half ks).length = (ks.length + 1) / 2
  | [] => rfl
  | [_] => by simp [half]
  | a :: b :: r => by rw [half, List.length_cons, half_len r, List.length_cons, List.length_cons]; omega

/-- the bits of a text -/
def encK (l : List Int) (ks : List Nat) : List Bool := ks.flatMap (wordB l)
theorem encK_app (l : List Int) (a b : List Nat) : encK l (a ++ b) = encK l a ++ encK l b := by simp [encK]
theorem encK_cons (l : List Int) (a : Nat) (b : List Nat) : encK l (a :: b) = wordB l a ++ encK l b := by simp [encK]
theorem encK_len {l : List Int} (h : Right l) (ks : List Nat) : (encK l ks).length ≤ 15 * ks.length := by
  induction ks with
  | nil => simp [encK]
  | cons a ks ih =>
    have := h.one a
    rw [encK_cons, List.length_append, wordB_len, List.length_cons]; omega
def lacks (l : List Int) (ks : List Nat) : Bool := ks.any fun k => decide (ln l k = 0)
def writeE (l : List Int) (s : Bytes) : Nat := if checkE l ≠ 0 then checkE l else if 1024 < s.length then 2 else if lacks l (nibs s) = true then 5 else 0
def writeS (l : List Int) (s : Bytes) : Bytes := if writeE l s = 0 then packB (encK l (nibs s)) else []

/-- the sign with whose word bits begin -/
def hitB (l : List Int) (b : List Bool) (i : Nat) : Bool := decide (0 < ln l i) && (wordB l i).isPrefixOf b
def frontP (l : List Int) (b : List Bool) : Option Nat := (List.range 16).find? (hitB l b)
theorem hit_iff (l : List Int) (b : List Bool) (i : Nat) : hitB l b i = true ↔ 0 < ln l i ∧ wordB l i <+: b := by
  unfold hitB
  rw [Bool.and_eq_true, decide_eq_true_eq, List.isPrefixOf_iff_prefix]
theorem front_some {l : List Int} {b : List Bool} {i : Nat} (h : frontP l b = some i) : i < 16 ∧ 0 < ln l i ∧ wordB l i <+: b := by
  unfold frontP at h
  rw [List.find?_range_eq_some] at h
  have := (hit_iff l b i).1 h.1
  exact ⟨by simpa using h.2.1, this.1, this.2⟩
theorem front_hit {l : List Int} (hr : Right l) {b : List Bool} {i : Nat} (hi : i < 16) (h0 : 0 < ln l i) (hp : wordB l i <+: b) : frontP l b = some i := by
  unfold frontP
  rw [List.find?_range_eq_some]
  refine ⟨(hit_iff _ _ _).2 ⟨h0, hp⟩, by simpa using hi, fun j hj => ?_⟩
  rw [Bool.not_eq_true']
  cases hq : hitB l b j with
  | false => rfl
  | true =>
    exfalso
    obtain ⟨h1, h2⟩ := (hit_iff _ _ _).1 hq
    rcases Nat.le_total (ln l i) (ln l j) with hle | hle
    · have := word_free hr hi (by omega) h0 h1 (List.prefix_of_prefix_length_le hp h2 (by rw [wordB_len, wordB_len]; exact hle))
      omega
    · have := word_free hr (by omega) hi h1 h0 (List.prefix_of_prefix_length_le h2 hp (by rw [wordB_len, wordB_len]; exact hle))
      omega
theorem front_none {l : List Int} {b : List Bool} (h : frontP l b = none) {i : Nat} (hi : i < 16) : ¬ (0 < ln l i ∧ wordB l i <+: b) := by
  unfold frontP at h
  rw [List.find?_range_eq_none] at h
  have := h i hi
  rw [Bool.not_eq_true'] at this
  rw [← hit_iff, this]; simp

/-- so many signs, and the bits behind them -/
def decN (l : List Int) : Nat → List Bool → Option (List Nat × List Bool)
  | 0, b => some ([], b)
  | k + 1, b => match frontP l b with
    | none => none
    | some i => match decN l k (b.drop (ln l i)) with
      | none => none
      | some (ks, r) => some (i :: ks, r)
theorem dec_some {l : List Int} : ∀ (k : Nat) (b : List Bool) (ks : List Nat) (r : List Bool), decN l k b = some (ks, r) → ks.length = k ∧ b = encK l ks ++ r ∧ ∀ i ∈ ks, i < 16 ∧ 0 < ln l i
  | 0, b, ks, r, h => by
    rw [decN] at h
    injection h with h; injection h with h1 h2
    subst h1; subst h2
    exact ⟨rfl, rfl, by simp⟩
  | k + 1, b, ks, r, h => by
    rw [decN] at h
    cases hf : frontP l b with
    | none => rw [hf] at h; cases h
    | some i =>
      rw [hf] at h
      simp only at h
      cases hd : decN l k (b.drop (ln l i)) with
      | none => rw [hd] at h; cases h
      | some q =>
        obtain ⟨ks', r'⟩ := q
        rw [hd] at h
        simp only at h
        injection h with h; injection h with h1 h2
        subst h1; subst h2
        obtain ⟨e1, e2, e3⟩ := dec_some k _ _ _ hd
        obtain ⟨h1, h2, h3⟩ := front_some hf
        refine ⟨by rw [List.length_cons, e1], ?_, ?_⟩
        · obtain ⟨t, ht⟩ := h3
          have h4 : b.drop (ln l i) = t := by rw [← ht, List.drop_append_of_le_length (by rw [wordB_len]; omega), List.drop_eq_nil_of_le (by rw [wordB_len]; omega), List.nil_append]
          rw [encK_cons, List.append_assoc, ← e2, h4, ht]
        · intro j hj
          rcases List.mem_cons.1 hj with rfl | hj
          · exact ⟨h1, h2⟩
          · exact e3 j hj
theorem dec_enc {l : List Int} (hr : Right l) (r : List Bool) : ∀ (ks : List Nat), (∀ i ∈ ks, i < 16 ∧ 0 < ln l i) → decN l ks.length (encK l ks ++ r) = some (ks, r)
  | [], _ => rfl
  | i :: ks, h => by
    obtain ⟨h1, h2⟩ := h i (by simp)
    rw [List.length_cons, decN, encK_cons, List.append_assoc, front_hit hr h1 h2 ⟨_, rfl⟩]
    simp only
    rw [List.drop_append_of_le_length (by rw [wordB_len]; omega), List.drop_eq_nil_of_le (by rw [wordB_len]; omega), List.nil_append, dec_enc hr r ks fun j hj => h j (by simp [hj])]
def goodRest (r : List Bool) : Bool := decide (r.length < 8) && r.all (fun b => !b)
theorem goodRest_iff (r : List Bool) : goodRest r = true ↔ r.length < 8 ∧ r = zeros r.length := by
  unfold goodRest
  rw [Bool.and_eq_true, decide_eq_true_eq, List.all_eq_true]
  refine and_congr_right fun _ => ⟨fun h => List.eq_replicate_iff.2 ⟨rfl, fun b hb => by simpa using h b hb⟩, fun h b hb => ?_⟩
  rw [h] at hb
  simp [zeros] at hb
  rw [hb.2]; rfl
def readE (l : List Int) (b : Bytes) (n : Int) : Nat :=
  if checkE l ≠ 0 then checkE l else if n < 0 ∨ 1024 < n then 3 else
  match decN l (2 * n.toNat) (unpackB b) with
  | none => 1
  | some (_, r) => if goodRest r = true then 0 else 1
def readS (l : List Int) (b : Bytes) (n : Int) : Bytes :=
  if readE l b n ≠ 0 then [] else
  match decN l (2 * n.toNat) (unpackB b) with
  | none => []
  | some (ks, _) => half ks
/-- so many signs are found -/
structure DecAt (l : List Int) (U : List Bool) (N i : Nat) (ks : List Nat) (R : List Bool) : Prop where
  len : ks.length = i
  le : i ≤ N
  rest : decN l N U = (match decN l (N - i) R with
    | none => none
    | some (a, r) => some (ks ++ a, r))
  fine : ∀ k ∈ ks, k < 16 ∧ 0 < ln l k
  short : R.length ≤ U.length
theorem DecAt.start (l : List Int) (U : List Bool) (N : Nat) : DecAt l U N 0 [] U := by
  refine ⟨rfl, by omega, ?_, by simp, Nat.le_refl _⟩
  rw [Nat.sub_zero]
  cases decN l N U <;> rfl
theorem DecAt.step {l : List Int} {U R : List Bool} {N i k : Nat} {ks : List Nat} (h : DecAt l U N i ks R) (hi : i < N) (hf : frontP l R = some k) : DecAt l U N (i + 1) (ks ++ [k]) (R.drop (ln l k)) := by
  obtain ⟨h1, h2, h3⟩ := front_some hf
  refine ⟨by rw [List.length_append, h.len]; rfl, by omega, ?_, ?_, ?_⟩
  · rw [h.rest, show N - i = (N - (i + 1)) + 1 from by omega, decN, hf]
    simp only
    cases decN l (N - (i + 1)) (R.drop (ln l k)) with
    | none => rfl
    | some q => obtain ⟨a, r⟩ := q; simp
  · intro j hj
    rcases List.mem_append.1 hj with hj | hj
    · exact h.fine j hj
    · have : j = k := by simpa using hj
      subst this; exact ⟨h1, h2⟩
  · have := h.short
    rw [List.length_drop]; omega
theorem DecAt.none {l : List Int} {U R : List Bool} {N i : Nat} {ks : List Nat} (h : DecAt l U N i ks R) (hi : i < N) (hf : frontP l R = none) : decN l N U = none := by
  rw [h.rest, show N - i = (N - (i + 1)) + 1 from by omega, decN, hf]
theorem DecAt.done {l : List Int} {U R : List Bool} {N : Nat} {ks : List Nat} (h : DecAt l U N N ks R) : decN l N U = some (ks, R) := by
  rw [h.rest, Nat.sub_self, decN]; simp
theorem half_odd {ks : List Nat} (h : ks.length % 2 = 1) (hk : ∀ k ∈ ks, k < 16) (b : Nat) :
    ∃ (h0 : Bytes) (a : Nat), a < 16 ∧ half ks = h0 ++ [UInt8.ofNat (16 * a)] ∧ half (ks ++ [b]) = h0 ++ [UInt8.ofNat (16 * a + b)] ∧ h0.length = ks.length / 2 := by
  have hne : ks ≠ [] := by intro e; rw [e] at h; simp at h
  obtain ⟨k0, a, rfl⟩ : ∃ k0 a, ks = k0 ++ [a] := ⟨ks.dropLast, ks.getLast hne, (List.dropLast_concat_getLast hne).symm⟩
  have h2 : k0.length % 2 = 0 := by rw [List.length_append, List.length_singleton] at h; omega
  refine ⟨half k0, a, hk a (by simp), half_app k0 [a] h2, ?_, ?_⟩
  · rw [List.append_assoc, half_app k0 _ h2]; rfl
  · rw [half_len, List.length_append, List.length_singleton]
theorem half_even {ks : List Nat} (h : ks.length % 2 = 0) (b : Nat) : half (ks ++ [b]) = half ks ++ [UInt8.ofNat (16 * b)] := half_app ks [b] h
theorem readE_code {l : List Int} {b : Bytes} {n : Int} (h : checkE l ≠ 0) : readE l b n = checkE l ∧ readS l b n = [] := by
  have : readE l b n = checkE l := by unfold readE; rw [if_pos h]
  exact ⟨this, by unfold readS; rw [if_pos (by omega)]⟩
theorem readE_range {l : List Int} {b : Bytes} {n : Int} (h : checkE l = 0) (h2 : n < 0 ∨ 1024 < n) : readE l b n = 3 ∧ readS l b n = [] := by
  have : readE l b n = 3 := by unfold readE; rw [if_neg (by omega), if_pos h2]
  exact ⟨this, by unfold readS; rw [if_pos (by omega)]⟩
theorem readE_none {l : List Int} {b : Bytes} {n : Int} (h : checkE l = 0) (h2 : ¬ (n < 0 ∨ 1024 < n)) (h3 : decN l (2 * n.toNat) (unpackB b) = none) : readE l b n = 1 ∧ readS l b n = [] := by
  have : readE l b n = 1 := by unfold readE; rw [if_neg (by omega), if_neg h2, h3]
  exact ⟨this, by unfold readS; rw [if_pos (by omega)]⟩
theorem readE_left {l : List Int} {b : Bytes} {n : Int} {ks : List Nat} {r : List Bool} (h : checkE l = 0) (h2 : ¬ (n < 0 ∨ 1024 < n)) (h3 : decN l (2 * n.toNat) (unpackB b) = some (ks, r)) (h4 : goodRest r = false) : readE l b n = 1 ∧ readS l b n = [] := by
  have : readE l b n = 1 := by unfold readE; rw [if_neg (by omega), if_neg h2, h3]; simp only [h4]; rfl
  exact ⟨this, by unfold readS; rw [if_pos (by omega)]⟩
theorem readE_ok {l : List Int} {b : Bytes} {n : Int} {ks : List Nat} {r : List Bool} (h : checkE l = 0) (h2 : ¬ (n < 0 ∨ 1024 < n)) (h3 : decN l (2 * n.toNat) (unpackB b) = some (ks, r)) (h4 : goodRest r = true) : readE l b n = 0 ∧ readS l b n = half ks := by
  have : readE l b n = 0 := by unfold readE; rw [if_neg (by omega), if_neg h2, h3]; simp only [h4]; rfl
  exact ⟨this, by unfold readS; rw [if_neg (by omega), h3]⟩
/-- too many bytes -/
theorem dec_long {l : List Int} (hr : Right l) {b : Bytes} {n : Nat} (h : 4 * n < b.length) {ks : List Nat} {r : List Bool} (hd : decN l (2 * n) (unpackB b) = some (ks, r)) : goodRest r = false := by
  obtain ⟨h1, h2, h3⟩ := dec_some _ _ _ _ hd
  have hl := congrArg List.length h2
  rw [unpackB_len, List.length_append] at hl
  have := encK_len hr ks
  cases hg : goodRest r with
  | false => rfl
  | true =>
    have := ((goodRest_iff r).1 hg).1
    omega
theorem lacks_false {l : List Int} {ks : List Nat} (h : ∀ i ∈ ks, i < 16 ∧ 0 < ln l i) : lacks l ks = false := by
  unfold lacks
  rw [List.any_eq_false]
  intro k hk
  have := (h k hk).2
  simp; omega
/-- what was read is written so again just if nothing is left over -/
theorem write_dec {l : List Int} (hc : checkE l = 0) {b : Bytes} {n : Nat} (hn : n ≤ 1024) {ks : List Nat} {r : List Bool} (hd : decN l (2 * n) (unpackB b) = some (ks, r)) :
    writeE l (half ks) = 0 ∧ (writeS l (half ks) = b ↔ goodRest r = true) ∧ (half ks).length = n := by
  obtain ⟨h1, h2, h3⟩ := dec_some _ _ _ _ hd
  have hl : (half ks).length = n := by rw [half_len]; omega
  have hnb : nibs (half ks) = ks := nibs_half ks (by omega) fun k hk => (h3 k hk).1
  have hw : writeE l (half ks) = 0 := by
    unfold writeE
    rw [if_neg (by omega), if_neg (by omega), hnb, lacks_false h3]; rfl
  refine ⟨hw, ?_, hl⟩
  unfold writeS
  rw [if_pos hw, hnb, goodRest_iff]
  exact pack_iff _ _ _ h2

end Pl
end Go.Proofs.Ytgfkkjcnnecefaa

/- The walk of the reference's front. -/
namespace Go.Proofs.Ytgfkkjcnnecefaa
open Go.RowKit Go.Lib Pl
attribute [local go_sem] ext_list app_list

def frontI (l : List Int) (b : List Bool) : Int := match frontP l b with
  | none => -1
  | some i => (i : Int)
theorem slice0 (x : Bytes) (m : Nat) : slice x 0 m = x.take m := by unfold slice; simp
/-- the test, in the reference's words -/
theorem hit_str (l : List Int) (b : List Bool) (k : Nat) : hitB l b k = true ↔ 0 < ln l k ∧ ln l k ≤ (bstr b).length ∧ slice (bstr b) 0 (ln l k) = bstr (wordB l k) := by
  rw [hit_iff, slice0, bstr_len, bstr, ← List.map_take]
  constructor
  · rintro ⟨h1, t, ht⟩
    have hl := congrArg List.length ht
    rw [List.length_append, wordB_len] at hl
    refine ⟨h1, by omega, ?_⟩
    rw [← ht, List.take_append_of_le_length (by rw [wordB_len]; omega), List.take_of_length_le (by rw [wordB_len]; omega)]; rfl
  · rintro ⟨h1, h2, h3⟩
    refine ⟨h1, ?_⟩
    have : b.take (ln l k) = wordB l k := bstr_inj h3
    rw [← this]; exact List.take_prefix _ _

set_option maxHeartbeats 4000000 in
set_option maxRecDepth 100000 in
theorem front_any (l : List Int) (b : List Bool) (w : World) (hr : Right l) (hb : b.length ≤ 1000000) :
    Calls Try.prog 77 #[A16 l, AS (fun j => bstr (wordB l j)), S (bstr b)] w fun e w' => e = .returned (.int .i64 (frontI l b)) ∧ Below w.heap.size w w' := by
  obtain ⟨w0, hw0⟩ : ∃ w0, w0 = (w.alloc (.cells (cells16 l) 64)).alloc (.cells (cellsS fun j => bstr (wordB l j)) 125) := ⟨_, rfl⟩
  obtain ⟨B, hB⟩ : ∃ B, B = w.heap.size := ⟨_, rfl⟩
  have h1 : w0.heap[B]? = some (.cells (cells16 l) 64 (0, 0)) := by subst hB; rw [hw0]; exact heap_alloc2_old _ _ _
  have h2 : w0.heap[B + 1]? = some (.cells (cellsS fun j => bstr (wordB l j)) 125 (0, 0)) := by subst hB; rw [hw0]; exact heap_alloc2_new _ _ _
  have h3 : Below B w w0 := by subst hB; rw [hw0]; exact ((Below.refl _ _).alloc (Nat.le_refl _) _).alloc (by simp) _
  obtain ⟨bs, hbs⟩ : ∃ bs, bs = bstr b := ⟨_, rfl⟩
  have hbl : bs.length ≤ 1000000 := by rw [hbs, bstr_len]; exact hb
  rw [← hbs]
  have HBS := hide hbs
  have HR := hide hr
  have H1 := hide h1
  have H2 := hide h2
  have H3 := hide h3
  have HW0 := hide hw0
  have HB := hide hB
  clear hr hw0 hB h1 h2 h3 hbs hb
  go_enter Try.func77, Try.ntmps77
  go_wp2_with fail
  rw [← unhide HW0, ← unhide HB]
  go_loopw [7] (fun i wr => ∃ k : Nat, k ≤ 16 ∧ i = .int .i64 k ∧ (∀ j, j < k → hitB l b j = false) ∧ wr.heap[B]? = some (.cells (cells16 l) 64 (0, 0)) ∧ wr.heap[B + 1]? = some (.cells (cellsS fun j => bstr (wordB l j)) 125 (0, 0)) ∧ Below B w wr) (fun i _ => 16 - (intOf i).toNat)
  case atStart => exact ⟨0, by omega, rfl, fun j hj => absurd hj (by omega), unhide H1, unhide H2, unhide H3⟩
  case round =>
    obtain ⟨k, hk, rfl, hno, g1, g2, hbel⟩ := hrel
    have HNO := hide hno
    have G1 := hide g1
    have G2 := hide g2
    have HBEL := hide hbel
    clear hno hbel
    by_cases hk16 : k < 16
    · have hc1 := cell16 g1 (ln_get (unhide HR) hk16)
      have hc2 : wr.cell? ⟨B + 1, k, none⟩ = some (S (bstr (wordB l k))) := by rw [cell_of_row _ _ _ _ _ _ g2]; exact cellsS_get _ _ hk16
      have hm15 := (unhide HR).one k
      have hhit := hit_str l b k
      rw [← unhide HBS] at hhit
      obtain ⟨m, hm⟩ : ∃ m, m = ln l k := ⟨_, rfl⟩
      obtain ⟨wd, hwd⟩ : ∃ wd, wd = bstr (wordB l k) := ⟨_, rfl⟩
      rw [← hm] at hc1 hm15 hhit
      rw [← hwd] at hc2 hhit
      have HHIT := hide hhit
      clear g1 g2 hm hwd hhit
      by_cases hh : hitB l b k = true
      · obtain ⟨p1, p2, p3⟩ := (unhide HHIT).1 hh
        have q1 : (slice bs 0 m == wd) = true := by rw [beq_iff_eq]; exact p3
        have hres : frontI l b = (k : Int) := by
          have := List.find?_range_eq_some.2 ⟨hh, by simpa using hk16, fun j hj => by rw [unhide HNO j hj]; rfl⟩
          unfold frontI frontP
          rw [this]
        have HRES := hide hres
        clear hh p3 hres
        go_wp2_with fail
        go_quiet (fail)
        go_wp2_with fail
        go_ret
        refine ⟨by rw [unhide HRES]; rfl, ?_⟩
        rw [← unhide HB]; exact below_drewN (unhide HBEL) _
      · have hno2 : ∀ j, j < k + 1 → hitB l b j = false := fun j hj => by
          by_cases e : j = k
          · subst e; simpa using hh
          · exact unhide HNO j (by omega)
        have HNO2 := hide hno2
        clear hno2
        have hcs : (decide ((0 : Int) < (m : Int)) = false ∧ decide (0 < m) = false) ∨ (0 < m ∧ decide ((m : Int) ≤ (bs.length : Int)) = false ∧ decide (m ≤ bs.length) = false) ∨ (0 < m ∧ m ≤ bs.length ∧ (slice bs 0 m == wd) = false) := by
          by_cases p1 : 0 < m
          · by_cases p2 : m ≤ bs.length
            · refine .inr (.inr ⟨p1, p2, ?_⟩)
              rw [beq_eq_false_iff_ne]; intro p3
              exact hh ((unhide HHIT).2 ⟨p1, p2, p3⟩)
            · exact .inr (.inl ⟨p1, by simp; omega, by simp; omega⟩)
          · exact .inl ⟨by simp; omega, by simp; omega⟩
        clear hh
        rcases hcs with ⟨d1, d1'⟩ | ⟨d1, d2, d2'⟩ | ⟨d1, d2, q1⟩
        all_goals
          go_wp2_with fail
          go_quiet (fail)
          go_wp2_with fail
          go_roundw
          case rel => exact ⟨k + 1, by omega, by go_num, unhide HNO2, unhide G1, unhide G2, below_drewN (unhide HBEL) _⟩
          case measure => simp [intOf]; omega
    · have hk' : k = 16 := by omega
      subst hk'
      have hres : frontI l b = -1 := by
        have : (List.range 16).find? (hitB l b) = none := List.find?_range_eq_none.2 fun j hj => by rw [unhide HNO j hj]; rfl
        unfold frontI frontP
        rw [this]
      have HRES := hide hres
      clear hres g1 g2
      go_wp2_with fail
      go_ret
      refine ⟨by rw [unhide HRES]; rfl, ?_⟩
      rw [← unhide HB]; exact unhide HBEL

end Go.Proofs.Ytgfkkjcnnecefaa

/- The walk of the reference's WriteCode. -/
namespace Go.Proofs.Ytgfkkjcnnecefaa
open Go.RowKit Go.Lib Pl
attribute [local go_sem] ext_list app_list

/-- the array in its variable -/
structure BoxAt (l : List Int) (w wr : World) (B : Nat) : Prop where
  a : wr.heap[B]? = some (.cells (cells16 l) 64 (0, 0))
  bel : Below B w wr
theorem BoxAt.below {l : List Int} {w wr w1 : World} {B : Nat} (h : BoxAt l w wr B) (hb : Below wr.heap.size wr w1) : BoxAt l w w1 B := by
  have s1 := (Array.getElem?_eq_some_iff.1 h.a).1
  exact ⟨(hb.block B s1).trans h.a, h.bel.trans (hb.mono (by omega))⟩
theorem BoxAt.boxed (l : List Int) (w : World) : BoxAt l w (w.alloc (.cells (cells16 l) 64)) w.heap.size := ⟨heap_alloc_new w _, (Below.refl _ _).alloc (Nat.le_refl _) _⟩
/-- the array and the words, where they lie -/
structure CodeAt (l : List Int) (w wr : World) (B g : Nat) : Prop where
  a : wr.heap[B]? = some (.cells (cells16 l) 64 (0, 0))
  o : wr.heap[g]? = some (.cells (cellsS fun j => bstr (wordB l j)) 125 (0, 0))
  bel : Below B w wr
theorem CodeAt.drew {l : List Int} {w wr : World} {B g : Nat} (h : CodeAt l w wr B g) (k : Nat) : CodeAt l w (wr.drewN k) B g := ⟨h.a, h.o, below_drewN h.bel _⟩
theorem CodeAt.below {l : List Int} {w wr w1 : World} {B g : Nat} (h : CodeAt l w wr B g) (hb : Below wr.heap.size wr w1) : CodeAt l w w1 B g := by
  have s1 := (Array.getElem?_eq_some_iff.1 h.a).1
  have s2 := (Array.getElem?_eq_some_iff.1 h.o).1
  exact ⟨(hb.block B s1).trans h.a, (hb.block g s2).trans h.o, h.bel.trans (hb.mono (by omega))⟩
theorem CodeAt.alloc {l : List Int} {w wr : World} {B g : Nat} (h : CodeAt l w wr B g) (o : Obj) : CodeAt l w (wr.alloc o) B g := h.below ((Below.refl _ _).alloc (Nat.le_refl _) _)
theorem CodeAt.len {l : List Int} {w wr : World} {B g : Nat} (h : CodeAt l w wr B g) (hr : Right l) {k : Nat} (hk : k < 16) : wr.cell? ⟨B, k, none⟩ = some (I (ln l k)) := cell16 h.a (ln_get hr hk)
theorem CodeAt.word {l : List Int} {w wr : World} {B g : Nat} (h : CodeAt l w wr B g) {k : Nat} (hk : k < 16) : wr.cell? ⟨g, k, none⟩ = some (S (bstr (wordB l k))) := by
  rw [cell_of_row _ _ _ _ _ _ h.o]; exact cellsS_get _ _ hk
/-- the words, laid into a variable of their own -/
theorem CodeAt.made {l : List Int} {w w1 : World} {B : Nat} (h : BoxAt l w w1 B) :
    CodeAt l w ((w1.alloc (.cells (cellsS fun _ => []) 125)).setRow w1.heap.size (cellsS fun j => bstr (wordB l j))) B w1.heap.size := by
  obtain ⟨ha, hb⟩ := h
  have s1 := (Array.getElem?_eq_some_iff.1 ha).1
  refine ⟨?_, setRow_heap _ _ _ _ _ _ (heap_alloc_new _ _), below_setRow (hb.alloc (by omega) _) (by omega) _⟩
  rw [setRow_other _ _ _ _ (by omega)]
  exact (Below.heap_alloc _ _ _ s1).trans ha

theorem writeE_code {l : List Int} {s : Bytes} (h : checkE l ≠ 0) : writeE l s = checkE l ∧ writeS l s = [] := by
  have : writeE l s = checkE l := by unfold writeE; rw [if_pos h]
  exact ⟨this, by unfold writeS; rw [if_neg (by omega)]⟩
theorem writeE_many {l : List Int} {s : Bytes} (h : checkE l = 0) (h2 : 1024 < s.length) : writeE l s = 2 ∧ writeS l s = [] := by
  have : writeE l s = 2 := by unfold writeE; rw [if_neg (by omega), if_pos h2]
  exact ⟨this, by unfold writeS; rw [if_neg (by omega)]⟩
theorem writeE_none {l : List Int} {s : Bytes} (h : checkE l = 0) (h2 : ¬ 1024 < s.length) (h3 : lacks l (nibs s) = true) : writeE l s = 5 ∧ writeS l s = [] := by
  have : writeE l s = 5 := by unfold writeE; rw [if_neg (by omega), if_neg h2, if_pos h3]
  exact ⟨this, by unfold writeS; rw [if_neg (by omega)]⟩
theorem writeE_ok {l : List Int} {s : Bytes} (h : checkE l = 0) (h2 : ¬ 1024 < s.length) (h3 : lacks l (nibs s) = false) : writeE l s = 0 ∧ writeS l s = packB (encK l (nibs s)) := by
  have : writeE l s = 0 := by unfold writeE; rw [if_neg (by omega), if_neg h2, h3]; rfl
  exact ⟨this, by unfold writeS; rw [if_pos this]⟩

def strLenB : Value → Nat
  | .string s => s.size
  | _ => 0
/-- so much of the text is written -/
structure WAt (l : List Int) (s : Bytes) (k : Nat) (X : List Bool) : Prop where
  bits : X = encK l (nibs (s.take k))
  fine : lacks l (nibs (s.take k)) = false
theorem WAt.start (l : List Int) (s : Bytes) : WAt l s 0 [] := ⟨rfl, rfl⟩
theorem WAt.len {l : List Int} {s : Bytes} {k : Nat} {X : List Bool} (h : WAt l s k X) (hr : Right l) (hk : k ≤ s.length) : X.length ≤ 30 * k := by
  have h1 := encK_len hr (nibs (s.take k))
  rw [nibs_len, List.length_take] at h1
  rw [h.bits]; omega
theorem nibs_take {s : Bytes} {k : Nat} {c : UInt8} (h : s[k]? = some c) : nibs (s.take (k + 1)) = nibs (s.take k) ++ [c.toNat / 16, c.toNat % 16] := by
  rw [List.take_add_one, h, nibs_app]; rfl
theorem WAt.step {l : List Int} {s : Bytes} {k : Nat} {X : List Bool} {c : UInt8} (h : WAt l s k X) (hc : s[k]? = some c) (h1 : ln l (c.toNat / 16) ≠ 0) (h2 : ln l (c.toNat % 16) ≠ 0) :
    WAt l s (k + 1) (X ++ wordB l (c.toNat / 16) ++ wordB l (c.toNat % 16)) := by
  refine ⟨?_, ?_⟩
  · rw [nibs_take hc, encK_app, ← h.bits, List.append_assoc]; simp [encK]
  · have h3 := h.fine
    unfold lacks at h3 ⊢
    rw [nibs_take hc, List.any_append, h3]
    simp [h1, h2]
theorem WAt.lack {l : List Int} {s : Bytes} {k : Nat} {c : UInt8} (hc : s[k]? = some c) (h1 : ln l (c.toNat / 16) = 0 ∨ ln l (c.toNat % 16) = 0) : lacks l (nibs s) = true := by
  have : lacks l (nibs (s.take (k + 1))) = true := by
    unfold lacks
    rw [nibs_take hc, List.any_append]
    rcases h1 with h | h <;> simp [h]
  rw [← List.take_append_drop (k + 1) s, nibs_app]
  unfold lacks at this ⊢
  rw [List.any_append, this]; rfl

attribute [local go_sem ↓] concat_list in
set_option maxHeartbeats 8000000 in
set_option maxRecDepth 100000 in
theorem writeCode_any (l : List Int) (s : Bytes) (w : World) (hl : l.length = 16) (hs : s.length ≤ 4611686018427387904) :
    Calls Try.prog 50 #[A16 l, S s] w fun e w' => e = .returned (.tuple #[S (writeS l s), I (writeE l s)]) ∧ Below w.heap.size w w' := by
  have hz := zero16s
  obtain ⟨B, hB⟩ : ∃ B, B = w.heap.size := ⟨_, rfl⟩
  obtain ⟨w0, hw0⟩ : ∃ w0, w0 = w.alloc (.cells (cells16 l) 64) := ⟨_, rfl⟩
  have hx0 : BoxAt l w w0 B := by rw [hw0, hB]; exact BoxAt.boxed l w
  have CK := checkCodeR_any l w0 hl
  obtain ⟨e0, he0⟩ : ∃ e0, e0 = checkE l := ⟨_, rfl⟩
  rw [← he0] at CK
  have CK := hide CK
  have HE0 := hide he0
  have HB := hide hB
  have HW0 := hide hw0
  have HX0 := hide hx0
  have HL := hide hl
  clear he0 hB hw0 hx0 hl
  go_enter Try.func50, Try.ntmps50
  by_cases h0 : e0 = 0
  · subst h0
    have HR := hide (right_of (unhide HL) (unhide HE0).symm)
    by_cases hs1 : s.length ≤ 1024
    · go_wp2_with (first
        | (refine wpList_load16 rfl (.tmp 2) rfl B (by rw [unhide HB]; rfl) l (unhide HL) (by rw [← unhide HW0]; exact (unhide HX0).a) ?_; rw [← unhide HW0, ← unhide HB])
        | (go_at_call 48; refine (unhide CK).mono ?_; rintro e w1 ⟨rfl, hb1⟩; have HX1 := hide ((unhide HX0).below hb1); clear hb1)
        | (refine wpList_load16 rfl (.tmp 2) rfl B rfl l (unhide HL) (unhide HX1).a ?_)
        | (go_at_call 74; refine (refWords_any l _ (unhide HR)).mono ?_; rintro e w2 ⟨rfl, hb2⟩; have HX2 := hide ((unhide HX1).below hb2); clear hb2)
        | (refine wpList_store_row rfl 125 (.tmp 7) (.tmp 23) rfl w2.heap.size _ rfl rfl 125 _ (heap_alloc_new _ _) (by rw [size16s, cellsS_size]) (by rw [cellsS_size, cellsS_size]) (cellsS_one _) ?_; obtain ⟨w3, hw3⟩ : ∃ w3, w3 = (w2.alloc (.cells (cellsS fun _ => []) 125)).setRow w2.heap.size (cellsS fun j => bstr (wordB l j)) := ⟨_, rfl⟩; obtain ⟨g, hg⟩ : ∃ g, g = w2.heap.size := ⟨_, rfl⟩; have HC0 := hide (CodeAt.made (unhide HX2)); rw [← hw3, ← hg] at HC0; rw [← hw3, ← hg]; clear hw3 hg))
      go_loopw [8, 9] (fun b i wr => ∃ (k : Nat) (X : List Bool), k ≤ s.length ∧ i = .int .i64 k ∧ b = S (bstr X) ∧ WAt l s k X ∧ CodeAt l w wr B g) (fun _ i _ => s.length - (intOf i).toNat)
      case atStart => exact ⟨0, [], by omega, rfl, rfl, WAt.start l s, unhide HC0⟩
      case round =>
        obtain ⟨k, X, hk, rfl, rfl, hx, hc⟩ := hrel
        have HX := hide hx
        have HC := hide hc
        have hXl := hx.len (unhide HR) hk
        clear hx
        by_cases hks : k < s.length
        · obtain ⟨c, hcc⟩ : ∃ c, (⟨s.toArray⟩ : ByteArray)[k]'hks = c := ⟨_, rfl⟩
          have hsc : s[k]? = some c := by rw [List.getElem?_eq_getElem hks]; exact congrArg some hcc
          obtain ⟨h, hh⟩ : ∃ h, h = c.toNat / 16 := ⟨_, rfl⟩
          obtain ⟨m, hm⟩ : ∃ m, m = c.toNat % 16 := ⟨_, rfl⟩
          have hc256 := c.toNat_lt
          have hh16 : h < 16 := by omega
          have hm16 : m < 16 := by omega
          have a1 : (c.toNat : Int).tdiv 16 = (h : Int) := by rw [Int.tdiv_eq_ediv_of_nonneg (by omega)]; omega
          have a2 : (c.toNat : Int).tmod 16 = (m : Int) := by rw [Int.tmod_eq_emod_of_nonneg (by omega)]; omega
          have a3 : IntKind.u8.wrap ((c.toNat : Int) / 16) = (h : Int) := by
            have e : (c.toNat : Int) / 16 = (h : Int) := by omega
            rw [e, IntKind.wrap_u8]; omega
          have c1 := hc.len (unhide HR) hh16
          have c2 := hc.len (unhide HR) hm16
          have c3 := hc.word hh16
          have c4 := hc.word hm16
          obtain ⟨x, hx⟩ : ∃ x, x = ln l h := ⟨_, rfl⟩
          obtain ⟨y, hy⟩ : ∃ y, y = ln l m := ⟨_, rfl⟩
          rw [← hx] at c1
          rw [← hy] at c2
          have HSC := hide hsc
          have HH := hide hh
          have HM := hide hm
          have HXX := hide hx
          have HYY := hide hy
          clear hsc hh hm hx hy hc
          by_cases hlk : x = 0 ∨ y = 0
          · have hlx : lacks l (nibs s) = true := WAt.lack (unhide HSC) (by rw [← unhide HH, ← unhide HM, ← unhide HXX, ← unhide HYY]; exact hlk)
            have HLX := hide hlx
            have hcs : (((x : Int) == 0) = true ∧ (x == 0) = true) ∨ (((x : Int) == 0) = false ∧ (x == 0) = false ∧ ((y : Int) == 0) = true ∧ (y == 0) = true) := by
              by_cases e : x = 0
              · exact .inl ⟨by rw [beq_iff_eq]; omega, by rw [beq_iff_eq]; exact e⟩
              · exact .inr ⟨by rw [beq_eq_false_iff_ne]; omega, by rw [beq_eq_false_iff_ne]; exact e, by rw [beq_iff_eq]; omega, by rw [beq_iff_eq]; omega⟩
            clear hlx hlk
            rcases hcs with ⟨d1, d2⟩ | ⟨d1, d2, d3, d4⟩
            all_goals
              go_wp2_with fail
              go_ret2
              obtain ⟨e1, e2⟩ := writeE_none (unhide HE0).symm (by omega) (unhide HLX)
              rw [e1, e2, ← unhide HB]
              exact ⟨rfl, (unhide HC).bel⟩
          · have hst := (unhide HX).step (unhide HSC) (by rw [← unhide HH, ← unhide HXX]; exact fun e => hlk (.inl e)) (by rw [← unhide HM, ← unhide HYY]; exact fun e => hlk (.inr e))
            rw [← unhide HH, ← unhide HM] at hst
            have HST := hide hst
            have d1 : ((x : Int) == 0) = false := by rw [beq_eq_false_iff_ne]; omega
            have d2 : (x == 0) = false := by rw [beq_eq_false_iff_ne]; omega
            have d3 : ((y : Int) == 0) = false := by rw [beq_eq_false_iff_ne]; omega
            have d4 : (y == 0) = false := by rw [beq_eq_false_iff_ne]; omega
            have hl1 : (bstr (wordB l h)).length ≤ 100 := by
              have := (unhide HR).one h
              rw [bstr_len, wordB_len]; omega
            have hl2 : (bstr (wordB l m)).length ≤ 100 := by
              have := (unhide HR).one m
              rw [bstr_len, wordB_len]; omega
            have hl3 : (bstr X).length ≤ 100000 := by rw [bstr_len]; omega
            obtain ⟨bx, hbx⟩ : ∃ bx, bx = bstr X := ⟨_, rfl⟩
            obtain ⟨bh, hbh⟩ : ∃ bh, bh = bstr (wordB l h) := ⟨_, rfl⟩
            obtain ⟨bm, hbm⟩ : ∃ bm, bm = bstr (wordB l m) := ⟨_, rfl⟩
            have hall : bstr (X ++ wordB l h ++ wordB l m) = bx ++ bh ++ bm := by rw [bstr_app, bstr_app, hbx, hbh, hbm]
            rw [← hbh] at c3 hl1
            rw [← hbm] at c4 hl2
            rw [← hbx] at hl3
            have k1 : bx.length + bh.length ≤ 9223372036854775807 := by omega
            have k2 : (bx ++ bh).length + bm.length ≤ 9223372036854775807 := by rw [List.length_append]; omega
            rw [← hbx]
            have HALL := hide hall
            clear hst hlk hbx hbh hbm hall
            go_wp2_with fail
            go_quiet (fail)
            go_wp2_with fail
            go_roundw
            case rel => exact ⟨k + 1, X ++ wordB l h ++ wordB l m, by omega, by go_num, by rw [unhide HALL]; first | rfl | simp, unhide HST, (unhide HC).drew _⟩
            case measure => simp [intOf]; omega
        · have hk' : k = s.length := by omega
          subst hk'
          have hfin := (unhide HX)
          have hbits : X = encK l (nibs s) := by rw [hfin.bits, List.take_length]
          have hlk : lacks l (nibs s) = false := by
            have := hfin.fine
            rwa [List.take_length] at this
          obtain ⟨e1, e2⟩ := writeE_ok (unhide HE0).symm (by omega) hlk
          rw [← hbits] at e2
          have HE1 := hide e1
          have HE2 := hide e2
          obtain ⟨N, hN⟩ : ∃ N, N = (X.length + 7) / 8 := ⟨_, rfl⟩
          clear hfin hbits hlk e1 e2 hc
          go_wp2_with fail
          go_loopw [8] (fun b w4 => ∃ (t : Nat), X.length + t ≤ 8 * N ∧ b = S (bstr (X ++ zeros t)) ∧ CodeAt l w w4 B g) (fun b _ => 100000 - strLenB b)
          case atStart => exact ⟨0, by omega, by simp [zeros], unhide HC⟩
          case round =>
            obtain ⟨t, ht, rfl, hc4⟩ := hrel
            have HC4 := hide hc4
            obtain ⟨bs, hbs⟩ : ∃ bs, bs = bstr (X ++ zeros t) := ⟨_, rfl⟩
            have hbl : bs.length = X.length + t := by rw [hbs, bstr_len, List.length_append, zeros_len]
            rw [← hbs]
            obtain ⟨r, hr⟩ : ∃ r, r = bs.length % 8 := ⟨_, rfl⟩
            have hm : (bs.length : Int).tmod 8 = (r : Int) := by rw [Int.tmod_eq_emod_of_nonneg (by omega)]; omega
            have hr8 : r < 8 := by omega
            have hb1 : bs.length ≤ 31000 := by omega
            by_cases hr0 : r = 0
            · have htt : X.length + t = 8 * N := by omega
              have hP : packN N (X ++ zeros t) = packB X := by
                rw [show t = 8 * N - X.length from by omega, packN_pad _ _ (by omega), hN]; rfl
              obtain ⟨P, hPP⟩ : ∃ P, P = X ++ zeros t := ⟨_, rfl⟩
              have hPl : P.length = 8 * N := by rw [hPP, List.length_append, zeros_len]; exact htt
              rw [← hPP] at hbs hP
              have hbn : bs.length = 8 * N := by rw [hbl, htt]
              have hN1 : 8 * N ≤ 31000 := by omega
              have d1 : ((r : Int) == 0) = true := by rw [beq_iff_eq]; omega
              have d2 : ((r : Int) != 0) = false := by rw [hr0]; rfl
              have d3 : (r != 0) = false := by rw [hr0]; rfl
              have HBN := hide hbn
              have HBS := hide hbs
              have HP := hide hP
              have HPL := hide hPl
              have HN := hide hN
              clear hr0 hr hbl htt hP hPP hPl hbn hbs hN
              go_wp2_with fail
              go_loopw [10, 11, 12, 13] (fun o i _ _ w5 => ∃ (j p : Nat), p = 8 * j ∧ p ≤ bs.length ∧ i = .int .i64 p ∧ o = S (packN j P) ∧ CodeAt l w w5 B g) (fun _ i _ _ _ => bs.length - (intOf i).toNat)
              case atStart => exact ⟨0, 0, by omega, by omega, rfl, rfl, unhide HC4⟩
              case round =>
                obtain ⟨j, p, hp, hpl, rfl, rfl, hc5⟩ := hrel
                have HC5 := hide hc5
                clear hc5
                by_cases hpn : p < bs.length
                · have hp8 : p + 8 ≤ bs.length := by have := unhide HBN; omega
                  have HPJ := hide hp
                  clear hp
                  go_wp2_with fail
                  go_loop [12, 13] (fun n i => ∃ (q kk v : Nat), kk = p + q ∧ q ≤ 8 ∧ i = .int .i64 kk ∧ n = .int .i64 v ∧ v = val ((P.drop p).take q) ∧ v < 256) (fun _ i => p + 8 - (intOf i).toNat)
                  case atStart => exact ⟨0, p, 0, by omega, by omega, rfl, rfl, by simp [val], by omega⟩
                  case round =>
                    obtain ⟨q, kk, v, hkk, hq8, rfl, rfl, hv, hv256⟩ := hrel
                    by_cases hq : q < 8
                    · have hkb : kk < bs.length := by omega
                      have hPd : (P.drop p)[q]? = some (P[kk]'(by have := unhide HPL; have := unhide HBN; omega)) := by
                        rw [List.getElem?_drop, ← hkk, List.getElem?_eq_getElem]
                      obtain ⟨b, hb⟩ : ∃ b, b = (P[kk]'(by have := unhide HPL; have := unhide HBN; omega)) := ⟨_, rfl⟩
                      obtain ⟨c, hcc⟩ : ∃ c, (⟨bs.toArray⟩ : ByteArray)[kk]'hkb = c := ⟨_, rfl⟩
                      have hcb : c = bch b := by
                        rw [← hcc, hb]
                        show bs[kk] = _
                        have hbs := unhide HBS
                        subst hbs
                        simp [bstr]
                      obtain ⟨z, hz⟩ : ∃ z, z = bvT b := ⟨_, rfl⟩
                      have hz1 : z ≤ 1 := by rw [hz]; exact bvT_le b
                      have hcz : IntKind.u8.wrap ((c.toNat : Int) - 48) = (z : Int) := by
                        rw [hcb, hz]; cases b <;> decide
                      have hnv : val ((P.drop p).take (q + 1)) = 2 * v + z := by
                        rw [List.take_add_one, hPd, ← hb, hv, hz]; exact val_snoc _ _
                      have hn256 : 2 * v + z < 256 := by
                        have h1 := val_lt ((P.drop p).take (q + 1))
                        have h2 : 2 ^ ((P.drop p).take (q + 1)).length ≤ 2 ^ 8 := Nat.pow_le_pow_right (by omega) (by rw [List.length_take]; omega)
                        rw [hnv] at h1; omega
                      have HNV := hide hnv
                      have HKK := hide hkk
                      clear hPd hb hcb hz hnv hv hkk
                      have kk8 : (kk : Int) < (p : Int) + 8 := by have := unhide HKK; omega
                      go_wp2_with fail
                      go_round
                      case rel => exact ⟨q + 1, kk + 1, 2 * v + z, by have := unhide HKK; omega, by omega, by go_num, by go_num, (unhide HNV).symm, hn256⟩
                      case measure => simp [intOf]; omega
                    · have hq' : q = 8 := by omega
                      subst hq'
                      have kk8 : ¬ (kk : Int) < (p : Int) + 8 := by omega
                      obtain ⟨b, hb⟩ : ∃ b, b = byteOfB ((P.drop p).take 8) := ⟨_, rfl⟩
                      have h8 : ((P.drop p).take 8).length = 8 := by
                        have := unhide HPL
                        have := unhide HBN
                        rw [List.length_take, List.length_drop]; omega
                      have hx : (b.toNat : Int) = (v : Int) := by rw [hb, byteOfB_nat (by omega), h8, hv]; simp
                      have hpk : packN (j + 1) P = packN j P ++ [b] := by rw [packN_snoc, ← unhide HPJ, hb]
                      have HPK := hide hpk
                      have hjl : (packN j P).length ≤ 31000 := by
                        have := unhide HPJ
                        rw [packN_len]; omega
                      have k1 : (packN j P).length + [b].length ≤ 9223372036854775807 := by simp; omega
                      have hu8 : IntKind.u8.wrap (v : Int) = (v : Int) := by rw [IntKind.wrap_u8]; omega
                      have hcv := fun (W : World) => run_conv1_new (P := Try.prog) W b hx 5 73 9 5 Try.underlying73 Try.underlying5 Try.underlying9
                      clear hb h8 hx hpk hv hkk
                      go_wp2_with fail
                      go_roundw
                      case rel => exact ⟨j + 1, p + 8, by have := unhide HPJ; omega, by omega, by go_num, by rw [unhide HPK], (unhide HC5).alloc _⟩
                      case measure => simp [intOf]; omega
                · have hj : j = N := by have := unhide HBN; omega
                  subst hj
                  go_wp2_with fail
                  go_ret2
                  rw [unhide HE1, unhide HE2, ← unhide HP, ← unhide HB]
                  exact ⟨rfl, (unhide HC5).bel⟩
            · have d1 : ((r : Int) == 0) = false := by rw [beq_eq_false_iff_ne]; omega
              have d2 : ((r : Int) != 0) = true := by rw [bne_iff_ne]; omega
              have d3 : (r != 0) = true := by rw [bne_iff_ne]; exact hr0
              have hnx : bs ++ [48] = bstr (X ++ zeros (t + 1)) := by
                rw [hbs, ← zeros_add, ← List.append_assoc, bstr_app (X ++ zeros t)]; rfl
              have k1 : bs.length + [(48 : UInt8)].length ≤ 9223372036854775807 := by simp; omega
              have htt : X.length + (t + 1) ≤ 8 * N := by omega
              have HTT := hide htt
              have HNX := hide hnx
              clear hr hbs hnx hbl htt hr0
              go_wp2_with fail
              go_roundw
              case rel => exact ⟨t + 1, unhide HTT, by rw [← unhide HNX], unhide HC4⟩
              case measure =>
                have e1 : strLenB (S (bs ++ [48])) = bs.length + 1 := by show (bs ++ [48]).length = _; simp
                have e2 : strLenB (S bs) = bs.length := rfl
                show 100000 - strLenB (S (bs ++ [48])) < 100000 - strLenB (S bs)
                omega
    · have HS1 := hide hs1
      have hs2 : (1024 : Int) < (s.length : Int) := by omega
      clear hs1
      go_wp2_with (first
        | (refine wpList_load16 rfl (.tmp 2) rfl B (by rw [unhide HB]; rfl) l (unhide HL) (by rw [← unhide HW0]; exact (unhide HX0).a) ?_; rw [← unhide HW0, ← unhide HB])
        | (go_at_call 48; go_loud (refine (unhide CK).mono ?_; rintro e w1 ⟨rfl, hb1⟩; have HX1 := hide ((unhide HX0).below hb1); clear hb1)))
      go_ret2
      obtain ⟨e1, e2⟩ := writeE_many (l := l) (unhide HE0).symm (show 1024 < s.length by have := unhide HS1; omega)
      rw [e1, e2, ← unhide HB]
      exact ⟨rfl, (unhide HX1).bel⟩
  · have z1 : ((e0 : Int) == 0) = false := by rw [beq_eq_false_iff_ne]; omega
    have z2 : ((e0 : Int) != 0) = true := by rw [bne_iff_ne]; omega
    have H0 := hide h0
    clear h0
    go_wp2_with (first
      | (refine wpList_load16 rfl (.tmp 2) rfl B (by rw [unhide HB]; rfl) l (unhide HL) (by rw [← unhide HW0]; exact (unhide HX0).a) ?_; rw [← unhide HW0, ← unhide HB])
      | (go_at_call 48; go_loud (refine (unhide CK).mono ?_; rintro e w1 ⟨rfl, hb1⟩; have HX1 := hide ((unhide HX0).below hb1); clear hb1)))
    go_ret2
    obtain ⟨e1, e2⟩ := writeE_code (l := l) (s := s) (by rw [← unhide HE0]; exact unhide H0)
    rw [e1, e2, ← unhide HE0, ← unhide HB]
    exact ⟨rfl, (unhide HX1).bel⟩

end Go.Proofs.Ytgfkkjcnnecefaa

/- Arrays of sixteen words; the signs that have words, in order. -/
namespace Go.Proofs.Ytgfkkjcnnecefaa
open Go.RowKit Go.Lib Pl

/-- an array of sixteen words -/
abbrev cellsP (f : Nat → Nat × Nat) : Array Value := ((List.range 32).map fun j => if j % 2 = 0 then I (f (j / 2)).1 else I (f (j / 2)).2).toArray
abbrev AP (f : Nat → Nat × Nat) : Value := .agg (cellsP f)
theorem info16w : (Try.prog.info? 123).map (fun i => (i.zero, i.size)) = some (some (AP fun _ => (0, 0)), 32) := by kernel_rfl
theorem size16w : (Try.prog.info? 123).map (·.size) = some 32 := (zero_of_info info16w).2
theorem zero16w (w : World) : (zeroValue 123).run Try.prog w = .ok (AP fun _ => (0, 0)) w := (zero_of_info info16w).1 w
theorem cellsP_size (f : Nat → Nat × Nat) : (cellsP f).size = 32 := by simp [cellsP]
theorem cellsP_one (f : Nat → Nat × Nat) : (cellsP f).all (·.oneCell') = true := by
  rw [Array.all_eq_true_iff_forall_mem]
  intro v hv
  simp only [cellsP, List.mem_toArray, List.mem_map] at hv
  obtain ⟨j, _, rfl⟩ := hv
  split <;> rfl
theorem cellsP_get (f : Nat → Nat × Nat) (j : Nat) (hj : j < 32) : (cellsP f)[j]? = some (if j % 2 = 0 then I (f (j / 2)).1 else I (f (j / 2)).2) := by simp [cellsP, hj]
theorem cellsP_get0 (f : Nat → Nat × Nat) (k : Nat) (hk : k < 16) : (cellsP f)[k * 2]? = some (I (f k).1) := by
  rw [cellsP_get f _ (by omega), if_pos (by omega), show k * 2 / 2 = k from by omega]
theorem cellsP_get1 (f : Nat → Nat × Nat) (k : Nat) (hk : k < 16) : (cellsP f)[k * 2 + 1]? = some (I (f k).2) := by
  rw [cellsP_get f _ (by omega), if_neg (by omega), show (k * 2 + 1) / 2 = k from by omega]
theorem cellsP_none (f : Nat → Nat × Nat) (j : Nat) (hj : ¬ j < 32) : (cellsP f)[j]? = none := by simp [cellsP]; omega
theorem cellsP_set (f : Nat → Nat × Nat) (k : Nat) (a b : Nat) (hk : k < 16) : ((cellsP f).setIfInBounds (k * 2) (I a)).setIfInBounds (k * 2 + 1) (I b) = cellsP fun j => if j = k then (a, b) else f j := by
  apply Array.ext_getElem?
  intro j
  rw [Array.getElem?_setIfInBounds, Array.getElem?_setIfInBounds]
  simp only [Array.size_setIfInBounds, cellsP_size]
  by_cases hj : j < 32
  · rw [cellsP_get _ j hj]
    by_cases e1 : k * 2 + 1 = j
    · rw [if_pos e1, if_pos (by omega), cellsP_get _ j hj, if_neg (by omega), show j / 2 = k from by omega]; simp
    · rw [if_neg e1]
      by_cases e2 : k * 2 = j
      · rw [if_pos e2, if_pos (by omega), cellsP_get _ j hj, if_pos (by omega), show j / 2 = k from by omega]; simp
      · rw [if_neg e2, cellsP_get _ j hj]
        have : ¬ j / 2 = k := by omega
        simp [this]
  · rw [cellsP_none _ j hj, cellsP_none _ j hj, if_neg (by omega), if_neg (by omega)]
theorem cellsP_congr {f f' : Nat → Nat × Nat} (h : ∀ j, j < 16 → f j = f' j) : cellsP f = cellsP f' := by
  apply Array.ext_getElem?
  intro j
  by_cases hj : j < 32
  · rw [cellsP_get _ j hj, cellsP_get _ j hj, h (j / 2) (by omega)]
  · rw [cellsP_none _ j hj, cellsP_none _ j hj]

/-- the signs that have words, of the first so many -/
def used (l : List Int) : Nat → List (Fin 16)
  | 0 => []
  | k + 1 => used l k ++ (if h : k < 16 ∧ 0 < ln l k then [⟨k, h.1⟩] else [])
theorem used_mem (l : List Int) : ∀ (k : Nat) (i : Fin 16), i ∈ used l k ↔ i.val < k ∧ 0 < ln l i
  | 0, i => by simp [used]
  | k + 1, i => by
    rw [used, List.mem_append, used_mem l k i]
    by_cases h : k < 16 ∧ 0 < ln l k
    · rw [dif_pos h, List.mem_singleton]
      constructor
      · rintro (⟨h1, h2⟩ | rfl)
        · exact ⟨by omega, h2⟩
        · exact ⟨by simp, h.2⟩
      · rintro ⟨h1, h2⟩
        by_cases e : i.val = k
        · exact .inr (Fin.ext e)
        · exact .inl ⟨by omega, h2⟩
    · rw [dif_neg h]
      simp only [List.not_mem_nil, or_false]
      constructor
      · rintro ⟨h1, h2⟩; exact ⟨by omega, h2⟩
      · rintro ⟨h1, h2⟩
        refine ⟨?_, h2⟩
        by_cases e : i.val = k
        · exfalso
          apply h
          rw [← e]; exact ⟨i.isLt, h2⟩
        · omega
theorem used_lt (l : List Int) : ∀ k, (used l k).Pairwise (· < ·)
  | 0 => List.Pairwise.nil
  | k + 1 => by
    rw [used]
    refine List.pairwise_append.2 ⟨used_lt l k, ?_, ?_⟩
    · split <;> simp
    · intro a ha b hb
      have h1 := (used_mem l k a).1 ha
      split at hb
      · rw [List.mem_singleton] at hb
        subst hb
        rw [Fin.lt_def]; exact h1.1
      · simp at hb
theorem used_len (l : List Int) : ∀ k, (used l k).length ≤ k
  | 0 => Nat.le_refl _
  | k + 1 => by
    have := used_len l k
    rw [used, List.length_append]
    split <;> simp <;> omega
/-- the room of some signs -/
def sumP (l : List Int) (p : List (Fin 16)) : Nat := (p.map fun i : Fin 16 => pw (ln l i)).sum
theorem sumP_app (l : List Int) (a b : List (Fin 16)) : sumP l (a ++ b) = sumP l a + sumP l b := by unfold sumP; rw [List.map_append, List.sum_append]
theorem sumP_perm (l : List Int) {a b : List (Fin 16)} (h : a.Perm b) : sumP l a = sumP l b := (h.map _).sum_nat
theorem sumP_used (l : List Int) (q : Nat → Bool) (hq : ∀ j, q j = true → 0 < ln l j) : ∀ k, k ≤ 16 → sumP l ((used l k).filter fun i : Fin 16 => q i) = sumN (fun j => if q j = true then pw (ln l j) else 0) k
  | 0, _ => rfl
  | k + 1, hk => by
    rw [used, List.filter_append, sumP_app, sumP_used l q hq k (by omega), sumN]
    congr 1
    by_cases h : k < 16 ∧ 0 < ln l k
    · rw [dif_pos h]
      by_cases e : q k = true
      · rw [if_pos e]; simp [sumP, e]
      · rw [if_neg e]; simp [sumP, e]
    · rw [dif_neg h, if_neg (fun e => h ⟨by omega, hq k e⟩)]; rfl
def Lex (l : List Int) (a b : Fin 16) : Prop := ln l a < ln l b ∨ (ln l a = ln l b ∧ a < b)
theorem take_filter (l : List Int) {p : List (Fin 16)} (hp : p.Pairwise (Lex l)) (hu : ∀ i ∈ p, 0 < ln l i) {k : Nat} {x : Fin 16} (hk : p[k]? = some x) : p.filter (fun i : Fin 16 => Pl.early l (ln l x) x i) = p.take k := by
  obtain ⟨hlt, hx⟩ := List.getElem?_eq_some_iff.1 hk
  have hsp : p = p.take k ++ x :: p.drop (k + 1) := by
    rw [← hx, ← List.drop_eq_getElem_cons hlt, List.take_append_drop]
  have hp2 := hp
  rw [hsp] at hp2
  obtain ⟨_, h2, h3⟩ := List.pairwise_append.1 hp2
  have h4 := List.pairwise_cons.1 h2
  conv => lhs; rw [hsp]
  rw [List.filter_append]
  have e1 : (p.take k).filter (fun i : Fin 16 => Pl.early l (ln l x) x i) = p.take k := by
    rw [List.filter_eq_self]
    intro a ha
    rw [early_iff]
    have := h3 a ha x (by simp)
    unfold Lex at this
    rw [Fin.lt_def] at this
    exact ⟨hu a (List.mem_of_mem_take ha), this⟩
  have e2 : (x :: p.drop (k + 1)).filter (fun i : Fin 16 => Pl.early l (ln l x) x i) = [] := by
    rw [List.filter_eq_nil_iff]
    intro a ha
    rw [early_iff]
    rcases List.mem_cons.1 ha with rfl | ha
    · omega
    · have := h4.1 a ha
      unfold Lex at this
      rw [Fin.lt_def] at this
      omega
  rw [e1, e2, List.append_nil]
/-- the program's number is the room of the earlier ones -/
theorem sum_take (l : List Int) {p : List (Fin 16)} (hpm : p.Perm (used l 16)) (hp : p.Pairwise (Lex l)) {k : Nat} {x : Fin 16} (hk : p[k]? = some x) : sumP l (p.take k) = preS l (ln l x) x := by
  rw [← take_filter l hp (fun i hi => ((used_mem l 16 i).1 (hpm.mem_iff.1 hi)).2) hk, sumP_perm l (hpm.filter _)]
  rw [sumP_used l (fun j => Pl.early l (ln l x) x j) (fun j hj => ((early_iff _ _ _ _).1 hj).1) 16 (Nat.le_refl _)]
  rfl

theorem used_some {l : List Int} (hr : Right l) : used l 16 ≠ [] := by
  intro e
  have h1 := hr.some
  have : krS l = 0 := sumN_zero 16 fun j hj => by
    rw [if_neg]
    intro h
    have := (used_mem l 16 ⟨j, hj⟩).2 ⟨hj, h⟩
    rw [e] at this; simp at this
  omega
theorem row_at {w : World} {base n : Nat} {e : TypeId} {v : Value} {xs : List Value} (h : w.ownsRow base e 1 v n xs) (hn : n ≠ 0) : ∃ g cap, v = .slice (some ⟨g, 0, none⟩) n cap := by
  rcases h.2 with ⟨_, h0⟩ | ⟨g, cap, cur, hv, _⟩
  · exact absurd h0 hn
  · exact ⟨g, cap, hv⟩
/-- what lies in the words' array, so many of the sorted signs behind us -/
def outP (l : List Int) (p : List (Fin 16)) (k j : Nat) : Nat × Nat := if (p.take k).any (fun i => decide (i.val = j)) = true then (wv l j, ln l j) else (0, 0)
theorem outP_zero (l : List Int) (p : List (Fin 16)) : outP l p 0 = fun _ => (0, 0) := by funext j; simp [outP]
theorem outP_step (l : List Int) {p : List (Fin 16)} {k : Nat} {x : Fin 16} (hk : p[k]? = some x) : outP l p (k + 1) = fun j => if j = x.val then (wv l x, ln l x) else outP l p k j := by
  funext j
  unfold outP
  rw [List.take_add_one, hk, List.any_append]
  by_cases e : j = x.val
  · subst e; simp
  · have : ¬ x.val = j := fun h => e h.symm
    simp [this, e]
theorem outP_end {l : List Int} {p : List (Fin 16)} (hpm : p.Perm (used l 16)) {k : Nat} (hk : p.length ≤ k) : cellsP (outP l p k) = cellsP fun j => (wv l j, ln l j) :=
  cellsP_congr fun j hj => by
    unfold outP
    rw [List.take_of_length_le hk]
    by_cases h : 0 < ln l j
    · rw [if_pos]
      rw [List.any_eq_true]
      exact ⟨⟨j, hj⟩, hpm.mem_iff.2 ((used_mem l 16 ⟨j, hj⟩).2 ⟨hj, h⟩), by simp⟩
    · have h0 : ln l j = 0 := by omega
      rw [if_neg]
      · have : wv l j = 0 := by
          unfold wv preS
          rw [h0, sumN_zero 16 fun i _ => by rw [if_neg]; rw [early_iff]; omega]
          simp
        rw [this, h0]
      · intro ha
        rw [List.any_eq_true] at ha
        obtain ⟨i, hi, he⟩ := ha
        have h1 := ((used_mem l 16 i).1 (hpm.mem_iff.1 hi)).2
        have h2 : i.val = j := by simpa using he
        rw [h2] at h1; omega
theorem info_int : (Try.prog.info? 3).map (fun i => (i.zero, i.size, i.bytes)) = some (some (.int .i64 0), 1, 8) := by kernel_rfl

theorem meas_up {n k : Nat} (h : k < n) : n - (intOf (Value.int .i64 ((k : Int) + 1))).toNat < n - (intOf (Value.int .i64 (k : Int))).toNat := by simp [intOf]; omega
/-- what the program's words gives -/
def WordsSpec : Prop := ∀ (l : List Int) (w : World), Right l → Calls Try.prog 73 #[A16 l] w fun e w' => e = .returned (AP fun j => (wv l j, ln l j)) ∧ Below w.heap.size w w'

end Go.Proofs.Ytgfkkjcnnecefaa
