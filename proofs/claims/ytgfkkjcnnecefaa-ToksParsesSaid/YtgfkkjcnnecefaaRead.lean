/- The walk of toks.Read. -/
import Derived.Test.YtgfkkjcnnecefaaToksFrom
import Derived.Test.YtgfkkjcnnecefaaPlay
namespace Go.Proofs.Ytgfkkjcnnecefaa
open Go.RowKit Go.Lib Pl
attribute [local go_sem] ext_list app_list

theorem Mk.kept {w w' : World} {base M d : Nat} {lit : Bool} {s : Bytes} (h : Mk w base M d lit s) (hb : Below w.heap.size w w') : Mk w' base M d lit s := by
  obtain ⟨h0, A, cap, hblk, hown⟩ := h
  exact ⟨h0, A, cap, (hb.block M (Array.getElem?_eq_some_iff.1 hblk).1).trans hblk, hown.kept fun k hk => hb.block k (hown.lt k hk).2⟩
theorem Mk.set_far {w : World} {base M d : Nat} {lit : Bool} {s : Bytes} (h : Mk w base M d lit s) {p : Addr} (hM : M ≠ p.block) (u : Value) {cs : Array Value} {t : TypeId} {fz : Nat × Nat} (hp : w.heap[p.block]? = some (.cells cs t fz)) (ht : t ≠ 5) :
    Mk (w.setCell p u) base M d lit s := by
  obtain ⟨h0, A, cap, hblk, hown⟩ := h
  refine ⟨h0, A, cap, (Below.heap_setCell w p u M hM).trans hblk, hown.setCell (fun e => ?_) u⟩
  rcases hown.2 with ⟨hv, _⟩ | ⟨g, cap', cur, fz', hv, _, hgg, _⟩
  · rw [hv] at e; simp [Value.ownBlock] at e
  · rw [hv] at e
    simp [Value.ownBlock] at e
    rw [e, hp] at hgg
    injection hgg with hgg; injection hgg with _ h2 _
    exact ht h2

/-- rows of toks -/
def badT : Obj → Bool
  | .cells _ t _ => t == 80
  | _ => false
theorem Mk.keeps {w w' : World} {base M d : Nat} {lit : Bool} {s : Bytes} (h : Mk w base M d lit s) (hk : Keeps badT w w') : Mk w' base M d lit s := by
  obtain ⟨h0, A, cap, hblk, hown⟩ := h
  exact ⟨h0, A, cap, hk.block M _ hblk rfl, hk.own hown (fun _ _ => rfl)⟩
theorem Mk.pushed {w w' : World} {o : Obj} {base M d n : Nat} {lit : Bool} {s : Bytes} {v : Value} {xs : List Value} {b2 : Nat} (h : Mk w base M d lit s) (hg : (w.alloc o).grownBy w' v.ownBlock) (hown : w.ownsRow b2 80 3 v n xs) : Mk w' base M d lit s := by
  refine h.keeps (((Keeps.refl _ _).alloc o).grown hg fun g hgv => ?_)
  rcases hown.2 with ⟨rfl, _⟩ | ⟨g', cap', cur, rfl, _, hgg, _⟩
  · simp [Value.ownBlock] at hgv
  · simp [Value.ownBlock] at hgv
    subst hgv
    exact ⟨_, (Below.heap_alloc w o g' (Array.getElem?_eq_some_iff.1 hgg).1).trans hgg, rfl⟩

/-- what Read hands back -/
def ReadRes (w' : World) (e : Ending) (r : Option (List Tok)) : Prop :=
  ∃ v err, e = .returned (.tuple #[v, .int .i64 err]) ∧ ((err = 1 ∧ v = .slice none 0 0 ∧ r = none) ∨ (err = 0 ∧ ∃ l, r = some l ∧ ToksV w' v l))
theorem ReadRes.no {w' : World} {r : Option (List Tok)} (h : r = none) : ReadRes w' (.returned (.tuple #[.slice none 0 0, .int .i64 1])) r := ⟨_, _, rfl, .inl ⟨rfl, rfl, h⟩⟩

def ReadRel (w wr : World) (dict s : Bytes) (v sv : Value) : Prop :=
  ∃ (n : Nat) (o : List Tok) (lit : Bool) (mm rest : Bytes), sv = S rest ∧ rest.length ≤ s.length ∧ wr.ownsRow w.heap.size 80 3 v n (toksCells o) ∧ Mk wr w.heap.size (w.heap.size + 1) dict.length lit mm ∧
    dict.length + n ≤ mm.length ∧ mm.length ≤ dict.length + 512 ∧ read dict s = (readR dict.length mm lit rest).map (o ++ ·) ∧ Below w.heap.size w wr ∧ w.heap.size + 2 ≤ wr.heap.size

theorem readR_map {d : Nat} {m rest r : Bytes} {b : Bool} {o : List Tok} {t : Tok} {x : Option (List Tok)} (h : x = (readR d m b rest).map (o ++ ·)) (hs : rest ≠ []) (ht : tokFrom rest = some (t, r)) (he : tokE d m b t = 0) :
    x = (readR d (tokS m t) (isLit t) r).map ((o ++ [t]) ++ ·) := by
  rw [h, readR_some hs ht he, Option.map_map]
  congr 1
  funext x; simp

theorem block_cells {w : World} {g : Nat} {a b c : Value} {t : TypeId} (h : w.heap[g]? = some (.cells #[a, b, c] t (0, 0))) :
    w.cell? ⟨g, 0, none⟩ = some a ∧ w.cell? ⟨g, 1, none⟩ = some b ∧ w.cell? ⟨g, 2, none⟩ = some c ∧ w.frozen? ⟨g, 0, none⟩ = false ∧ w.frozen? ⟨g, 1, none⟩ = false ∧ w.frozen? ⟨g, 2, none⟩ = false :=
  ⟨by rw [cell_of_row w _ 0 _ _ _ h]; rfl, by rw [cell_of_row w _ 1 _ _ _ h]; rfl, by rw [cell_of_row w _ 2 _ _ _ h]; rfl, free_row w _ 0 _ _ h, free_row w _ 1 _ _ h, free_row w _ 2 _ _ h⟩

set_option maxHeartbeats 4000000 in
set_option maxRecDepth 100000 in
theorem read_walk (dict s : Bytes) (w : World) (hd : dict.length ≤ 256) (hs : s.length ≤ 4611686018427387904) :
    Calls Try.prog 33 #[S dict, S s] w fun e w' => ReadRes w' e (read dict s) ∧ Below w.heap.size w w' := by
  have kb := fun (W : World) => run_bytes_of_string (P := Try.prog) W 9 73 5 ⟨dict.toArray⟩ Try.underlying9 Try.underlying73 Try.underlying5
  go_enter Try.func33, Try.ntmps33
  go_wp2_with fail
  go_step3
  go_wp2_with fail
  go_step3
  go_wp2_with fail
  go_loopw [7, 1] (fun v sv wr => ReadRel w wr dict s v sv) (fun _ sv _ => strLen sv)
  case atStart =>
    refine ⟨0, [], false, dict, s, rfl, Nat.le_refl _, World.ownsRow_nil _ _ _ _, Mk.made w _ dict (Nat.le_refl _) (by omega), by omega, by omega, by unfold Pl.read readR; simp, ((Below.refl _ _).drew.alloc (Nat.le_refl _) _).alloc (by simp) _, by simp⟩
  case round =>
    obtain ⟨n, o, lit, mm, rest, rfl, hrl, hown, hMk, hm1, hm2, hto, hbel, hz0⟩ := hrel
    obtain ⟨A, cap, rfl⟩ := own_slice hown
    have HTO := hide hto
    have HOWN := hide hown
    have HMK := hide hMk
    clear hto hown hMk
    by_cases hr : rest = []
    · subst hr
      have hrd : read dict s = some o := by rw [unhide HTO, readR_nil]; simp
      have HRD := hide hrd
      clear hrd
      go_wp2_with fail
      try rw [Exit.noGoto_ret]
      go_ret2
      obtain ⟨A', cap', hAe, hat, hlen⟩ := toksAt_of_own (unhide HOWN)
      exact ⟨⟨_, _, rfl, .inr ⟨rfl, o, unhide HRD, A', n, cap', hAe, hat⟩⟩, hbel⟩
    · have hr1 : rest.isEmpty = false := by simpa using hr
      have hr2 : (rest == []) = false := by simpa using hr
      have HR := hide hr
      have hsl : rest.length ≤ 9223372036854775807 := by omega
      clear hr
      cases hk : take rest with
      | none =>
        have C1 := hide (fun W => take_no hk W hsl)
        have hrd : read dict s = none := by rw [unhide HTO, readR_none (unhide HR) (tokFrom_none hk)]; rfl
        have HRD := hide hrd
        clear hrd hk
        go_wp2_with fail
        refine (unhide C1 _).mono ?_
        rintro e w1 ⟨rfl, hb1⟩
        go_wp2_with fail
        try rw [Exit.noGoto_ret]
        go_ret2
        exact ⟨ReadRes.no (unhide HRD), (hbel.trans (hb1.mono hbel.size)).alloc (Nat.le_trans hbel.size hb1.size) _⟩
      | some p =>
        obtain ⟨q, r⟩ := p
        have C1 := hide (fun W => take_ok hk W hsl)
        have hq : q ≤ 2147483647 := (take_some hk).2
        have hrlen := Pl.take_len hk
        obtain ⟨m, hm⟩ : ∃ m, m = q / 2 := ⟨_, rfl⟩
        have hm2' : (q : Int) / 2 = (m : Int) := by omega
        have hmb : m ≤ 1073741824 := by omega
        by_cases he : q % 2 = 0
        · have he2 : (q : Int) % 2 = 0 := by omega
          by_cases hsh : r.length < m
          · have hrd : read dict s = none := by rw [unhide HTO, readR_none (unhide HR) (tokFrom_short hk he (by omega))]; rfl
            have HRD := hide hrd
            have hsh2 : decide (r.length < m) = true := by simp; omega
            clear hrd hk hm he
            go_wp2_with fail
            refine (unhide C1 _).mono ?_
            rintro e w1 ⟨rfl, hb1⟩
            go_wp2_with fail
            try rw [Exit.noGoto_ret]
            go_ret2
            exact ⟨ReadRes.no (unhide HRD), (hbel.trans (hb1.mono hbel.size)).alloc (Nat.le_trans hbel.size hb1.size) _⟩
          · have hsh2 : decide (r.length < m) = false := by simp; omega
            have htf := tokFrom_even hk he (by omega)
            rw [← hm] at htf
            have HTF := hide htf
            have hsl2 := slice_len r m r.length
            obtain ⟨c, hc⟩ : ∃ c, c = tokE dict.length mm lit ⟨slice r 0 m, 0, 0⟩ := ⟨_, rfl⟩
            have c2 := fun (W : World) (h : Mk W w.heap.size (w.heap.size + 1) dict.length lit mm) => tok_any w.heap.size (w.heap.size + 1) dict.length lit mm ⟨slice r 0 m, 0, 0⟩ W h (by omega) hm2 hd
            rw [← hc] at c2
            have C2 := hide c2
            have HC := hide hc
            clear hk hm he htf c2 hc
            by_cases hc0 : c = 0
            · subst hc0
              go_wp2_with fail
              refine (unhide C1 _).mono ?_
              rintro e w1 ⟨rfl, hb1⟩
              have hbw := Nat.le_trans hbel.size hb1.size
              have HM1 := hide (((unhide HMK).kept hb1).alloc (.cells #[S (slice r 0 m), I 0, I 0] 80))
              have HO1 := hide ((own_below (unhide HOWN) hb1).alloc (.cells #[S (slice r 0 m), I 0, I 0] 80))
              go_wp2_with fail
              refine (unhide C2 _ (unhide HM1)).mono ?_
              rintro e w2 ⟨rfl, hmk2, hb2, hk2⟩
              have hmk2 := hmk2 (by first | trivial | exact (unhide HC).symm)
              have HM2 := hide hmk2
              obtain ⟨K0, K1, K2, _, _, _⟩ := block_cells (hk2.block w1.heap.size _ (heap_alloc_new w1 (.cells #[S (slice r 0 m), I 0, I 0] 80)) rfl)
              have HO2 := hide (hk2.ownsRow (unhide HO1) (fun _ _ => rfl))
              have hz2 := hb2.size
              have HG := hide (tokS_grow (unhide HC).symm (show dict.length ≤ mm.length by omega))
              clear hmk2
              go_wp2_with (at_builtin; refine wpList_push_tok_at rfl (.tmp 73) (.tmp 75) rfl w.heap.size _ n o rfl (unhide HO2) (slice r 0 m) 0 0 w2.heap.size rfl rfl (by omega) (by simp at hz2; omega) ?_; intro A4 cap4 w4 hown4 hb4 hg4)
              go_roundw
              case rel =>
                have hg := unhide HG
                have hlb := hb4.size
                have hz1 := hb1.size
                simp at hz2
                exact ⟨n + 1, o ++ [⟨slice r 0 m, 0, 0⟩], _, tokS mm ⟨slice r 0 m, 0, 0⟩, slice r m r.length, rfl, by rw [hsl2]; omega, hown4, (unhide HM2).pushed hg4 (unhide HO2), by omega, by omega, readR_map (unhide HTO) (unhide HR) (unhide HTF) (unhide HC).symm, (((hbel.trans (hb1.mono hbel.size)).alloc hbw _).trans hb2).trans hb4, by omega⟩
              case measure => simp [strLen]; omega
            · have hrd : read dict s = none := by rw [unhide HTO, readR_bad (unhide HR) (unhide HTF) (by rw [← unhide HC]; exact hc0)]; rfl
              have HRD := hide hrd
              have z1 : ((c : Int) == 0) = false := by rw [beq_eq_false_iff_ne]; omega
              have z2 : ((c : Int) != 0) = true := by rw [bne_iff_ne]; omega
              clear hrd hc0
              go_wp2_with fail
              refine (unhide C1 _).mono ?_
              rintro e w1 ⟨rfl, hb1⟩
              have hbw := Nat.le_trans hbel.size hb1.size
              have HM1 := hide (((unhide HMK).kept hb1).alloc (.cells #[S (slice r 0 m), I 0, I 0] 80))
              go_wp2_with fail
              refine (unhide C2 _ (unhide HM1)).mono ?_
              rintro e w2 ⟨rfl, _, hb2, _⟩
              go_wp2_with fail
              try rw [Exit.noGoto_ret]
              go_ret2
              exact ⟨ReadRes.no (unhide HRD), ((hbel.trans (hb1.mono hbel.size)).alloc hbw _).trans hb2⟩
        · have he2 : (q : Int) % 2 = 1 := by omega
          have he3 : ((1 : Int) == 0) = false := rfl
          cases hk2 : take r with
          | none =>
            have C2 := hide (fun W => take_no hk2 W (by omega))
            have hrd : read dict s = none := by rw [unhide HTO, readR_none (unhide HR) (tokFrom_oddno hk he hk2)]; rfl
            have HRD := hide hrd
            clear hrd hk hm he hk2
            go_wp2_with fail
            refine (unhide C1 _).mono ?_
            rintro e w1 ⟨rfl, hb1⟩
            have hbw := Nat.le_trans hbel.size hb1.size
            go_wp2_with fail
            refine (unhide C2 _).mono ?_
            rintro e w2 ⟨rfl, hb2⟩
            obtain ⟨K0, K1, K2, F0, F1, F2⟩ := block_cells ((hb2.block w1.heap.size (by simp)).trans (heap_alloc_new w1 (.cells #[S [], I 0, I m] 80)))
            go_wp2_with fail
            try rw [Exit.noGoto_ret]
            go_ret2
            exact ⟨ReadRes.no (unhide HRD), (((hbel.trans (hb1.mono hbel.size)).alloc hbw _).trans (hb2.mono (by simp; omega))).setCell (by simpa using hbw) _⟩
          | some p2 =>
            obtain ⟨f, r2⟩ := p2
            have C2 := hide (fun W => take_ok hk2 W (by omega))
            have hr2len := Pl.take_len hk2
            have htf := tokFrom_odd hk he hk2
            rw [← hm] at htf
            have HTF := hide htf
            obtain ⟨c, hc⟩ : ∃ c, c = tokE dict.length mm lit ⟨[], (f : Nat), (m : Nat)⟩ := ⟨_, rfl⟩
            have c2 := fun (W : World) (h : Mk W w.heap.size (w.heap.size + 1) dict.length lit mm) => tok_any w.heap.size (w.heap.size + 1) dict.length lit mm ⟨[], (f : Nat), (m : Nat)⟩ W h (by omega) hm2 hd
            rw [← hc] at c2
            have C3 := hide c2
            have HC := hide hc
            clear hk hm he hk2 htf c2 hc
            by_cases hc0 : c = 0
            · subst hc0
              go_wp2_with fail
              refine (unhide C1 _).mono ?_
              rintro e w1 ⟨rfl, hb1⟩
              have hbw := Nat.le_trans hbel.size hb1.size
              have hz1 := hb1.size
              go_wp2_with fail
              refine (unhide C2 _).mono ?_
              rintro e w2 ⟨rfl, hb2⟩
              have B0 := (hb2.block w1.heap.size (by simp)).trans (heap_alloc_new w1 (.cells #[S [], I 0, I m] 80))
              obtain ⟨K0, K1, K2, F0, F1, F2⟩ := block_cells B0
              have B1 := set_row B0 1 (I f)
              have HM1 := hide (((((unhide HMK).kept hb1).alloc _).kept hb2).set_far (p := ⟨w1.heap.size, 1, none⟩) (by show w.heap.size + 1 ≠ w1.heap.size; omega) (I f) B0 (by decide))
              have HO1 := hide (show (w2.setCell ⟨w1.heap.size, 1, none⟩ (I f)).ownsRow w.heap.size 80 3 (.slice A n cap) n (toksCells o) from by
                have h1 := own_below (unhide HOWN) hb1
                have h2 := own_below (h1.alloc _) hb2
                exact row_keep h2 fun g hg => Below.heap_setCell _ _ _ _ (by have := (h1.lt g hg).2; simp; omega))
              have HB1 := hide B1
              clear B0 B1
              go_wp2_with fail
              refine (unhide C3 _ (unhide HM1)).mono ?_
              rintro e w3 ⟨rfl, hmk3, hb3, hk3⟩
              have hmk3 := hmk3 (by first | trivial | exact (unhide HC).symm)
              have HM3 := hide hmk3
              obtain ⟨L0, L1, L2, _, _, _⟩ := block_cells (hk3.block w1.heap.size _ (unhide HB1) rfl)
              have HO3 := hide (hk3.ownsRow (unhide HO1) (fun _ _ => rfl))
              have hz2 := hb2.size
              have hz3 := hb3.size
              have hz4 : w2.heap.size ≤ w3.heap.size := by simpa [size_setCell] using hz3
              have hz5 : w1.heap.size + 1 ≤ w2.heap.size := by simpa using hz2
              have HG := hide (tokS_grow (unhide HC).symm (show dict.length ≤ mm.length by omega))
              clear hmk3 hz3 hz2
              go_wp2_with (at_builtin; refine wpList_push_tok_at rfl (.tmp 73) (.tmp 75) rfl w.heap.size _ n o rfl (unhide HO3) [] f m w3.heap.size rfl rfl (by omega) (by omega) ?_; intro A4 cap4 w4 hown4 hb4 hg4)
              go_roundw
              case rel =>
                have hg := unhide HG
                have hlb := hb4.size
                exact ⟨n + 1, o ++ [⟨[], f, m⟩], _, tokS mm ⟨[], (f : Nat), (m : Nat)⟩, r2, rfl, by omega, hown4, (unhide HM3).pushed hg4 (unhide HO3), by omega, by omega, readR_map (unhide HTO) (unhide HR) (unhide HTF) (unhide HC).symm, (((((hbel.trans (hb1.mono hbel.size)).alloc hbw _).trans (hb2.mono (by simp; omega))).setCell (by simpa using hbw) _).trans hb3).trans hb4, by omega⟩
              case measure => simp [strLen]; omega
            · have hrd : read dict s = none := by rw [unhide HTO, readR_bad (unhide HR) (unhide HTF) (by rw [← unhide HC]; exact hc0)]; rfl
              have HRD := hide hrd
              have z1 : ((c : Int) == 0) = false := by rw [beq_eq_false_iff_ne]; omega
              have z2 : ((c : Int) != 0) = true := by rw [bne_iff_ne]; omega
              clear hrd hc0
              go_wp2_with fail
              refine (unhide C1 _).mono ?_
              rintro e w1 ⟨rfl, hb1⟩
              have hbw := Nat.le_trans hbel.size hb1.size
              have hz1 := hb1.size
              go_wp2_with fail
              refine (unhide C2 _).mono ?_
              rintro e w2 ⟨rfl, hb2⟩
              have B0 := (hb2.block w1.heap.size (by simp)).trans (heap_alloc_new w1 (.cells #[S [], I 0, I m] 80))
              obtain ⟨K0, K1, K2, F0, F1, F2⟩ := block_cells B0
              have HM1 := hide (((((unhide HMK).kept hb1).alloc _).kept hb2).set_far (p := ⟨w1.heap.size, 1, none⟩) (by show w.heap.size + 1 ≠ w1.heap.size; omega) (I f) B0 (by decide))
              clear B0
              go_wp2_with fail
              refine (unhide C3 _ (unhide HM1)).mono ?_
              rintro e w3 ⟨rfl, _, hb3, _⟩
              go_wp2_with fail
              try rw [Exit.noGoto_ret]
              go_ret2
              exact ⟨ReadRes.no (unhide HRD), ((((hbel.trans (hb1.mono hbel.size)).alloc hbw _).trans (hb2.mono (by simp; omega))).setCell (by simpa using hbw) _).trans hb3⟩

set_option maxRecDepth 100000 in
theorem read_many_walk (dict s : Bytes) (w : World) (hd : 256 < dict.length) (hd2 : dict.length ≤ 9223372036854775807) :
    Calls Try.prog 33 #[S dict, S s] w fun e w' => e = .returned (.tuple #[.slice none 0 0, I 2]) ∧ Below w.heap.size w w' := by
  have d1 : decide ((dict.length : Int) > 256) = true := by simp; omega
  go_enter Try.func33, Try.ntmps33
  go_wp2_with fail
  go_step3
  go_wp2_with fail
  try rw [Exit.noGoto_ret]
  go_ret2
  exact ⟨rfl, Below.refl _ _⟩

end Go.Proofs.Ytgfkkjcnnecefaa
