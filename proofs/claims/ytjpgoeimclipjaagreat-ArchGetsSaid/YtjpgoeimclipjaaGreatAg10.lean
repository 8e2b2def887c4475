/- Parts of a proof. -/
import Derived.Test.YtjpgoeimclipjaaGreatAg9
import Derived.Test.YtjpgoeimclipjaaGreatShelfC
import Derived.Laws.RangeAny
import Derived.Laws.RangeString
import Derived.Lib.TrimU
namespace Go.Proofs.YtjpgoeimclipjaaGreat
open Go.RowKit Go.Lib Pl
attribute [local go_sem] ext_list app_list
theorem Mk.kept {w w' : World} {base M d : Nat} {lit : Bool} {s : Bytes} (h : Mk w base M d lit s) (hb : Below w.heap.size w w') : Mk w' base M d lit s := by
  obtain ⟨h0, A, cap, hblk, hown⟩ := h
  exact ⟨h0, A, cap, (hb.block M (Array.getElem?_eq_some_iff.1 hblk).1).trans hblk, hown.kept fun k hk => hb.block k (hown.lt k hk).2⟩
theorem Mk.set_far {w : World} {base M d : Nat} {lit : Bool} {s : Bytes} (h : Mk w base M d lit s) {p : Addr} (hM : M ≠ p.block) (u : Value) {cs : Array Value} {t : TypeId} {fz : Nat × Nat} (hp : w.heap[p.block]? = some (.cells cs t fz)) (ht : t ≠ 5) :
    Mk (w.setCell p u) base M d lit s := by
  obtain ⟨h0, A, cap, hblk, hown⟩ := h
  refine ⟨h0, A, cap, (Below.heap_setCell w p u M hM).trans hblk, hown.setCell (fun e => ?_) u⟩
  rcases hown.2 with ⟨hv, _⟩ | ⟨g, cap', cur, fz', hv, _, hgg, _⟩
  · rw [hv] at e; simp [Value.ownBlock] at e
  · rw [hv] at e
    simp [Value.ownBlock] at e
    rw [e, hp] at hgg
    injection hgg with hgg; injection hgg with _ h2 _
    exact ht h2
/-- rows of toks -/
def badT : Obj → Bool
  | .cells _ t _ => t == 183
  | _ => false
theorem Mk.keeps {w w' : World} {base M d : Nat} {lit : Bool} {s : Bytes} (h : Mk w base M d lit s) (hk : Keeps badT w w') : Mk w' base M d lit s := by
  obtain ⟨h0, A, cap, hblk, hown⟩ := h
  exact ⟨h0, A, cap, hk.block M _ hblk rfl, hk.own hown (fun _ _ => rfl)⟩
theorem Mk.pushed {w w' : World} {o : Obj} {base M d n : Nat} {lit : Bool} {s : Bytes} {v : Value} {xs : List Value} {b2 : Nat} (h : Mk w base M d lit s) (hg : (w.alloc o).grownBy w' v.ownBlock) (hown : w.ownsRow b2 183 3 v n xs) : Mk w' base M d lit s := by
  refine h.keeps (((Keeps.refl _ _).alloc o).grown hg fun g hgv => ?_)
  rcases hown.2 with ⟨rfl, _⟩ | ⟨g', cap', cur, rfl, _, hgg, _⟩
  · simp [Value.ownBlock] at hgv
  · simp [Value.ownBlock] at hgv
    subst hgv
    exact ⟨_, (Below.heap_alloc w o g' (Array.getElem?_eq_some_iff.1 hgg).1).trans hgg, rfl⟩
/-- what Read hands back -/
def ReadRes (w' : World) (e : Ending) (r : Option (List Tok)) : Prop :=
  ∃ v err, e = .returned (.tuple #[v, .int .i64 err]) ∧ ((err = 1 ∧ v = .slice none 0 0 ∧ r = none) ∨ (err = 0 ∧ ∃ l, r = some l ∧ ToksV w' v l))
theorem ReadRes.no {w' : World} {r : Option (List Tok)} (h : r = none) : ReadRes w' (.returned (.tuple #[.slice none 0 0, .int .i64 1])) r := ⟨_, _, rfl, .inl ⟨rfl, rfl, h⟩⟩
def ReadRel (w wr : World) (dict s : Bytes) (v sv : Value) : Prop :=
  ∃ (n : Nat) (o : List Tok) (lit : Bool) (mm rest : Bytes), sv = S rest ∧ rest.length ≤ s.length ∧ wr.ownsRow w.heap.size 183 3 v n (toksCells o) ∧ Mk wr w.heap.size (w.heap.size + 1) dict.length lit mm ∧
    dict.length + n ≤ mm.length ∧ mm.length ≤ dict.length + 512 ∧ read dict s = (readR dict.length mm lit rest).map (o ++ ·) ∧ Below w.heap.size w wr ∧ w.heap.size + 2 ≤ wr.heap.size
theorem readR_map {d : Nat} {m rest r : Bytes} {b : Bool} {o : List Tok} {t : Tok} {x : Option (List Tok)} (h : x = (readR d m b rest).map (o ++ ·)) (hs : rest ≠ []) (ht : tokFrom rest = some (t, r)) (he : tokE d m b t = 0) :
    x = (readR d (tokS m t) (isLit t) r).map ((o ++ [t]) ++ ·) := by
  rw [h, readR_some hs ht he, Option.map_map]
  congr 1
  funext x; simp
theorem block_cells {w : World} {g : Nat} {a b c : Value} {t : TypeId} (h : w.heap[g]? = some (.cells #[a, b, c] t (0, 0))) :
    w.cell? ⟨g, 0, none⟩ = some a ∧ w.cell? ⟨g, 1, none⟩ = some b ∧ w.cell? ⟨g, 2, none⟩ = some c ∧ w.frozen? ⟨g, 0, none⟩ = false ∧ w.frozen? ⟨g, 1, none⟩ = false ∧ w.frozen? ⟨g, 2, none⟩ = false :=
  ⟨by rw [cell_of_row w _ 0 _ _ _ h]; rfl, by rw [cell_of_row w _ 1 _ _ _ h]; rfl, by rw [cell_of_row w _ 2 _ _ _ h]; rfl, free_row w _ 0 _ _ h, free_row w _ 1 _ _ h, free_row w _ 2 _ _ h⟩
set_option maxHeartbeats 4000000 in
set_option maxRecDepth 100000 in
theorem read_walk (dict s : Bytes) (w : World) (hd : dict.length ≤ 256) (hs : s.length ≤ 4611686018427387904) :
    Calls Tryz.prog 162 #[S dict, S s] w fun e w' => ReadRes w' e (read dict s) ∧ Below w.heap.size w w' := by
  have kb := fun (W : World) => run_bytes_of_string (P := Tryz.prog) W 9 77 5 ⟨dict.toArray⟩ Tryz.underlying9 Tryz.underlying77 Tryz.underlying5
  go_enter Tryz.func162, Tryz.ntmps162
  go_wp2_with fail
  go_step3
  go_wp2_with fail
  go_step3
  go_wp2_with fail
  go_loopw [7, 1] (fun v sv wr => ReadRel w wr dict s v sv) (fun _ sv _ => strLen sv)
  case atStart =>
    refine ⟨0, [], false, dict, s, rfl, Nat.le_refl _, World.ownsRow_nil _ _ _ _, Mk.made w _ dict (Nat.le_refl _) (by omega), by omega, by omega, by unfold Pl.read readR; simp, ((Below.refl _ _).drew.alloc (Nat.le_refl _) _).alloc (by simp) _, by simp⟩
  case round =>
    obtain ⟨n, o, lit, mm, rest, rfl, hrl, hown, hMk, hm1, hm2, hto, hbel, hz0⟩ := hrel
    obtain ⟨A, cap, rfl⟩ := own_slice hown
    have HTO := hide hto
    have HOWN := hide hown
    have HMK := hide hMk
    clear hto hown hMk
    by_cases hr : rest = []
    · subst hr
      have hrd : read dict s = some o := by rw [unhide HTO, readR_nil]; simp
      have HRD := hide hrd
      clear hrd
      go_wp2_with fail
      try rw [Exit.noGoto_ret]
      go_ret2
      obtain ⟨A', cap', hAe, hat, hlen⟩ := toksAt_of_own (unhide HOWN)
      exact ⟨⟨_, _, rfl, .inr ⟨rfl, o, unhide HRD, A', n, cap', hAe, hat⟩⟩, hbel⟩
    · have hr1 : rest.isEmpty = false := by simpa using hr
      have hr2 : (rest == []) = false := by simpa using hr
      have HR := hide hr
      have hsl : rest.length ≤ 9223372036854775807 := by omega
      clear hr
      cases hk : take rest with
      | none =>
        have C1 := hide (fun W => take_no hk W hsl)
        have hrd : read dict s = none := by rw [unhide HTO, readR_none (unhide HR) (tokFrom_none hk)]; rfl
        have HRD := hide hrd
        clear hrd hk
        go_wp2_with fail
        refine (unhide C1 _).mono ?_
        rintro e w1 ⟨rfl, hb1⟩
        go_wp2_with fail
        try rw [Exit.noGoto_ret]
        go_ret2
        exact ⟨ReadRes.no (unhide HRD), (hbel.trans (hb1.mono hbel.size)).alloc (Nat.le_trans hbel.size hb1.size) _⟩
      | some p =>
        obtain ⟨q, r⟩ := p
        have C1 := hide (fun W => take_ok hk W hsl)
        have hq : q ≤ 2147483647 := (take_some hk).2
        have hrlen := Pl.take_len hk
        obtain ⟨m, hm⟩ : ∃ m, m = q / 2 := ⟨_, rfl⟩
        have hm2' : (q : Int) / 2 = (m : Int) := by omega
        have hmb : m ≤ 1073741824 := by omega
        by_cases he : q % 2 = 0
        · have he2 : (q : Int) % 2 = 0 := by omega
          by_cases hsh : r.length < m
          · have hrd : read dict s = none := by rw [unhide HTO, readR_none (unhide HR) (tokFrom_short hk he (by omega))]; rfl
            have HRD := hide hrd
            have hsh2 : decide (r.length < m) = true := by simp; omega
            clear hrd hk hm he
            go_wp2_with fail
            refine (unhide C1 _).mono ?_
            rintro e w1 ⟨rfl, hb1⟩
            go_wp2_with fail
            try rw [Exit.noGoto_ret]
            go_ret2
            exact ⟨ReadRes.no (unhide HRD), (hbel.trans (hb1.mono hbel.size)).alloc (Nat.le_trans hbel.size hb1.size) _⟩
          · have hsh2 : decide (r.length < m) = false := by simp; omega
            have htf := tokFrom_even hk he (by omega)
            rw [← hm] at htf
            have HTF := hide htf
            have hsl2 := slice_len r m r.length
            obtain ⟨c, hc⟩ : ∃ c, c = tokE dict.length mm lit ⟨slice r 0 m, 0, 0⟩ := ⟨_, rfl⟩
            have c2 := fun (W : World) (h : Mk W w.heap.size (w.heap.size + 1) dict.length lit mm) => tok_any w.heap.size (w.heap.size + 1) dict.length lit mm ⟨slice r 0 m, 0, 0⟩ W h (by omega) hm2 hd
            rw [← hc] at c2
            have C2 := hide c2
            have HC := hide hc
            clear hk hm he htf c2 hc
            by_cases hc0 : c = 0
            · subst hc0
              go_wp2_with fail
              refine (unhide C1 _).mono ?_
              rintro e w1 ⟨rfl, hb1⟩
              have hbw := Nat.le_trans hbel.size hb1.size
              have HM1 := hide (((unhide HMK).kept hb1).alloc (.cells #[S (slice r 0 m), I 0, I 0] 183))
              have HO1 := hide ((own_below (unhide HOWN) hb1).alloc (.cells #[S (slice r 0 m), I 0, I 0] 183))
              go_wp2_with fail
              refine (unhide C2 _ (unhide HM1)).mono ?_
              rintro e w2 ⟨rfl, hmk2, hb2, hk2⟩
              have hmk2 := hmk2 (by first | trivial | exact (unhide HC).symm)
              have HM2 := hide hmk2
              obtain ⟨K0, K1, K2, _, _, _⟩ := block_cells (hk2.block w1.heap.size _ (heap_alloc_new w1 (.cells #[S (slice r 0 m), I 0, I 0] 183)) rfl)
              have HO2 := hide (hk2.ownsRow (unhide HO1) (fun _ _ => rfl))
              have hz2 := hb2.size
              have HG := hide (tokS_grow (unhide HC).symm (show dict.length ≤ mm.length by omega))
              clear hmk2
              go_wp2_with (at_builtin; refine wpList_push_tok_at rfl (.tmp 73) (.tmp 75) rfl w.heap.size _ n o rfl (unhide HO2) (slice r 0 m) 0 0 w2.heap.size rfl rfl (by omega) (by simp at hz2; omega) ?_; intro A4 cap4 w4 hown4 hb4 hg4)
              go_roundw
              case rel =>
                have hg := unhide HG
                have hlb := hb4.size
                have hz1 := hb1.size
                simp at hz2
                exact ⟨n + 1, o ++ [⟨slice r 0 m, 0, 0⟩], _, tokS mm ⟨slice r 0 m, 0, 0⟩, slice r m r.length, rfl, by rw [hsl2]; omega, hown4, (unhide HM2).pushed hg4 (unhide HO2), by omega, by omega, readR_map (unhide HTO) (unhide HR) (unhide HTF) (unhide HC).symm, (((hbel.trans (hb1.mono hbel.size)).alloc hbw _).trans hb2).trans hb4, by omega⟩
              case measure => simp [strLen]; omega
            · have hrd : read dict s = none := by rw [unhide HTO, readR_bad (unhide HR) (unhide HTF) (by rw [← unhide HC]; exact hc0)]; rfl
              have HRD := hide hrd
              have z1 : ((c : Int) == 0) = false := by rw [beq_eq_false_iff_ne]; omega
              have z2 : ((c : Int) != 0) = true := by rw [bne_iff_ne]; omega
              clear hrd hc0
              go_wp2_with fail
              refine (unhide C1 _).mono ?_
              rintro e w1 ⟨rfl, hb1⟩
              have hbw := Nat.le_trans hbel.size hb1.size
              have HM1 := hide (((unhide HMK).kept hb1).alloc (.cells #[S (slice r 0 m), I 0, I 0] 183))
              go_wp2_with fail
              refine (unhide C2 _ (unhide HM1)).mono ?_
              rintro e w2 ⟨rfl, _, hb2, _⟩
              go_wp2_with fail
              try rw [Exit.noGoto_ret]
              go_ret2
              exact ⟨ReadRes.no (unhide HRD), ((hbel.trans (hb1.mono hbel.size)).alloc hbw _).trans hb2⟩
        · have he2 : (q : Int) % 2 = 1 := by omega
          have he3 : ((1 : Int) == 0) = false := rfl
          cases hk2 : take r with
          | none =>
            have C2 := hide (fun W => take_no hk2 W (by omega))
            have hrd : read dict s = none := by rw [unhide HTO, readR_none (unhide HR) (tokFrom_oddno hk he hk2)]; rfl
            have HRD := hide hrd
            clear hrd hk hm he hk2
            go_wp2_with fail
            refine (unhide C1 _).mono ?_
            rintro e w1 ⟨rfl, hb1⟩
            have hbw := Nat.le_trans hbel.size hb1.size
            go_wp2_with fail
            refine (unhide C2 _).mono ?_
            rintro e w2 ⟨rfl, hb2⟩
            obtain ⟨K0, K1, K2, F0, F1, F2⟩ := block_cells ((hb2.block w1.heap.size (by simp)).trans (heap_alloc_new w1 (.cells #[S [], I 0, I m] 183)))
            go_wp2_with fail
            try rw [Exit.noGoto_ret]
            go_ret2
            exact ⟨ReadRes.no (unhide HRD), (((hbel.trans (hb1.mono hbel.size)).alloc hbw _).trans (hb2.mono (by simp; omega))).setCell (by simpa using hbw) _⟩
          | some p2 =>
            obtain ⟨f, r2⟩ := p2
            have C2 := hide (fun W => take_ok hk2 W (by omega))
            have hr2len := Pl.take_len hk2
            have htf := tokFrom_odd hk he hk2
            rw [← hm] at htf
            have HTF := hide htf
            obtain ⟨c, hc⟩ : ∃ c, c = tokE dict.length mm lit ⟨[], (f : Nat), (m : Nat)⟩ := ⟨_, rfl⟩
            have c2 := fun (W : World) (h : Mk W w.heap.size (w.heap.size + 1) dict.length lit mm) => tok_any w.heap.size (w.heap.size + 1) dict.length lit mm ⟨[], (f : Nat), (m : Nat)⟩ W h (by omega) hm2 hd
            rw [← hc] at c2
            have C3 := hide c2
            have HC := hide hc
            clear hk hm he hk2 htf c2 hc
            by_cases hc0 : c = 0
            · subst hc0
              go_wp2_with fail
              refine (unhide C1 _).mono ?_
              rintro e w1 ⟨rfl, hb1⟩
              have hbw := Nat.le_trans hbel.size hb1.size
              have hz1 := hb1.size
              go_wp2_with fail
              refine (unhide C2 _).mono ?_
              rintro e w2 ⟨rfl, hb2⟩
              have B0 := (hb2.block w1.heap.size (by simp)).trans (heap_alloc_new w1 (.cells #[S [], I 0, I m] 183))
              obtain ⟨K0, K1, K2, F0, F1, F2⟩ := block_cells B0
              have B1 := set_row B0 1 (I f)
              have HM1 := hide (((((unhide HMK).kept hb1).alloc _).kept hb2).set_far (p := ⟨w1.heap.size, 1, none⟩) (by show w.heap.size + 1 ≠ w1.heap.size; omega) (I f) B0 (by decide))
              have HO1 := hide (show (w2.setCell ⟨w1.heap.size, 1, none⟩ (I f)).ownsRow w.heap.size 183 3 (.slice A n cap) n (toksCells o) from by
                have h1 := own_below (unhide HOWN) hb1
                have h2 := own_below (h1.alloc _) hb2
                exact row_keep h2 fun g hg => Below.heap_setCell _ _ _ _ (by have := (h1.lt g hg).2; simp; omega))
              have HB1 := hide B1
              clear B0 B1
              go_wp2_with fail
              refine (unhide C3 _ (unhide HM1)).mono ?_
              rintro e w3 ⟨rfl, hmk3, hb3, hk3⟩
              have hmk3 := hmk3 (by first | trivial | exact (unhide HC).symm)
              have HM3 := hide hmk3
              obtain ⟨L0, L1, L2, _, _, _⟩ := block_cells (hk3.block w1.heap.size _ (unhide HB1) rfl)
              have HO3 := hide (hk3.ownsRow (unhide HO1) (fun _ _ => rfl))
              have hz2 := hb2.size
              have hz3 := hb3.size
              have hz4 : w2.heap.size ≤ w3.heap.size := by simpa [size_setCell] using hz3
              have hz5 : w1.heap.size + 1 ≤ w2.heap.size := by simpa using hz2
              have HG := hide (tokS_grow (unhide HC).symm (show dict.length ≤ mm.length by omega))
              clear hmk3 hz3 hz2
              go_wp2_with (at_builtin; refine wpList_push_tok_at rfl (.tmp 73) (.tmp 75) rfl w.heap.size _ n o rfl (unhide HO3) [] f m w3.heap.size rfl rfl (by omega) (by omega) ?_; intro A4 cap4 w4 hown4 hb4 hg4)
              go_roundw
              case rel =>
                have hg := unhide HG
                have hlb := hb4.size
                exact ⟨n + 1, o ++ [⟨[], f, m⟩], _, tokS mm ⟨[], (f : Nat), (m : Nat)⟩, r2, rfl, by omega, hown4, (unhide HM3).pushed hg4 (unhide HO3), by omega, by omega, readR_map (unhide HTO) (unhide HR) (unhide HTF) (unhide HC).symm, (((((hbel.trans (hb1.mono hbel.size)).alloc hbw _).trans (hb2.mono (by simp; omega))).setCell (by simpa using hbw) _).trans hb3).trans hb4, by omega⟩
              case measure => simp [strLen]; omega
            · have hrd : read dict s = none := by rw [unhide HTO, readR_bad (unhide HR) (unhide HTF) (by rw [← unhide HC]; exact hc0)]; rfl
              have HRD := hide hrd
              have z1 : ((c : Int) == 0) = false := by rw [beq_eq_false_iff_ne]; omega
              have z2 : ((c : Int) != 0) = true := by rw [bne_iff_ne]; omega
              clear hrd hc0
              go_wp2_with fail
              refine (unhide C1 _).mono ?_
              rintro e w1 ⟨rfl, hb1⟩
              have hbw := Nat.le_trans hbel.size hb1.size
              have hz1 := hb1.size
              go_wp2_with fail
              refine (unhide C2 _).mono ?_
              rintro e w2 ⟨rfl, hb2⟩
              have B0 := (hb2.block w1.heap.size (by simp)).trans (heap_alloc_new w1 (.cells #[S [], I 0, I m] 183))
              obtain ⟨K0, K1, K2, F0, F1, F2⟩ := block_cells B0
              have HM1 := hide (((((unhide HMK).kept hb1).alloc _).kept hb2).set_far (p := ⟨w1.heap.size, 1, none⟩) (by show w.heap.size + 1 ≠ w1.heap.size; omega) (I f) B0 (by decide))
              clear B0
              go_wp2_with fail
              refine (unhide C3 _ (unhide HM1)).mono ?_
              rintro e w3 ⟨rfl, _, hb3, _⟩
              go_wp2_with fail
              try rw [Exit.noGoto_ret]
              go_ret2
              exact ⟨ReadRes.no (unhide HRD), ((((hbel.trans (hb1.mono hbel.size)).alloc hbw _).trans (hb2.mono (by simp; omega))).setCell (by simpa using hbw) _).trans hb3⟩
end Go.Proofs.YtjpgoeimclipjaaGreat
namespace Go.Proofs.YtjpgoeimclipjaaGreat
open Go.RowKit Go.Lib Pl
attribute [local go_sem] ext_list app_list
theorem decoded_len {s x : Bytes} (h : decoded s = some x) : x.length ≤ 1024 := by
  unfold decoded at h
  split at h
  · cases h
  · unfold decodeO at h
    split at h
    · cases h
    · split at h
      · rename_i he
        obtain ⟨h1, _, _⟩ := code_write_read he
        cases h
        exact (writeE_parts h1).2.1
      · cases h
set_option maxHeartbeats 4000000 in
set_option maxRecDepth 100000 in
theorem unpack_any (dict b : Bytes) (w : World) (hd : dict.length ≤ 256) (hb : b.length ≤ 140737488355328) :
    Calls Tryz.prog 136 #[S dict, S b] w fun e w' => TextRes (unpackO dict b) e ∧ Below w.heap.size w w' := by
  cases b with
  | nil =>
    go_enter Tryz.func136, Tryz.ntmps136
    go_wp2_with fail
    go_ret2
    exact ⟨.inr ⟨1, rfl, by decide, rfl⟩, Below.refl _ _⟩
  | cons k s =>
    have hsl : s.length ≤ 4611686018427387904 := by rw [List.length_cons] at hb; omega
    have hsl2 : s.length ≤ 140737488355328 := by rw [List.length_cons] at hb; omega
    have n1 : ((k :: s) == []) = false := rfl
    have n2 : slice (k :: s) 1 (k :: s).length = s := by rw [slice_end]; rfl
    have n2b : slice (k :: s) 1 (s.length + 1) = s := n2
    have n3 : (0 : Nat) < (k :: s).length := by simp
    have n4 : (⟨(k :: s).toArray⟩ : ByteArray)[0]'n3 = k := rfl
    have n5 : (1 : Nat) ≤ (k :: s).length := by simp
    have hk256 := k.toNat_lt
    have e0 : k = 0 ↔ k.toNat = 0 := ⟨fun e => by rw [e]; rfl, fun e => UInt8.toNat_inj.1 e⟩
    have e1 : k = 1 ↔ k.toNat = 1 := ⟨fun e => by rw [e]; rfl, fun e => UInt8.toNat_inj.1 e⟩
    have e2 : k = 2 ↔ k.toNat = 2 := ⟨fun e => by rw [e]; rfl, fun e => UInt8.toNat_inj.1 e⟩
    have hb0 := Below.refl w.heap.size w
    have HB0 := hide hb0
    by_cases h0 : k = 0
    · have z0 : (k.toNat : Int) = 0 := by have := e0.1 h0; omega
      by_cases h512 : s.length ≤ 512
      · have HO := hide (show unpackO dict (k :: s) = some s by rw [unpackO, if_pos h0, if_pos h512])
        clear e0 e1 e2 h0 hb0
        go_enter Tryz.func136, Tryz.ntmps136
        go_wp2_with fail
        go_ret2
        rw [unhide HO]
        exact ⟨.inl ⟨s, rfl, rfl⟩, unhide HB0⟩
      · have HO := hide (show unpackO dict (k :: s) = none by rw [unpackO, if_pos h0, if_neg h512])
        clear e0 e1 e2 h0 hb0
        go_enter Tryz.func136, Tryz.ntmps136
        go_wp2_with fail
        go_ret2
        rw [unhide HO]
        exact ⟨.inr ⟨1, rfl, by decide, rfl⟩, unhide HB0⟩
    · have f0 : ((k.toNat : Int) == 0) = false := by rw [beq_eq_false_iff_ne]; intro e; exact h0 (e0.2 (by omega))
      by_cases h1 : k = 1
      · have z1 : ((k.toNat : Int) == 1) = true := by rw [beq_iff_eq]; have := e1.1 h1; omega
        have hun : unpackO dict (k :: s) = playO dict s := by rw [unpackO, if_neg h0, if_pos h1]
        clear e0 e1 e2 h0 h1 hb0
        go_enter Tryz.func136, Tryz.ntmps136
        cases hrd : read dict s with
        | none =>
          have c2 := fun (W : World) => read_walk dict s W hd hsl
          rw [hrd] at c2
          have c2 := hide c2
          have HO := hide (show unpackO dict (k :: s) = none by rw [hun]; unfold playO; rw [hrd]; rfl)
          clear hrd
          go_wp2_with fail
          refine (unhide c2 _).mono ?_
          rintro e w2 ⟨⟨v, err, rfl, hv⟩, hb2⟩
          have H2 := hide ((unhide HB0).trans (hb2.mono (unhide HB0).size))
          clear hb2
          rcases hv with ⟨rfl, rfl, _⟩ | ⟨_, l, hl, _⟩
          · go_wp2_with fail
            go_ret2
            rw [unhide HO]
            exact ⟨.inr ⟨1, rfl, by decide, rfl⟩, unhide H2⟩
          · cases hl
        | some l =>
          have c2 := fun (W : World) => read_walk dict s W hd hsl
          rw [hrd] at c2
          have c2 := hide c2
          have hpl : (play dict l).2 = 0 := by
            have hw := write_read hd hrd
            by_cases e : (play dict l).2 = 0
            · exact e
            · unfold write at hw
              rw [if_pos e] at hw
              exact absurd (Prod.ext_iff.1 hw).2 e
          have hln := play_room hpl
          have c3 := fun (W : World) (A : Option Addr) (n cap : Nat) (h : ToksAt W W.heap.size A n l) => play_any dict A n cap l W h (by omega) (by have := h.1; omega)
          rw [hpl] at c3
          obtain ⟨t, ht⟩ : ∃ t, t = (play dict l).1 := ⟨_, rfl⟩
          rw [← ht] at c3
          have c3 := hide c3
          have HO := hide (show unpackO dict (k :: s) = some t by rw [hun]; unfold playO; rw [hrd, ht]; rfl)
          clear hrd hpl hln ht
          go_wp2_with fail
          refine (unhide c2 _).mono ?_
          rintro e w2 ⟨⟨v, err, rfl, hv⟩, hb2⟩
          have H2 := hide ((unhide HB0).trans (hb2.mono (unhide HB0).size))
          clear hb2
          rcases hv with ⟨_, _, hl⟩ | ⟨rfl, l', hl, A, n, cap, rfl, hat⟩
          · cases hl
          · cases hl
            have HAT := hide hat
            clear hat
            go_wp2_with fail
            refine (unhide c3 _ _ _ _ (unhide HAT)).mono ?_
            rintro e w3 ⟨rfl, hb3⟩
            have H3 := hide ((unhide H2).trans (hb3.mono (unhide H2).size))
            clear hb3
            go_wp2_with fail
            go_ret2
            rw [unhide HO]
            exact ⟨.inl ⟨t, rfl, rfl⟩, unhide H3⟩
      · have f1 : ((k.toNat : Int) == 1) = false := by rw [beq_eq_false_iff_ne]; intro e; exact h1 (e1.2 (by omega))
        by_cases h2 : k = 2
        · have z2 : ((k.toNat : Int) == 2) = true := by rw [beq_iff_eq]; have := e2.1 h2; omega
          have hun : unpackO dict (k :: s) = (decoded s).bind (playO dict) := by rw [unpackO, if_neg h0, if_neg h1, if_pos h2]
          have c1 := fun (W : World) => decoded_any s W hsl2
          clear e0 e1 e2 h0 h1 h2 hb0
          go_enter Tryz.func136, Tryz.ntmps136
          cases hdx : decoded s with
          | none =>
            rw [hdx] at c1
            have c1 := hide c1
            have HO := hide (show unpackO dict (k :: s) = none by rw [hun, hdx]; rfl)
            clear hdx hun
            go_wp2_with fail
            refine (unhide c1 _).mono ?_
            rintro e w1 ⟨hr, hb1⟩
            have H1 := hide hb1
            clear hb1
            rcases hr with ⟨t, ht, _⟩ | ⟨q, _, hq, rfl⟩
            · cases ht
            · have d1 : ((q : Int) != 0) = true := by rw [bne_iff_ne]; omega
              have d2 : ((q : Int) == 0) = false := by rw [beq_eq_false_iff_ne]; omega
              have HQ := hide hq
              clear hq
              go_wp2_with fail
              go_ret2
              rw [unhide HO]
              exact ⟨.inr ⟨q, rfl, unhide HQ, rfl⟩, unhide H1⟩
          | some x =>
            rw [hdx] at c1
            have c1 := hide c1
            have hxl : x.length ≤ 4611686018427387904 := by have := decoded_len hdx; omega
            go_wp2_with fail
            refine (unhide c1 _).mono ?_
            rintro e w1 ⟨hr, hb1⟩
            have H1 := hide hb1
            clear hb1
            rcases hr with ⟨t, ht, rfl⟩ | ⟨q, hq, _, _⟩
            · cases ht
              cases hrd : read dict x with
              | none =>
                have c2 := fun (W : World) => read_walk dict x W hd hxl
                rw [hrd] at c2
                have c2 := hide c2
                have HO := hide (show unpackO dict (k :: s) = none by rw [hun, hdx]; simp only [Option.bind_some]; unfold playO; rw [hrd]; rfl)
                clear hrd
                go_wp2_with fail
                refine (unhide c2 _).mono ?_
                rintro e w2 ⟨⟨v, err, rfl, hv⟩, hb2⟩
                have H2 := hide ((unhide H1).trans (hb2.mono (unhide H1).size))
                clear hb2
                rcases hv with ⟨rfl, rfl, _⟩ | ⟨_, l, hl, _⟩
                · go_wp2_with fail
                  go_ret2
                  rw [unhide HO]
                  exact ⟨.inr ⟨1, rfl, by decide, rfl⟩, unhide H2⟩
                · cases hl
              | some l =>
                have c2 := fun (W : World) => read_walk dict x W hd hxl
                rw [hrd] at c2
                have c2 := hide c2
                have hpl : (play dict l).2 = 0 := by
                  have hw := write_read hd hrd
                  by_cases e : (play dict l).2 = 0
                  · exact e
                  · unfold write at hw
                    rw [if_pos e] at hw
                    exact absurd (Prod.ext_iff.1 hw).2 e
                have hln := play_room hpl
                have c3 := fun (W : World) (A : Option Addr) (n cap : Nat) (h : ToksAt W W.heap.size A n l) => play_any dict A n cap l W h (by omega) (by have := h.1; omega)
                rw [hpl] at c3
                obtain ⟨t, ht⟩ : ∃ t, t = (play dict l).1 := ⟨_, rfl⟩
                rw [← ht] at c3
                have c3 := hide c3
                have HO := hide (show unpackO dict (k :: s) = some t by rw [hun, hdx]; simp only [Option.bind_some]; unfold playO; rw [hrd, ht]; rfl)
                clear hrd hpl hln ht
                go_wp2_with fail
                refine (unhide c2 _).mono ?_
                rintro e w2 ⟨⟨v, err, rfl, hv⟩, hb2⟩
                have H2 := hide ((unhide H1).trans (hb2.mono (unhide H1).size))
                clear hb2
                rcases hv with ⟨_, _, hl⟩ | ⟨rfl, l', hl, A, n, cap, rfl, hat⟩
                · cases hl
                · cases hl
                  have HAT := hide hat
                  clear hat
                  go_wp2_with fail
                  refine (unhide c3 _ _ _ _ (unhide HAT)).mono ?_
                  rintro e w3 ⟨rfl, hb3⟩
                  have H3 := hide ((unhide H2).trans (hb3.mono (unhide H2).size))
                  clear hb3
                  go_wp2_with fail
                  go_ret2
                  rw [unhide HO]
                  exact ⟨.inl ⟨t, rfl, rfl⟩, unhide H3⟩
            · cases hq
        · have f2 : ((k.toNat : Int) == 2) = false := by rw [beq_eq_false_iff_ne]; intro e; exact h2 (e2.2 (by omega))
          have HO := hide (show unpackO dict (k :: s) = none by rw [unpackO, if_neg h0, if_neg h1, if_neg h2])
          clear e0 e1 e2 h0 h1 h2 hb0
          go_enter Tryz.func136, Tryz.ntmps136
          go_wp2_with fail
          go_ret2
          rw [unhide HO]
          exact ⟨.inr ⟨1, rfl, by decide, rfl⟩, unhide HB0⟩
/-- Unpack: the text, and the error -/
def unpackE (dict b : Bytes) : Nat := if 256 < dict.length then 2 else if (unpackO dict b).isSome = true then 0 else 1
def unpackT (dict b : Bytes) : Bytes := if 256 < dict.length then [] else (unpackO dict b).getD []
set_option maxHeartbeats 1000000 in
set_option maxRecDepth 100000 in
theorem blockUnpack_any (dict b : Bytes) (w : World) (hd2 : dict.length ≤ 9223372036854775807) (hb : b.length ≤ 140737488355328) :
    Calls Tryz.prog 115 #[S dict, S b] w fun e w' => e = .returned (.tuple #[S (unpackT dict b), I (unpackE dict b)]) ∧ Below w.heap.size w w' := by
  by_cases hd : dict.length ≤ 256
  · have e1 : unpackE dict b = if (unpackO dict b).isSome = true then 0 else 1 := by unfold unpackE; rw [if_neg (by omega)]
    have e2 : unpackT dict b = (unpackO dict b).getD [] := by unfold unpackT; rw [if_neg (by omega)]
    rw [e1, e2]
    have c1 := fun (W : World) => unpack_any dict b W hd hb
    obtain ⟨o, ho⟩ : ∃ o, o = unpackO dict b := ⟨_, rfl⟩
    rw [← ho] at c1 ⊢
    have c1 := hide c1
    clear ho e1 e2
    go_enter Tryz.func115, Tryz.ntmps115
    go_wp2_with fail
    refine (unhide c1 _).mono ?_
    rintro e w1 ⟨hr, hb1⟩
    rcases hr with ⟨t, rfl, rfl⟩ | ⟨q, rfl, hq, rfl⟩
    · go_wp2_with fail
      go_ret2
      exact ⟨rfl, hb1⟩
    · have d1 : ((q : Int) != 0) = true := by rw [bne_iff_ne]; omega
      have d2 : ((q : Int) == 0) = false := by rw [beq_eq_false_iff_ne]; omega
      clear hq
      go_wp2_with fail
      go_ret2
      exact ⟨rfl, hb1⟩
  · have e1 : unpackE dict b = 2 := by unfold unpackE; rw [if_pos (by omega)]
    have e2 : unpackT dict b = [] := by unfold unpackT; rw [if_pos (by omega)]
    rw [e1, e2]
    have hd3 : (256 : Int) < (dict.length : Int) := by omega
    clear e1 e2
    go_enter Tryz.func115, Tryz.ntmps115
    go_wp2_with fail
    go_ret2
    exact ⟨rfl, Below.refl _ _⟩
end Go.Proofs.YtjpgoeimclipjaaGreat
namespace Go.Proofs.YtjpgoeimclipjaaGreat
open Go.RowKit Go.Lib Pl
attribute [local go_sem] ext_list app_list
/-- a file in a variable -/
structure FBox (f : Fil) (w wr : World) (B D : Nat) : Prop where
  o : wr.heap[D]? = some (.cells #[S f.name, I f.dict, I f.size, I f.sum, S f.block] 61 (0, 0))
  le : B ≤ D
  bel : Below B w wr
theorem FBox.lt {f : Fil} {w wr : World} {B D : Nat} (h : FBox f w wr B D) : D < wr.heap.size := (Array.getElem?_eq_some_iff.1 h.o).1
theorem FBox.below {f : Fil} {w wr w1 : World} {B D : Nat} (h : FBox f w wr B D) (hb : Below wr.heap.size wr w1) : FBox f w w1 B D :=
  ⟨(hb.block _ h.lt).trans h.o, h.le, h.bel.trans (hb.mono (Nat.le_of_lt (Nat.lt_of_le_of_lt h.le h.lt)))⟩
theorem FBox.c {f : Fil} {w wr : World} {B D : Nat} (h : FBox f w wr B D) : wr.cell? ⟨D, 0, none⟩ = some (S f.name) ∧ wr.cell? ⟨D, 1, none⟩ = some (I f.dict) ∧ wr.cell? ⟨D, 2, none⟩ = some (I f.size) ∧ wr.cell? ⟨D, 3, none⟩ = some (I f.sum) ∧ wr.cell? ⟨D, 4, none⟩ = some (S f.block) := by
  refine ⟨?_, ?_, ?_, ?_, ?_⟩ <;> (rw [cell_of_row _ _ _ _ _ _ h.o]; rfl)
theorem FBox.new (f : Fil) {w w1 : World} {B : Nat} (hb : Below B w w1) (hB : B ≤ w1.heap.size) : FBox f w (w1.alloc (.cells #[S f.name, I f.dict, I f.size, I f.sum, S f.block] 61)) B w1.heap.size :=
  ⟨heap_alloc_new _ _, hB, hb.alloc hB _⟩
/-- a text, and whether it is one -/
def IsRes (o : Option Bytes) (e : Ending) : Prop := (∃ t, o = some t ∧ e = .returned (.tuple #[S t, .bool true])) ∨ (∃ t : Bytes, o = none ∧ e = .returned (.tuple #[S t, .bool false]))
set_option maxHeartbeats 2000000 in
set_option maxRecDepth 100000 in
theorem text_any (A : Option Addr) (n cap : Nat) (A2 : Option Addr) (n2 cap2 : Nat) (a : Arc) (f : Fil) (w : World) (h : ArcIn w A n A2 n2 a) (hz : FilSz f) (hn : n ≤ 4611686018427387904) (hd : ∀ d ∈ a.ds, d.length ≤ 256) :
    Calls Tryz.prog 83 #[arcV A n cap A2 n2 cap2, filV f] w fun e w' => IsRes (textO a.ds f) e ∧ Below w.heap.size w w' := by
  obtain ⟨B, hB⟩ : ∃ B, B = w.heap.size := ⟨_, rfl⟩
  obtain ⟨w0, hw0⟩ : ∃ w0, w0 = (w.alloc (.cells #[.slice A n cap, .slice A2 n2 cap2] 33)).alloc (.cells #[S f.name, I f.dict, I f.size, I f.sum, S f.block] 61) := ⟨_, rfl⟩
  have hb1 : Below B w (w.alloc (.cells #[.slice A n cap, .slice A2 n2 cap2] 33)) := by rw [hB]; exact (Below.refl _ _).alloc (Nat.le_refl _) _
  have F0 := hide (show FBox f w w0 B (B + 1) by rw [hw0, hB]; have := FBox.new f hb1 (by rw [hB]; simp); rw [hB] at this; simpa using this)
  have c1 := fun (k : Int) (hk0 : -9223372036854775808 ≤ k) (hk1 : k ≤ 9223372036854775807) => dict_any A n cap A2 n2 cap2 a k w0 (by rw [hw0]; exact (h.alloc _).alloc _) hn hk0 hk1
  have c1 := hide (c1 f.dict hz.d0 hz.d1)
  have hs : (n : Int) = n := rfl
  have HB := hide hB
  have HW0 := hide hw0
  obtain ⟨o, ho⟩ : ∃ o, o = dictO a.ds f.dict := ⟨_, rfl⟩
  rw [← ho] at c1
  have htx : textO a.ds f = o.bind fun d => sizedO d f.block f.size f.sum := by unfold textO; rw [ho]
  have hol : ∀ d, o = some d → d.length ≤ 256 := fun d hd2 => dictO_len hd (ho.symm.trans hd2)
  have c2 := hide (fun (d : Bytes) (hd2 : d.length ≤ 9223372036854775807) (W : World) => blockUnpack_any d f.block W hd2 hz.bl)
  rw [htx]
  clear hB hw0 ho htx hb1 h
  cases o with
  | none =>
    go_enter Tryz.func83, Tryz.ntmps83
    go_upto_region 1 with fail
    rw [← unhide HW0, ← unhide HB]
    obtain ⟨q0, q1, q2, q3, q4⟩ := (unhide F0).c
    have g1 : w0.cell? ⟨B, 0, none⟩ = some (.slice A n cap) := by rw [unhide HW0, unhide HB, cell_of_row _ _ _ _ _ _ (heap_alloc2_old _ _ _)]; rfl
    have g2 : w0.cell? ⟨B, 1, none⟩ = some (.slice A2 n2 cap2) := by rw [unhide HW0, unhide HB, cell_of_row _ _ _ _ _ _ (heap_alloc2_old _ _ _)]; rfl
    go_wp2_with fail
    refine (unhide c1).mono ?_
    rintro e w1 ⟨rfl, hb1⟩
    have F1 := hide ((unhide F0).below hb1)
    clear hb1
    go_wp2_with fail
    go_ret2
    rw [← unhide HB]
    exact ⟨.inr ⟨[], rfl, rfl⟩, (unhide F1).bel⟩
  | some d =>
    have hdl := hol d rfl
    have c2 := unhide c2 d (by omega)
    have hue : unpackE d f.block = if (unpackO d f.block).isSome = true then 0 else 1 := if_neg (by omega)
    have hut : unpackT d f.block = (unpackO d f.block).getD [] := if_neg (by omega)
    rw [hue, hut] at c2
    have hsz : sizedO d f.block f.size f.sum = (unpackO d f.block).bind fun t => if (t.length : Int) = f.size ∧ ((sumOf t : Nat) : Int) = f.sum then some t else none := rfl
    have hul : ∀ t, unpackO d f.block = some t → t.length ≤ 512 := fun t ht => unpack_len ht
    obtain ⟨u, hu⟩ : ∃ u, u = unpackO d f.block := ⟨_, rfl⟩
    rw [← hu] at c2 hsz hul
    have HSZ := hide hsz
    clear hue hut hu hsz hol hdl
    cases u with
    | none =>
      have c2 := hide c2
      go_enter Tryz.func83, Tryz.ntmps83
      go_upto_region 1 with fail
      rw [← unhide HW0, ← unhide HB]
      obtain ⟨q0, q1, q2, q3, q4⟩ := (unhide F0).c
      have g1 : w0.cell? ⟨B, 0, none⟩ = some (.slice A n cap) := by rw [unhide HW0, unhide HB, cell_of_row _ _ _ _ _ _ (heap_alloc2_old _ _ _)]; rfl
      have g2 : w0.cell? ⟨B, 1, none⟩ = some (.slice A2 n2 cap2) := by rw [unhide HW0, unhide HB, cell_of_row _ _ _ _ _ _ (heap_alloc2_old _ _ _)]; rfl
      go_wp2_with fail
      refine (unhide c1).mono ?_
      rintro e w1 ⟨rfl, hb1⟩
      have F1 := hide ((unhide F0).below hb1)
      clear hb1 q0 q1 q2 q3 q4 g1 g2
      obtain ⟨q0, q1, q2, q3, q4⟩ := (unhide F1).c
      go_wp2_with fail
      refine (unhide c2 _).mono ?_
      rintro e w2 ⟨rfl, hb2⟩
      have F2 := hide ((unhide F1).below hb2)
      clear hb2 q0 q1 q2 q3 q4
      obtain ⟨q0, q1, q2, q3, q4⟩ := (unhide F2).c
      go_wp2_with fail
      go_quiet (fail)
      go_wp2_with fail
      go_ret2
      simp only [Option.bind_some]
      rw [← unhide HB, unhide HSZ]
      exact ⟨.inr ⟨[], rfl, rfl⟩, _root_.Go.below_drewN (unhide F2).bel _⟩
    | some t =>
      have htl := hul t rfl
      have c2 := hide c2
      have c3 := hide (fun (W : World) => (sum_any t W (by omega)).mono fun e w' ⟨h1, h2⟩ => (⟨h1, h2.symm⟩ : e = Ending.returned (I (sumOf t)) ∧ w' = W))
      have hcase : ((t.length : Int) == f.size) = false ∧ sizedO d f.block f.size f.sum = none ∨ ((t.length : Int) == f.size) = true ∧ (((sumOf t : Nat) : Int) == f.sum) = false ∧ sizedO d f.block f.size f.sum = none ∨ ((t.length : Int) == f.size) = true ∧ (((sumOf t : Nat) : Int) == f.sum) = true ∧ sizedO d f.block f.size f.sum = some t := by
        rw [unhide HSZ]
        simp only [Option.bind_some]
        by_cases k1 : (t.length : Int) = f.size
        · by_cases k2 : ((sumOf t : Nat) : Int) = f.sum
          · exact .inr (.inr ⟨by rw [beq_iff_eq]; exact k1, by rw [beq_iff_eq]; exact k2, if_pos ⟨k1, k2⟩⟩)
          · exact .inr (.inl ⟨by rw [beq_iff_eq]; exact k1, by rw [beq_eq_false_iff_ne]; exact k2, if_neg (fun e => k2 e.2)⟩)
        · exact .inl ⟨by rw [beq_eq_false_iff_ne]; exact k1, if_neg (fun e => k1 e.1)⟩
      clear hul HSZ
      obtain ⟨sm, hsm⟩ : ∃ sm, sm = sumOf t := ⟨_, rfl⟩
      have c3 := unhide c3
      rw [← hsm] at c3 hcase
      have c3 := hide c3
      clear hsm
      rcases hcase with ⟨e1, e2⟩ | ⟨e1, e3, e2⟩ | ⟨e1, e3, e2⟩
      all_goals
        have E2 := hide e2
        clear e2
        go_enter Tryz.func83, Tryz.ntmps83
        go_upto_region 1 with fail
        rw [← unhide HW0, ← unhide HB]
        obtain ⟨q0, q1, q2, q3, q4⟩ := (unhide F0).c
        have g1 : w0.cell? ⟨B, 0, none⟩ = some (.slice A n cap) := by rw [unhide HW0, unhide HB, cell_of_row _ _ _ _ _ _ (heap_alloc2_old _ _ _)]; rfl
        have g2 : w0.cell? ⟨B, 1, none⟩ = some (.slice A2 n2 cap2) := by rw [unhide HW0, unhide HB, cell_of_row _ _ _ _ _ _ (heap_alloc2_old _ _ _)]; rfl
        go_wp2_with fail
        refine (unhide c1).mono ?_
        rintro e w1 ⟨rfl, hb1⟩
        have F1 := hide ((unhide F0).below hb1)
        clear hb1 q0 q1 q2 q3 q4 g1 g2
        obtain ⟨q0, q1, q2, q3, q4⟩ := (unhide F1).c
        go_wp2_with fail
        refine (unhide c2 _).mono ?_
        rintro e w2 ⟨rfl, hb2⟩
        have F2 := hide ((unhide F1).below hb2)
        clear hb2 q0 q1 q2 q3 q4
        obtain ⟨q0, q1, q2, q3, q4⟩ := (unhide F2).c
        go_wp2_with fail
        go_quiet (first | (go_at_call 107; refine Calls.quiet_of_same (unhide c3 _)))
        go_wp2_with fail
        go_ret2
        simp only [Option.bind_some]
        rw [← unhide HB, unhide E2]
        first
          | exact ⟨.inl ⟨t, rfl, rfl⟩, _root_.Go.below_drewN (unhide F2).bel _⟩
          | exact ⟨.inr ⟨t, rfl, rfl⟩, _root_.Go.below_drewN (unhide F2).bel _⟩
end Go.Proofs.YtjpgoeimclipjaaGreat
namespace Go.Proofs.YtjpgoeimclipjaaGreat
open Go.RowKit Go.Lib Pl
attribute [local go_sem] ext_list app_list
def nameN (x : Nat) : Bool := decide (97 ≤ x ∧ x ≤ 122 ∨ 48 ≤ x ∧ x ≤ 57 ∨ x = 46)
theorem nameN_c (c : UInt8) : nameN c.toNat = nameC c := rfl
theorem nameN_high {x : Nat} (h : 128 ≤ x) : nameN x = false := by unfold nameN; rw [decide_eq_false]; omega
set_option maxHeartbeats 1000000 in
set_option maxRecDepth 100000 in
theorem name1_any (x : Nat) (w : World) (hx : x ≤ 1114111) :
    Calls Tryz.prog 104 #[.int .i32 (x : Int)] w fun e w' => e = .returned (.bool (!nameN x)) ∧ w' = w := by
  have hcase : (x < 46 ∧ nameN x = false) ∨ (x = 46 ∧ nameN x = true) ∨ (x = 47 ∧ nameN x = false) ∨ (48 ≤ x ∧ x ≤ 57 ∧ nameN x = true) ∨ (57 < x ∧ x < 97 ∧ nameN x = false) ∨ (97 ≤ x ∧ x ≤ 122 ∧ nameN x = true) ∨ (122 < x ∧ nameN x = false) := by
    have ht : ∀ (P : Prop) [Decidable P], P → decide P = true := fun P _ h => decide_eq_true h
    have hf : ∀ (P : Prop) [Decidable P], ¬ P → decide P = false := fun P _ h => decide_eq_false h
    rcases (show x < 46 ∨ x = 46 ∨ x = 47 ∨ (48 ≤ x ∧ x ≤ 57) ∨ (57 < x ∧ x < 97) ∨ (97 ≤ x ∧ x ≤ 122) ∨ 122 < x by omega) with h | h | h | h | h | h | h
    · exact .inl ⟨h, hf _ (by omega)⟩
    · exact .inr (.inl ⟨h, ht _ (by omega)⟩)
    · exact .inr (.inr (.inl ⟨h, hf _ (by omega)⟩))
    · exact .inr (.inr (.inr (.inl ⟨h.1, h.2, ht _ (by omega)⟩)))
    · exact .inr (.inr (.inr (.inr (.inl ⟨h.1, h.2, hf _ (by omega)⟩))))
    · exact .inr (.inr (.inr (.inr (.inr (.inl ⟨h.1, h.2, ht _ (by omega)⟩)))))
    · exact .inr (.inr (.inr (.inr (.inr (.inr ⟨h, hf _ (by omega)⟩)))))
  rcases hcase with ⟨h1, e⟩ | ⟨h1, e⟩ | ⟨h1, e⟩ | ⟨h1, h2, e⟩ | ⟨h1, h2, e⟩ | ⟨h1, h2, e⟩ | ⟨h1, e⟩
  · rw [e]
    have d1 : (x : Int) < 97 := by omega
    have d2 : (x : Int) < 48 := by omega
    have d3 : ((x : Int) != 46) = true := by rw [bne_iff_ne]; omega
    go_enter Tryz.func104, Tryz.ntmps104
    go_wp2_with fail
    go_ret
    exact ⟨rfl, rfl⟩
  · subst h1
    rw [e]
    go_enter Tryz.func104, Tryz.ntmps104
    go_wp2_with fail
    go_ret
    exact ⟨rfl, rfl⟩
  · subst h1
    rw [e]
    go_enter Tryz.func104, Tryz.ntmps104
    go_wp2_with fail
    go_ret
    exact ⟨rfl, rfl⟩
  · rw [e]
    have d1 : (x : Int) < 97 := by omega
    have d2 : ¬ (x : Int) < 48 := by omega
    have d3 : ¬ (57 : Int) < (x : Int) := by omega
    go_enter Tryz.func104, Tryz.ntmps104
    go_wp2_with fail
    go_ret
    exact ⟨rfl, rfl⟩
  · rw [e]
    have d1 : (x : Int) < 97 := by omega
    have d2 : ¬ (x : Int) < 48 := by omega
    have d3 : (57 : Int) < (x : Int) := by omega
    have d4 : ((x : Int) != 46) = true := by rw [bne_iff_ne]; omega
    go_enter Tryz.func104, Tryz.ntmps104
    go_wp2_with fail
    go_ret
    exact ⟨rfl, rfl⟩
  · rw [e]
    have d1 : ¬ (x : Int) < 97 := by omega
    have d2 : ¬ (122 : Int) < (x : Int) := by omega
    go_enter Tryz.func104, Tryz.ntmps104
    go_wp2_with fail
    go_ret
    exact ⟨rfl, rfl⟩
  · rw [e]
    have d1 : ¬ (x : Int) < 97 := by omega
    have d2 : (122 : Int) < (x : Int) := by omega
    have d3 : ¬ (x : Int) < 48 := by omega
    have d4 : (57 : Int) < (x : Int) := by omega
    have d5 : ((x : Int) != 46) = true := by rw [bne_iff_ne]; omega
    go_enter Tryz.func104, Tryz.ntmps104
    go_wp2_with fail
    go_ret
    exact ⟨rfl, rfl⟩
theorem idx_name (l : Bytes) : ∀ (f pos : Nat), l.length ≤ pos + f → (0 ≤ Lib.idxFuncFrom (fun x => !nameN x) true ⟨l.toArray⟩ f pos ↔ (l.drop pos).all nameC = false)
  | 0, pos, h => by
    rw [List.drop_of_length_le (by omega), Lib.idxFuncFrom]
    simp
  | f + 1, pos, h => by
    have hs : (⟨l.toArray⟩ : ByteArray).size = l.length := rfl
    by_cases hp : pos < l.length
    · have hg : (⟨l.toArray⟩ : ByteArray)[pos]'hp = l[pos] := rfl
      rw [List.drop_eq_getElem_cons hp, List.all_cons, Lib.idxFuncFrom, if_pos (by rw [hs]; exact hp)]
      by_cases ha : (l[pos]).toNat < 128
      · have hd := decode_ascii ⟨l.toArray⟩ pos hp (by rw [hg]; exact ha)
        rw [hd, hg]
        simp only
        rw [nameN_c]
        by_cases hc : nameC l[pos] = true
        · rw [hc]
          have := idx_name l f (pos + 1) (by omega)
          simpa using this
        · have hc : nameC l[pos] = false := by simpa using hc
          rw [hc]
          simp
      · have hd := (decode_high ⟨l.toArray⟩ pos hp (by rw [hg]; omega)).1
        rw [nameN_high hd]
        have hc : nameC l[pos] = false := by rw [← nameN_c]; exact nameN_high (by omega)
        rw [hc]
        simp
    · rw [Lib.idxFuncFrom_end _ _ _ _ _ (by rw [hs]; exact hp), List.drop_of_length_le (by omega)]
      simp
theorem idx_name_all (l : Bytes) : decide (0 ≤ Lib.idxFunc (fun x => !nameN x) true ⟨l.toArray⟩) = !l.all nameC := by
  have := idx_name l l.length 0 (by omega)
  show decide (0 ≤ Lib.idxFuncFrom (fun x => !nameN x) true ⟨l.toArray⟩ l.length 0) = !l.all nameC
  rw [List.drop_zero] at this
  by_cases h : l.all nameC = true
  · rw [h] at this ⊢
    rw [decide_eq_false (fun e => by have := this.1 e; cases this)]; rfl
  · have h : l.all nameC = false := by simpa using h
    rw [h] at this ⊢
    rw [decide_eq_true (this.2 rfl)]; rfl
set_option maxHeartbeats 1000000 in
set_option maxRecDepth 100000 in
theorem name_any (s : Bytes) (w : World) (hs : s.length ≤ 140737488355328) :
    Calls Tryz.prog 71 #[S s] w fun e w' => e = .returned (.bool (nameB s)) ∧ Below w.heap.size w w' := by
  have c1 := fun (W : World) => Tryz.strings_ContainsFunc_runes 104 #[] (by intro args w; rfl) (fun x => !nameN x) ⟨s.toArray⟩ W (fun W2 x hx _ => by
    show Calls Tryz.prog 104 (#[_] ++ #[]) W2 _
    exact (name1_any x W2 hx).mono fun e w' ⟨h1, h2⟩ => ⟨h1, 0, h2⟩)
  have c1 : ∀ W : World, Calls Tryz.prog 103 #[S s, .func (.func 104) #[] #[]] W fun e w' => e = .returned (.bool (!s.all nameC)) ∧ Below W.heap.size W w' := fun W => by
    have := c1 W
    rw [idx_name_all] at this
    exact this
  have hnb : nameB s = (decide (1 ≤ s.length ∧ s.length ≤ 12) && s.all nameC) := rfl
  obtain ⟨q, hq⟩ : ∃ q, q = s.all nameC := ⟨_, rfl⟩
  rw [← hq] at c1 hnb
  have c1 := hide c1
  clear hq
  by_cases h0 : s.length < 1
  · have h1 : nameB s = false := by rw [hnb, decide_eq_false (by omega)]; rfl
    rw [h1]
    have d1 : ¬ (0 : Int) < (s.length : Int) := by omega
    clear hnb h1
    go_enter Tryz.func71, Tryz.ntmps71
    go_wp2_with fail
    go_ret
    exact ⟨rfl, Below.refl _ _⟩
  · have d1 : (0 : Int) < (s.length : Int) := by omega
    by_cases h2 : 12 < s.length
    · have h1 : nameB s = false := by rw [hnb, decide_eq_false (by omega)]; rfl
      rw [h1]
      have d2 : ¬ (s.length : Int) ≤ 12 := by omega
      have d3 : decide ((s.length : Int) ≤ 12) = false := decide_eq_false d2
      clear hnb h1
      go_enter Tryz.func71, Tryz.ntmps71
      go_wp2_with fail
      go_ret
      exact ⟨rfl, Below.refl _ _⟩
    · have h1 : nameB s = q := by rw [hnb, decide_eq_true (by omega)]; rfl
      rw [h1]
      have d2 : (s.length : Int) ≤ 12 := by omega
      have d3 : decide ((s.length : Int) ≤ 12) = true := decide_eq_true d2
      clear hnb h1
      cases q
      all_goals
        go_enter Tryz.func71, Tryz.ntmps71
        go_wp2_with fail
        refine (unhide c1 _).mono ?_
        rintro e w1 ⟨rfl, hb1⟩
        go_wp2_with fail
        go_ret
        exact ⟨rfl, hb1⟩
set_option maxHeartbeats 1000000 in
set_option maxRecDepth 100000 in
theorem isName_any (s : Bytes) (w : World) (hs : s.length ≤ 140737488355328) :
    Calls Tryz.prog 77 #[S s] w fun e w' => e = .returned (.bool (nameB s)) ∧ w' = w := by
  have c1 := fun (W : World) => within_any (s.length : Int) 1 12 W
  have hnb : nameB s = (decide (1 ≤ s.length ∧ s.length ≤ 12) && s.all nameC) := rfl
  by_cases h0 : 1 ≤ s.length ∧ s.length ≤ 12
  · rw [decide_eq_true h0, Bool.true_and] at hnb
    rw [decide_eq_true (by omega)] at c1
    have c1 := hide (fun (W : World) => (c1 W).mono fun e w' ⟨h1, h2⟩ => (⟨h1, h2.symm⟩ : e = Ending.returned (.bool true) ∧ w' = W))
    rw [hnb]
    clear hnb h0
    go_enter Tryz.func77, Tryz.ntmps77
    go_wp2_with fail
    refine (unhide c1 _).mono ?_
    rintro e w1 ⟨rfl, rfl⟩
    go_wp2_with fail
    go_loop [3] (fun iv => ∃ k : Nat, k ≤ s.length ∧ iv = .int .i64 k ∧ (s.take k).all nameC = true) (fun iv => s.length - (intOf iv).toNat)
    case atStart => exact ⟨0, by omega, rfl, by simp⟩
    case round =>
      obtain ⟨k, hk, rfl, hall⟩ := hrel
      have HALL := hide hall
      clear hall
      by_cases hks : k < s.length
      · obtain ⟨c, hcc⟩ : ∃ c, (⟨s.toArray⟩ : ByteArray)[k]'hks = c := ⟨_, rfl⟩
        have hsc : s[k]? = some c := by rw [List.getElem?_eq_getElem hks]; exact congrArg some hcc
        have hnx : (s.take (k + 1)).all nameC = ((s.take k).all nameC && nameC c) := by rw [List.take_add_one, hsc, List.all_append]; simp
        have hc256 := c.toNat_lt
        have hst : nameC c = false → s.all nameC = false := fun h => by
          rw [← List.take_append_drop (k + 1) s, List.all_append, hnx, h]; simp
        obtain ⟨x, hx⟩ : ∃ x, x = c.toNat := ⟨_, rfl⟩
        have hcase : (nameC c = false ∧ (x < 46 ∨ x = 47 ∨ 57 < x ∧ x < 97 ∨ 122 < x)) ∨ (nameC c = true ∧ (x = 46 ∨ 48 ≤ x ∧ x ≤ 57 ∨ 97 ≤ x ∧ x ≤ 122)) := by
          by_cases h : 97 ≤ x ∧ x ≤ 122 ∨ 48 ≤ x ∧ x ≤ 57 ∨ x = 46
          · exact .inr ⟨decide_eq_true (by rw [← hx]; exact h), by omega⟩
          · exact .inl ⟨decide_eq_false (by rw [← hx]; exact h), by omega⟩
        have HNX := hide hnx
        have HST := hide hst
        rw [← hx] at hc256
        have hx' := hx.symm
        clear hsc hnx hst hx
        rcases hcase with ⟨hc, h1 | h1 | h1 | h1⟩ | ⟨hc, h1 | h1 | h1⟩
        · have HC := hide hc
          have d1 : ¬ (97 : Int) ≤ (x : Int) := by omega
          have d2 : ¬ (48 : Int) ≤ (x : Int) := by omega
          have d3 : ((x : Int) == 46) = false := by rw [beq_eq_false_iff_ne]; omega
          have d1' : decide ((97 : Int) ≤ (x : Int)) = false := decide_eq_false d1
          have d2' : decide ((48 : Int) ≤ (x : Int)) = false := decide_eq_false d2
          clear hc
          go_wp2_with fail
          go_ret
          exact ⟨by rw [unhide HST (unhide HC)]; rfl, rfl⟩
        · have HC := hide hc
          subst h1
          clear hc
          go_wp2_with fail
          go_ret
          exact ⟨by rw [unhide HST (unhide HC)]; rfl, rfl⟩
        · have HC := hide hc
          have d1 : ¬ (97 : Int) ≤ (x : Int) := by omega
          have d2 : (48 : Int) ≤ (x : Int) := by omega
          have d2b : ¬ (x : Int) ≤ 57 := by omega
          have d3 : ((x : Int) == 46) = false := by rw [beq_eq_false_iff_ne]; omega
          have d1' : decide ((97 : Int) ≤ (x : Int)) = false := decide_eq_false d1
          have d2' : decide ((48 : Int) ≤ (x : Int)) = true := decide_eq_true d2
          have d2b' : decide ((x : Int) ≤ 57) = false := decide_eq_false d2b
          clear hc
          go_wp2_with fail
          go_ret
          exact ⟨by rw [unhide HST (unhide HC)]; rfl, rfl⟩
        · have HC := hide hc
          have d1 : (97 : Int) ≤ (x : Int) := by omega
          have d1b : ¬ (x : Int) ≤ 122 := by omega
          have d2 : (48 : Int) ≤ (x : Int) := by omega
          have d2b : ¬ (x : Int) ≤ 57 := by omega
          have d3 : ((x : Int) == 46) = false := by rw [beq_eq_false_iff_ne]; omega
          have d1' : decide ((97 : Int) ≤ (x : Int)) = true := decide_eq_true d1
          have d1b' : decide ((x : Int) ≤ 122) = false := decide_eq_false d1b
          have d2' : decide ((48 : Int) ≤ (x : Int)) = true := decide_eq_true d2
          have d2b' : decide ((x : Int) ≤ 57) = false := decide_eq_false d2b
          clear hc
          go_wp2_with fail
          go_ret
          exact ⟨by rw [unhide HST (unhide HC)]; rfl, rfl⟩
        · have HC := hide hc
          subst h1
          clear hc
          go_wp2_with fail
          go_round
          case rel => exact ⟨k + 1, by omega, by go_num, by rw [unhide HNX, unhide HALL, unhide HC]; rfl⟩
          case measure => simp [intOf]; omega
        · have HC := hide hc
          have d1 : ¬ (97 : Int) ≤ (x : Int) := by omega
          have d2 : (48 : Int) ≤ (x : Int) := by omega
          have d2b : (x : Int) ≤ 57 := by omega
          have d1' : decide ((97 : Int) ≤ (x : Int)) = false := decide_eq_false d1
          have d2' : decide ((48 : Int) ≤ (x : Int)) = true := decide_eq_true d2
          have d2b' : decide ((x : Int) ≤ 57) = true := decide_eq_true d2b
          clear hc
          go_wp2_with fail
          go_round
          case rel => exact ⟨k + 1, by omega, by go_num, by rw [unhide HNX, unhide HALL, unhide HC]; rfl⟩
          case measure => simp [intOf]; omega
        · have HC := hide hc
          have d1 : (97 : Int) ≤ (x : Int) := by omega
          have d1b : (x : Int) ≤ 122 := by omega
          have d1' : decide ((97 : Int) ≤ (x : Int)) = true := decide_eq_true d1
          have d1b' : decide ((x : Int) ≤ 122) = true := decide_eq_true d1b
          clear hc
          go_wp2_with fail
          go_round
          case rel => exact ⟨k + 1, by omega, by go_num, by rw [unhide HNX, unhide HALL, unhide HC]; rfl⟩
          case measure => simp [intOf]; omega
      · have hk' : k = s.length := by omega
        subst hk'
        rw [List.take_length] at HALL
        go_wp2_with fail
        go_ret
        exact ⟨by rw [unhide HALL]; rfl, rfl⟩
  · rw [decide_eq_false h0, Bool.false_and] at hnb
    rw [decide_eq_false (by omega)] at c1
    have c1 := hide (fun (W : World) => (c1 W).mono fun e w' ⟨h1, h2⟩ => (⟨h1, h2.symm⟩ : e = Ending.returned (.bool false) ∧ w' = W))
    rw [hnb]
    clear hnb h0
    go_enter Tryz.func77, Tryz.ntmps77
    go_wp2_with fail
    refine (unhide c1 _).mono ?_
    rintro e w1 ⟨rfl, rfl⟩
    go_wp2_with fail
    go_ret
    exact ⟨rfl, rfl⟩
end Go.Proofs.YtjpgoeimclipjaaGreat
namespace Go.Proofs.YtjpgoeimclipjaaGreat
open Go.RowKit Go.Lib Pl
attribute [local go_sem] ext_list app_list
/-- the name of the file before -/
def lastN (fs : List Fil) (k : Nat) : Bytes := ((fs.take k).getLast?.map Fil.name).getD []
theorem lastN_next {fs : List Fil} {k : Nat} {f : Fil} (h : fs[k]? = some f) : lastN fs (k + 1) = f.name := by
  unfold lastN
  rw [List.take_add_one, h]
  simp
theorem drop_at {fs : List Fil} {k : Nat} {f : Fil} (h : fs[k]? = some f) : fs.drop k = f :: fs.drop (k + 1) := by
  have hk := (List.getElem?_eq_some_iff.1 h).1
  rw [List.drop_eq_getElem_cons hk]
  congr 1
  rw [List.getElem?_eq_getElem hk] at h
  exact Option.some.inj h
set_option maxHeartbeats 4000000 in
set_option maxRecDepth 100000 in
theorem check_arch (A : Option Addr) (n cap : Nat) (A2 : Option Addr) (n2 cap2 : Nat) (a : Arc) (w : World) (h : ArcIn w A n A2 n2 a) (hz : ArcSz a) :
    Calls Tryz.prog 31 #[arcV A n cap A2 n2 cap2] w fun e w' => e = .returned (I (checkA a)) ∧ Below w.heap.size w w' := by
  obtain ⟨B, hB⟩ : ∃ B, B = w.heap.size := ⟨_, rfl⟩
  obtain ⟨w0, hw0⟩ : ∃ w0, w0 = w.alloc (.cells #[.slice A n cap, .slice A2 n2 cap2] 33) := ⟨_, rfl⟩
  have H0 := hide (show ABox A n cap A2 n2 cap2 a w w0 B by rw [hw0, hB]; exact ABox.new h cap cap2)
  have hn1 : n ≤ 4611686018427387904 := by have := hz.nd; have := h.s.1; omega
  have hn2 : n2 ≤ 4611686018427387904 := by have := hz.nf; have := h.f.1; omega
  have hl1 := h.s.1
  have hl2 := h.f.1
  have HB := hide hB
  have HW0 := hide hw0
  have HZ := hide hz
  have hdz : ∀ t ∈ a.ds, t.length ≤ 9223372036854775807 := fun t ht => by have := hz.ds t ht; omega
  have c1 := containsFuncD_any A n cap a.ds w0 (unhide H0).i.s hn1 hdz
  have hck : checkA a = if 4 < n ∨ 12 < n2 ∨ a.ds.any bigD = true then 2 else if filesB a.ds [] a.fs = true then 0 else 1 := by unfold checkA; rw [hl1, hl2]
  obtain ⟨q, hq⟩ : ∃ q, q = a.ds.any bigD := ⟨_, rfl⟩
  rw [← hq] at c1 hck
  have c1 := hide c1
  have HQ := hide hq
  have HCK := hide hck
  clear hB hw0 h hz hdz hck hq
  have enter1 : True := trivial
  by_cases h4 : 4 < n
  · have e1 : checkA a = 2 := by rw [unhide HCK, if_pos (Or.inl h4)]
    rw [e1]
    have d1 : (4 : Int) < (n : Int) := by omega
    clear e1
    go_enter Tryz.func31, Tryz.ntmps31
    go_upto_region 1 with fail
    rw [← unhide HW0, ← unhide HB]
    obtain ⟨q0, q1⟩ := (unhide H0).c
    go_wp2_with fail
    go_ret
    rw [← unhide HB]
    exact ⟨rfl, (unhide H0).bel⟩
  by_cases h12 : 12 < n2
  · have e1 : checkA a = 2 := by rw [unhide HCK, if_pos (Or.inr (Or.inl h12))]
    rw [e1]
    have d1 : ¬ (4 : Int) < (n : Int) := by omega
    have d2 : (12 : Int) < (n2 : Int) := by omega
    clear e1
    go_enter Tryz.func31, Tryz.ntmps31
    go_upto_region 1 with fail
    rw [← unhide HW0, ← unhide HB]
    obtain ⟨q0, q1⟩ := (unhide H0).c
    go_wp2_with fail
    go_ret
    rw [← unhide HB]
    exact ⟨rfl, (unhide H0).bel⟩
  have d1 : ¬ (4 : Int) < (n : Int) := by omega
  have d2 : ¬ (12 : Int) < (n2 : Int) := by omega
  cases q with
  | true =>
    have e1 : checkA a = 2 := by rw [unhide HCK, if_pos (Or.inr (Or.inr rfl))]
    rw [e1]
    clear e1
    go_enter Tryz.func31, Tryz.ntmps31
    go_upto_region 1 with fail
    rw [← unhide HW0, ← unhide HB]
    obtain ⟨q0, q1⟩ := (unhide H0).c
    go_wp2_with fail
    refine (unhide c1).mono ?_
    rintro e w1 ⟨rfl, rfl⟩
    go_wp2_with fail
    go_ret
    rw [← unhide HB]
    exact ⟨rfl, (unhide H0).bel⟩
  | false =>
    have hck2 : checkA a = if filesB a.ds [] a.fs = true then 0 else 1 := by rw [unhide HCK, if_neg (fun x => x.elim h4 fun x => x.elim h12 fun x => by cases x)]
    rw [hck2]
    have hds : ∀ d ∈ a.ds, d.length ≤ 256 := fun d hd => by
      have := List.any_eq_false.1 (unhide HQ).symm d hd
      simp only [bigD, decide_eq_true_eq] at this
      omega
    have HDS := hide hds
    obtain ⟨fs, hfs⟩ : ∃ fs, fs = a.fs := ⟨_, rfl⟩
    have HFS := hide hfs
    obtain ⟨r, hr⟩ : ∃ r, r = filesB a.ds [] a.fs := ⟨_, rfl⟩
    rw [← hr]
    have HR := hide hr
    clear hck2 hds HCK HQ hfs hr
    go_enter Tryz.func31, Tryz.ntmps31
    go_upto_region 1 with fail
    rw [← unhide HW0, ← unhide HB]
    obtain ⟨q0, q1⟩ := (unhide H0).c
    go_wp2_with fail
    refine (unhide c1).mono ?_
    rintro e w1 ⟨rfl, rfl⟩
    go_wp2_with fail
    clear c1 HW0
    go_loopw [3, 26] (fun lv iv wr => ∃ k : Nat, k ≤ n2 ∧ iv = .int .i64 k ∧ lv = S (lastN a.fs k) ∧ ABox A n cap A2 n2 cap2 a w wr B ∧ r = filesB a.ds (lastN a.fs k) (a.fs.drop k)) (fun _ iv _ => n2 - (intOf iv).toNat)
    case atStart => exact ⟨0, by omega, rfl, rfl, unhide H0, by rw [unhide HR]; rfl⟩
    case round =>
      obtain ⟨k, hk, rfl, rfl, hbx, hrk⟩ := hrel
      have HBX := hide hbx
      obtain ⟨p0, p1⟩ := hbx.c
      by_cases hkn : k < n2
      · obtain ⟨b, off, f, rfl, hb, hf, x0, x1, x2, x3, x4⟩ := hbx.i.f.at_ hkn
        have hfz := (unhide HZ).fs f (List.mem_of_getElem? hf)
        have hnx := lastN_next hf
        rw [drop_at hf, filesB] at hrk
        have HRK := hide hrk
        have HNX := hide hnx
        obtain ⟨w2, hw2⟩ : ∃ w2, w2 = wr.alloc (.cells #[S f.name, I f.dict, I f.size, I f.sum, S f.block] 61) := ⟨_, rfl⟩
        obtain ⟨D, hD⟩ : ∃ D, D = wr.heap.size := ⟨_, rfl⟩
        have H2 := hide (show ABox A n cap (some ⟨b, off, none⟩) n2 cap2 a w w2 B by rw [hw2]; exact hbx.below ((Below.refl _ _).alloc (Nat.le_refl _) _))
        have F2 := hide (show FBox f w w2 B D by rw [hw2, hD]; exact FBox.new f hbx.bel (Nat.le_of_lt hbx.lt))
        have c2 := text_any A n cap (some ⟨b, off, none⟩) n2 cap2 a f w2 (unhide H2).i hfz hn1 (unhide HDS)
        have c3 := hide (fun (W : World) => name_any f.name W hfz.nm)
        have hfb : fileB a.ds f = ((textO a.ds f).isSome && nameB f.name) := rfl
        obtain ⟨o, ho⟩ : ∃ o, o = textO a.ds f := ⟨_, rfl⟩
        rw [← ho] at c2 hfb
        obtain ⟨m, hm⟩ : ∃ m, m = nameB f.name := ⟨_, rfl⟩
        obtain ⟨ln, hln⟩ : ∃ ln, ln = lastN a.fs k := ⟨_, rfl⟩
        rw [← hln] at hrk ⊢
        rw [← hm] at c3 hfb
        rw [hfb] at hrk
        have c2 := hide c2
        obtain ⟨g0, g1⟩ := (unhide H2).c
        obtain ⟨y0, y1, y2, y3, y4⟩ := (unhide F2).c
        have hw2' := hw2.symm
        have hD' := hD.symm
        have hirr := lessB_irrefl ln
        have hcase : (o = none ∧ r = false) ∨ (∃ t, o = some t ∧ m = false ∧ r = false) ∨ (∃ t, o = some t ∧ m = true ∧ Op.bytesLess f.name ln = true ∧ r = false) ∨ (∃ t, o = some t ∧ m = true ∧ Op.bytesLess f.name ln = false ∧ (f.name == ln) = true ∧ r = false) ∨
            (∃ t, o = some t ∧ m = true ∧ Op.bytesLess f.name ln = false ∧ (f.name == ln) = false ∧ r = filesB a.ds f.name (a.fs.drop (k + 1))) := by
          rw [hrk]
          cases o with
          | none => exact .inl ⟨rfl, rfl⟩
          | some t =>
            cases m with
            | false => exact .inr (.inl ⟨t, rfl, rfl, rfl⟩)
            | true =>
              cases hlt : lessB ln f.name with
              | false =>
                by_cases h1 : lessB f.name ln = true
                · exact .inr (.inr (.inl ⟨t, rfl, rfl, by rw [less_model]; exact h1, rfl⟩))
                · have h1 : lessB f.name ln = false := by simpa using h1
                  have he := lessB_total h1 hlt
                  exact .inr (.inr (.inr (.inl ⟨t, rfl, rfl, by rw [less_model]; exact h1, by rw [beq_iff_eq]; exact he, rfl⟩)))
              | true =>
                have h1 : lessB f.name ln = false := by
                  cases h2 : lessB f.name ln with
                  | false => rfl
                  | true => have := lessB_trans h2 hlt; rw [lessB_irrefl] at this; cases this
                have h3 : (f.name == ln) = false := by
                  rw [beq_eq_false_iff_ne]
                  intro e
                  rw [e] at hlt
                  rw [lessB_irrefl] at hlt
                  cases hlt
                exact .inr (.inr (.inr (.inr ⟨t, rfl, rfl, by rw [less_model]; exact h1, h3, rfl⟩)))
        clear hrk hf hfz hnx hbx hw2 hD hirr HRK hfb hln ho hm
        rcases hcase with ⟨rfl, hr⟩ | ⟨t, rfl, rfl, hr⟩ | ⟨t, rfl, rfl, s1, hr⟩ | ⟨t, rfl, rfl, s1, s2, hr⟩ | ⟨t, rfl, rfl, s1, s2, hr⟩
        · subst hr
          go_upto_region 7 with fail
          try rw [hw2']
          try rw [hD']
          go_wp2_with fail
          refine (unhide c2).mono ?_
          rintro e w3 ⟨hres, hb3⟩
          have F3 := hide ((unhide F2).below hb3)
          clear hb3 y0 y1 y2 y3 y4 g0 g1 x0 x1 x2 x3 x4 p0 p1
          rcases hres with ⟨t, ht, _⟩ | ⟨t, _, rfl⟩
          · cases ht
          obtain ⟨y0, y1, y2, y3, y4⟩ := (unhide F3).c
          go_wp2_with fail
          go_ret
          rw [← unhide HB]
          exact ⟨rfl, (unhide F3).bel⟩
        · subst hr
          go_upto_region 7 with fail
          try rw [hw2']
          try rw [hD']
          go_wp2_with fail
          refine (unhide c2).mono ?_
          rintro e w3 ⟨hres, hb3⟩
          have F3 := hide ((unhide F2).below hb3)
          have H3 := hide ((unhide H2).below hb3)
          clear hb3 y0 y1 y2 y3 y4 g0 g1 x0 x1 x2 x3 x4 p0 p1
          rcases hres with ⟨t2, ht, rfl⟩ | ⟨t2, ht, _⟩
          rotate_left
          · cases ht
          obtain ⟨y0, y1, y2, y3, y4⟩ := (unhide F3).c
          go_wp2_with fail
          refine (unhide c3 _).mono ?_
          rintro e w4 ⟨rfl, hb4⟩
          have F4 := hide ((unhide F3).below hb4)
          have H4 := hide ((unhide H3).below hb4)
          clear hb4 y0 y1 y2 y3 y4
          obtain ⟨y0, y1, y2, y3, y4⟩ := (unhide F4).c
          go_wp2_with fail
          go_ret
          rw [← unhide HB]
          exact ⟨rfl, (unhide F4).bel⟩
        · subst hr
          go_upto_region 7 with fail
          try rw [hw2']
          try rw [hD']
          go_wp2_with fail
          refine (unhide c2).mono ?_
          rintro e w3 ⟨hres, hb3⟩
          have F3 := hide ((unhide F2).below hb3)
          have H3 := hide ((unhide H2).below hb3)
          clear hb3 y0 y1 y2 y3 y4 g0 g1 x0 x1 x2 x3 x4 p0 p1
          rcases hres with ⟨t2, ht, rfl⟩ | ⟨t2, ht, _⟩
          rotate_left
          · cases ht
          obtain ⟨y0, y1, y2, y3, y4⟩ := (unhide F3).c
          go_wp2_with fail
          refine (unhide c3 _).mono ?_
          rintro e w4 ⟨rfl, hb4⟩
          have F4 := hide ((unhide F3).below hb4)
          have H4 := hide ((unhide H3).below hb4)
          clear hb4 y0 y1 y2 y3 y4
          obtain ⟨y0, y1, y2, y3, y4⟩ := (unhide F4).c
          go_wp2_with fail
          go_ret
          rw [← unhide HB]
          exact ⟨rfl, (unhide F4).bel⟩
        · subst hr
          go_upto_region 7 with fail
          try rw [hw2']
          try rw [hD']
          go_wp2_with fail
          refine (unhide c2).mono ?_
          rintro e w3 ⟨hres, hb3⟩
          have F3 := hide ((unhide F2).below hb3)
          have H3 := hide ((unhide H2).below hb3)
          clear hb3 y0 y1 y2 y3 y4 g0 g1 x0 x1 x2 x3 x4 p0 p1
          rcases hres with ⟨t2, ht, rfl⟩ | ⟨t2, ht, _⟩
          rotate_left
          · cases ht
          obtain ⟨y0, y1, y2, y3, y4⟩ := (unhide F3).c
          go_wp2_with fail
          refine (unhide c3 _).mono ?_
          rintro e w4 ⟨rfl, hb4⟩
          have F4 := hide ((unhide F3).below hb4)
          have H4 := hide ((unhide H3).below hb4)
          clear hb4 y0 y1 y2 y3 y4
          obtain ⟨y0, y1, y2, y3, y4⟩ := (unhide F4).c
          go_wp2_with fail
          go_ret
          rw [← unhide HB]
          exact ⟨rfl, (unhide F4).bel⟩
        · have HR2 := hide hr
          clear hr
          go_upto_region 7 with fail
          try rw [hw2']
          try rw [hD']
          go_wp2_with fail
          refine (unhide c2).mono ?_
          rintro e w3 ⟨hres, hb3⟩
          have F3 := hide ((unhide F2).below hb3)
          have H3 := hide ((unhide H2).below hb3)
          clear hb3 y0 y1 y2 y3 y4 g0 g1 x0 x1 x2 x3 x4 p0 p1
          rcases hres with ⟨t2, ht, rfl⟩ | ⟨t2, ht, _⟩
          rotate_left
          · cases ht
          obtain ⟨y0, y1, y2, y3, y4⟩ := (unhide F3).c
          go_wp2_with fail
          refine (unhide c3 _).mono ?_
          rintro e w4 ⟨rfl, hb4⟩
          have F4 := hide ((unhide F3).below hb4)
          have H4 := hide ((unhide H3).below hb4)
          clear hb4 y0 y1 y2 y3 y4
          obtain ⟨y0, y1, y2, y3, y4⟩ := (unhide F4).c
          go_wp2_with fail
          go_roundw
          case rel => exact ⟨k + 1, by omega, by go_num, by rw [unhide HNX], unhide H4, by rw [unhide HNX]; exact unhide HR2⟩
          case measure => simp [intOf]; omega
      · have hk' : k = n2 := by omega
        subst hk'
        rw [List.drop_of_length_le (by omega), filesB] at hrk
        subst hrk
        go_wp2_with fail
        go_ret
        rw [← unhide HB]
        exact ⟨rfl, (unhide HBX).bel⟩
end Go.Proofs.YtjpgoeimclipjaaGreat
namespace Go.Proofs.YtjpgoeimclipjaaGreat
open Go.RowKit Go.Lib Pl
attribute [local go_sem] ext_list app_list
/-- a file of a row of one's own turned -/
theorem ownFil_set {w : World} {base g cap n : Nat} {l : List Fil} (h : w.ownsRow base 61 5 (.slice (some ⟨g, 0, none⟩) n cap) n (filsCells l)) {i : Nat} (hi : i < n) (f : Fil) :
    w.there g (i * 5) 5 ∧ (w.setCells g (i * 5) (filCells f)).ownsRow base 61 5 (.slice (some ⟨g, 0, none⟩) n cap) n (filsCells (l.set i f)) ∧ w.grownBy (w.setCells g (i * 5) (filCells f)) (some g) ∧ base ≤ g := by
  obtain ⟨cur, hb, hg, hnc, hcm, hsz, ht⟩ := ownsFil_row h
  have hl := ownsFil_len h
  have hth : w.there g (i * 5) 5 := fun j hj => by
    refine ⟨?_, by simp [World.frozen?, hg]⟩
    rw [cell_of_row w g _ cur _ _ hg, Array.getElem?_eq_getElem (by omega)]; rfl
  have hst := run_storeCells_at Tryz.prog g (i * 5) 61 (filCells f) 0 cur w hg (by rw [filCells_len]; omega) (fil_one f)
  have hst2 := run_storeCells_cells (P := Tryz.prog) g (i * 5) (filCells f) 0 w (fun j hj => by simpa using (hth j (by simpa [filCells_len] using hj)).1) (fun j hj => by simpa using (hth j (by simpa [filCells_len] using hj)).2) (fil_one f)
  rw [hst] at hst2
  injection hst2 with _ hst2
  simp only [Nat.add_zero] at hst2
  rw [← hst2]
  refine ⟨hth, ownsFil_mk hb (setRow_heap _ _ _ _ _ _ hg) hnc hcm (by simp [filCells]; omega) (by simpa using hl) ?_, ⟨rfl, rfl, rfl, by simp [World.setRow], fun k hk hne => setRow_other w g k _ (fun e => hne (by rw [e]))⟩, hb⟩
  have e1 : cur.toList.take (i * 5) = filsCells (l.take i) := by
    rw [← filsCells_take (by omega), ← ht, List.take_take, Nat.min_eq_left (by omega)]
  have e2 : (cur.toList.drop (i * 5 + 5)).take ((n - (i + 1)) * 5) = filsCells (l.drop (i + 1)) := by
    rw [← filsCells_drop (by omega), ← ht, List.drop_take, show (i + 1) * 5 = i * 5 + 5 from by omega]
    congr 1; omega
  have hlen : (filsCells (l.take i) ++ filCells f).length = (i + 1) * 5 := by
    rw [List.length_append, filsCells_len, filCells_len, List.length_take]; omega
  rw [List.toList_toArray, filsCells_set (by omega), e1, filCells_len, List.take_append, hlen, List.take_of_length_le (by rw [hlen]; omega), show n * 5 - (i + 1) * 5 = (n - (i + 1)) * 5 from by omega, e2, List.append_assoc]
/-- what Put knows of its memory, behind the copying -/
structure PutS (A : Option Addr) (n cap : Nat) (A2 : Option Addr) (n2 cap2 : Nat) (a : Arc) (w W : World) (B E P : Nat) (v1 v2 : Value) : Prop where
  r : AR A n cap A2 n2 cap2 a w W B
  p : W.heap[P]? = some (.cells #[v1, v2] 33 (0, 0))
  o : OwnA W E v1 v2 a
  be : B + 1 < E
  ob : ∀ k, v1.ownBlock = some k ∨ v2.ownBlock = some k → k < P
  ep : E ≤ P
section
variable {A A2 : Option Addr} {n cap n2 cap2 : Nat} {a : Arc} {w W W1 : World} {B E P : Nat} {v1 v2 : Value}
theorem PutS.lt (h : PutS A n cap A2 n2 cap2 a w W B E P v1 v2) : P < W.heap.size := (Array.getElem?_eq_some_iff.1 h.p).1
theorem PutS.below (h : PutS A n cap A2 n2 cap2 a w W B E P v1 v2) (hb : Below W.heap.size W W1) : PutS A n cap A2 n2 cap2 a w W1 B E P v1 v2 :=
  ⟨h.r.below hb, (hb.block _ h.lt).trans h.p, h.o.below hb, h.be, h.ob, h.ep⟩
theorem PutS.alloc (h : PutS A n cap A2 n2 cap2 a w W B E P v1 v2) (o : Obj) : PutS A n cap A2 n2 cap2 a w (W.alloc o) B E P v1 v2 := h.below ((Below.refl _ _).alloc (Nat.le_refl _) _)
theorem PutS.new (h : AR A n cap A2 n2 cap2 a w W B) (ho : OwnA W E v1 v2 a) (hE : B + 1 < E) (hEW : E ≤ W.heap.size) :
    PutS A n cap A2 n2 cap2 a w ((W.alloc (.cells #[.slice none 0 0, .slice none 0 0] 33)).setRow W.heap.size #[v1, v2]) B E W.heap.size v1 v2 := by
  have hb : Below W.heap.size W ((W.alloc (.cells #[.slice none 0 0, .slice none 0 0] 33)).setRow W.heap.size #[v1, v2]) := below_setRow ((Below.refl _ _).alloc (Nat.le_refl _) _) (Nat.le_refl _) _
  refine ⟨h.below hb, setRow_heap _ _ _ _ _ _ (heap_alloc_new _ _), ho.below hb, hE, fun k hk => ?_, hEW⟩
  rcases hk with hk | hk
  · exact (ho.s.lt k hk).2
  · exact (ho.f.lt k hk).2
theorem PutS.cells (h : PutS A n cap A2 n2 cap2 a w W B E P v1 v2) : W.cell? ⟨P, 0, none⟩ = some v1 ∧ W.cell? ⟨P, 1, none⟩ = some v2 ∧ W.frozen? ⟨P, 0, none⟩ = false ∧ W.frozen? ⟨P, 1, none⟩ = false := two_cells h.p
end
/-- a row of one's own is as it was behind a store into an elder block -/
theorem own_setRow {w : World} {base e size n g : Nat} {v : Value} {xs : List Value} (h : w.ownsRow base e size v n xs) (hg : ∀ k, v.ownBlock = some k → k ≠ g) (c : Array Value) : (w.setRow g c).ownsRow base e size v n xs := by
  refine ⟨h.1, ?_⟩
  rcases h.2 with hn | ⟨b, cap, cur, rfl, hbb, hgg, rest⟩
  · exact .inl hn
  · exact .inr ⟨b, cap, cur, rfl, hbb, (setRow_other w g b c (hg b rfl)).trans hgg, rest⟩
/-- the result laid -/
theorem put_end {w W : World} {B E : Nat} {v1 v2 : Value} {x : Arc} (hz : W.heap[B + 1]? = some (.cells #[.slice none 0 0, .slice none 0 0] 33 (0, 0))) (hE : B + 1 < E) (ho : OwnA W E v1 v2 x) (hb : Below B w W) :
    (W.setRow (B + 1) #[v1, v2]).heap[B + 1]? = some (.cells #[v1, v2] 33 (0, 0)) ∧ OwnA (W.setRow (B + 1) #[v1, v2]) B v1 v2 x ∧ Below B w (W.setRow (B + 1) #[v1, v2]) :=
  ⟨setRow_heap _ _ _ _ _ _ hz, ⟨own_mono (own_setRow ho.s (fun k hk => by have := (ho.s.lt k hk).1; omega) _) (by omega), own_mono (own_setRow ho.f (fun k hk => by have := (ho.f.lt k hk).1; omega) _) (by omega)⟩, below_setRow hb (by omega) _⟩
theorem one_two (A A2 : Option Addr) (n cap n2 cap2 : Nat) : (#[Value.slice A n cap, Value.slice A2 n2 cap2] : Array Value).all (·.oneCell') = true :=
  all_oneCell_toArray (cs := [Value.slice A n cap, Value.slice A2 n2 cap2]) (by intro v hv; simp at hv; rcases hv with rfl | rfl <;> rfl)
set_option maxHeartbeats 8000000 in
set_option maxRecDepth 100000 in
theorem put_any (A : Option Addr) (n cap : Nat) (A2 : Option Addr) (n2 cap2 : Nat) (a : Arc) (file text : Bytes) (k : Int) (w : World) (h : ArcIn w A n A2 n2 a) (hz : ArcSz a) (hfl : file.length ≤ 140737488355328) (htl : text.length ≤ 9223372036854775807) (hk0 : -9223372036854775808 ≤ k) (hk1 : k ≤ 9223372036854775807) :
    Calls Tryz.prog 26 #[arcV A n cap A2 n2 cap2, S file, S text, I k] w fun e w' => ArcRes w.heap.size (put a file text k) e w' ∧ Below w.heap.size w w' := by
  obtain ⟨B, hB⟩ : ∃ B, B = w.heap.size := ⟨_, rfl⟩
  obtain ⟨w0, hw0⟩ : ∃ w0, w0 = (w.alloc (.cells #[.slice A n cap, .slice A2 n2 cap2] 33)).alloc (.cells #[.slice none 0 0, .slice none 0 0] 33) := ⟨_, rfl⟩
  have H0 := hide (show AR A n cap A2 n2 cap2 a w w0 B by rw [hw0, hB]; exact AR.new h cap cap2)
  have hl1 := h.s.1
  have hl2 := h.f.1
  have CK : ∀ W, AR A n cap A2 n2 cap2 a w W B → Calls Tryz.prog 31 #[arcV A n cap A2 n2 cap2] W fun e w' => e = .returned (I (checkA a)) ∧ Below W.heap.size W w' := fun W hW => check_arch A n cap A2 n2 cap2 a W hW.ab.i hz
  have CN := hide (fun (W : World) => name_any file W hfl)
  have CD : ∀ W, AR A n cap A2 n2 cap2 a w W B → Calls Tryz.prog 70 #[arcV A n cap A2 n2 cap2, I k] W fun e w' => e = .returned (.tuple #[S ((dictO a.ds k).getD []), .bool (dictO a.ds k).isSome]) ∧ Below W.heap.size W w' := fun W hW => dict_any A n cap A2 n2 cap2 a k W hW.ab.i (by have := hz.nd; omega) hk0 hk1
  obtain ⟨r, hr⟩ : ∃ r, r = put a file text k := ⟨_, rfl⟩
  rw [← hr, ← hB]
  have hput : r = if checkA a ≠ 0 then (arc0, checkA a) else if nameB file = false then (arc0, 4) else if dictO a.ds k = none then (arc0, 3) else if 512 < text.length then (arc0, 2) else if 12 < (insF (packedF a.ds file text k) a.fs).length then (arc0, 2) else (⟨a.ds, insF (packedF a.ds file text k) a.fs⟩, 0) := hr
  have HB := hide hB
  have HW0 := hide hw0
  have CD := hide CD
  have HZ := hide hz
  clear hB hw0 h hr hz
  by_cases hck : checkA a ≠ 0
  · rw [if_pos hck] at hput
    obtain ⟨c, hc⟩ : ∃ c, c = checkA a := ⟨_, rfl⟩
    rw [← hc] at CK hput hck
    have CK := hide CK
    have d1 : ((c : Int) != 0) = true := by rw [bne_iff_ne]; omega
    have d2 : ((c : Int) == 0) = false := by rw [beq_eq_false_iff_ne]; omega
    have d3 : ¬ (c : Int) = 0 := by omega
    subst hput
    clear hck hc
    go_enter Tryz.func26, Tryz.ntmps26
    go_upto_region 1 with fail
    rw [← unhide HW0, ← unhide HB]
    obtain ⟨q0, q1⟩ := (unhide H0).ab.c
    go_wp2_with fail
    refine (unhide CK _ (unhide H0)).mono ?_
    rintro e w1 ⟨rfl, hb1⟩
    have H1 := hide ((unhide H0).below hb1)
    clear hb1 q0 q1
    obtain ⟨q0, q1⟩ := (unhide H1).ab.c
    go_wp2_with (refine wpList_store_row rfl 33 (.tmp 8) (.tmp 21) rfl (B + 1) #[.slice none 0 0, .slice none 0 0] rfl rfl 33 _ (unhide H1).z sizeArc rfl all_nil2 ?_)
    refine bodyPost_ret (results_row_tmp rfl _ _ (B + 1) 33 #[.slice none 0 0, .slice none 0 0] (0, 0) _ rfl ((unhide H1).end_ _).1 Tryz.underlying33 rfl sizeArc) rfl ⟨⟨_, _, rfl, ?_⟩, ((unhide H1).end_ _).2⟩
    exact OwnA.nil _ _
  have hck0 : checkA a = 0 := Decidable.not_not.1 hck
  have hra := (check_iff a).1 hck0
  rw [if_neg hck] at hput
  rw [hck0] at CK
  have CK := hide CK
  clear hck hck0
  by_cases hnm : nameB file = false
  · rw [if_pos hnm] at hput
    rw [hnm] at CN
    subst hput
    clear hnm
    go_enter Tryz.func26, Tryz.ntmps26
    go_upto_region 1 with fail
    rw [← unhide HW0, ← unhide HB]
    obtain ⟨q0, q1⟩ := (unhide H0).ab.c
    go_wp2_with fail
    refine (unhide CK _ (unhide H0)).mono ?_
    rintro e w1 ⟨rfl, hb1⟩
    have H1 := hide ((unhide H0).below hb1)
    clear hb1 q0 q1
    obtain ⟨q0, q1⟩ := (unhide H1).ab.c
    go_wp2_with fail
    refine (unhide CD _ (unhide H1)).mono ?_
    rintro e w2 ⟨rfl, hb2⟩
    have H2 := hide ((unhide H1).below hb2)
    clear hb2 q0 q1
    obtain ⟨q0, q1⟩ := (unhide H2).ab.c
    go_wp2_with fail
    refine (unhide CN _).mono ?_
    rintro e w3 ⟨rfl, hb3⟩
    have H3 := hide ((unhide H2).below hb3)
    clear hb3 q0 q1
    obtain ⟨q0, q1⟩ := (unhide H3).ab.c
    go_wp2_with (refine wpList_store_row rfl 33 (.tmp 8) (.tmp 33) rfl (B + 1) #[.slice none 0 0, .slice none 0 0] rfl rfl 33 _ (unhide H3).z sizeArc rfl all_nil2 ?_)
    refine bodyPost_ret (results_row_tmp rfl _ _ (B + 1) 33 #[.slice none 0 0, .slice none 0 0] (0, 0) _ rfl ((unhide H3).end_ _).1 Tryz.underlying33 rfl sizeArc) rfl ⟨⟨_, _, rfl, ?_⟩, ((unhide H3).end_ _).2⟩
    exact OwnA.nil _ _
  rw [if_neg hnm] at hput
  have hnm : nameB file = true := by simpa using hnm
  rw [hnm] at CN
  cases hdo : dictO a.ds k with
  | none =>
    rw [if_pos hdo] at hput
    rw [hdo] at CD
    subst hput
    clear hnm hdo
    go_enter Tryz.func26, Tryz.ntmps26
    go_upto_region 1 with fail
    rw [← unhide HW0, ← unhide HB]
    obtain ⟨q0, q1⟩ := (unhide H0).ab.c
    go_wp2_with fail
    refine (unhide CK _ (unhide H0)).mono ?_
    rintro e w1 ⟨rfl, hb1⟩
    have H1 := hide ((unhide H0).below hb1)
    clear hb1 q0 q1
    obtain ⟨q0, q1⟩ := (unhide H1).ab.c
    go_wp2_with fail
    refine (unhide CD _ (unhide H1)).mono ?_
    rintro e w2 ⟨rfl, hb2⟩
    have H2 := hide ((unhide H1).below hb2)
    clear hb2 q0 q1
    obtain ⟨q0, q1⟩ := (unhide H2).ab.c
    go_wp2_with fail
    refine (unhide CN _).mono ?_
    rintro e w3 ⟨rfl, hb3⟩
    have H3 := hide ((unhide H2).below hb3)
    clear hb3 q0 q1
    obtain ⟨q0, q1⟩ := (unhide H3).ab.c
    go_wp2_with (refine wpList_store_row rfl 33 (.tmp 8) (.tmp 37) rfl (B + 1) #[.slice none 0 0, .slice none 0 0] rfl rfl 33 _ (unhide H3).z sizeArc rfl all_nil2 ?_)
    refine bodyPost_ret (results_row_tmp rfl _ _ (B + 1) 33 #[.slice none 0 0, .slice none 0 0] (0, 0) _ rfl ((unhide H3).end_ _).1 Tryz.underlying33 rfl sizeArc) rfl ⟨⟨_, _, rfl, ?_⟩, ((unhide H3).end_ _).2⟩
    exact OwnA.nil _ _
  | some d =>
    rw [if_neg (by rw [hdo]; simp)] at hput
    have hdl := dictO_len hra.sd hdo
    by_cases htx : 512 < text.length
    · rw [if_pos htx] at hput
      rw [hdo] at CD
      have d1 : (512 : Int) < (text.length : Int) := by omega
      subst hput
      clear hnm hdo htx
      go_enter Tryz.func26, Tryz.ntmps26
      go_upto_region 1 with fail
      rw [← unhide HW0, ← unhide HB]
      obtain ⟨q0, q1⟩ := (unhide H0).ab.c
      go_wp2_with fail
      refine (unhide CK _ (unhide H0)).mono ?_
      rintro e w1 ⟨rfl, hb1⟩
      have H1 := hide ((unhide H0).below hb1)
      clear hb1 q0 q1
      obtain ⟨q0, q1⟩ := (unhide H1).ab.c
      go_wp2_with fail
      refine (unhide CD _ (unhide H1)).mono ?_
      rintro e w2 ⟨rfl, hb2⟩
      have H2 := hide ((unhide H1).below hb2)
      clear hb2 q0 q1
      obtain ⟨q0, q1⟩ := (unhide H2).ab.c
      go_wp2_with fail
      refine (unhide CN _).mono ?_
      rintro e w3 ⟨rfl, hb3⟩
      have H3 := hide ((unhide H2).below hb3)
      clear hb3 q0 q1
      obtain ⟨q0, q1⟩ := (unhide H3).ab.c
      go_wp2_with (refine wpList_store_row rfl 33 (.tmp 8) (.tmp 42) rfl (B + 1) #[.slice none 0 0, .slice none 0 0] rfl rfl 33 _ (unhide H3).z sizeArc rfl all_nil2 ?_)
      refine bodyPost_ret (results_row_tmp rfl _ _ (B + 1) 33 #[.slice none 0 0, .slice none 0 0] (0, 0) _ rfl ((unhide H3).end_ _).1 Tryz.underlying33 rfl sizeArc) rfl ⟨⟨_, _, rfl, ?_⟩, ((unhide H3).end_ _).2⟩
      exact OwnA.nil _ _
    rw [if_neg htx] at hput
    have d1 : ¬ (512 : Int) < (text.length : Int) := by omega
    have CP : ∀ W, AR A n cap A2 n2 cap2 a w W B → Calls Tryz.prog 73 #[arcV A n cap A2 n2 cap2, S file, S text, I k] W fun e w' => e = .returned (filV (packedF a.ds file text k)) ∧ Below W.heap.size W w' := fun W hW => packed_any A n cap A2 n2 cap2 a file text k d W hW.ab.i (by have := hra.nd; omega) hk0 hk1 hdo hdl (by omega)
    have CF : ∀ W, AR A n cap A2 n2 cap2 a w W B → Calls Tryz.prog 74 #[arcV A n cap A2 n2 cap2, S file] W fun e w' => e = .returned (.tuple #[I (posF file a.fs), .bool (thereB file a.fs)]) ∧ Below W.heap.size W w' := fun W hW => find_any A n cap A2 n2 cap2 a file W hW.ab.i (by have := hra.nf; omega) hra.fr.asc
    have CC : ∀ W, AR A n cap A2 n2 cap2 a w W B → Calls Tryz.prog 72 #[arcV A n cap A2 n2 cap2] W fun e w' => ∃ A' cap' A2' cap2', e = .returned (.agg #[.slice A' n cap', .slice A2' n2 cap2']) ∧ OwnA w' W.heap.size (.slice A' n cap') (.slice A2' n2 cap2') a ∧ Below W.heap.size W w' := fun W hW => by
      refine (copied_any A n cap A2 n2 cap2 a W hW.ab.i (by have := hra.nd; omega) (by have := hra.nf; omega)).mono ?_
      rintro e w' ⟨v1, v2, he, ho, hb⟩
      obtain ⟨A', cap', A2', cap2', rfl, rfl, _⟩ := ho.form
      rw [hl1] at he ho
      rw [hl2] at he ho
      exact ⟨A', cap', A2', cap2', he, ho, hb⟩
    rw [hdo] at CD
    obtain ⟨f, hf⟩ : ∃ f, f = packedF a.ds file text k := ⟨_, rfl⟩
    have hfn : f.name = file := by rw [hf]; rfl
    rw [← hf] at CP hput
    have hil := insF_len (f := f) (fs := a.fs)
    rw [hfn] at hil
    have hpl := posF_le file a.fs
    have h12 := hra.nf
    have CP := hide CP
    have CC := hide CC
    clear hnm hdo htx hdl hf hra
    cases hth : thereB file a.fs with
    | true =>
      rw [if_neg (by rw [hil, if_pos hth]; omega), insF_there (by rw [hfn]; exact hth), hfn] at hput
      have hpt := there_lt hth
      rw [hth] at CF
      obtain ⟨i, hi⟩ : ∃ i, i = posF file a.fs := ⟨_, rfl⟩
      rw [← hi] at CF hput hpt
      have CF := hide CF
      have z1 : (i : Int) < (n2 : Int) := by omega
      have z2 : (0 : Int) ≤ (i : Int) := by omega
      subst hput
      clear hil hpl hi hth hfn
      go_enter Tryz.func26, Tryz.ntmps26
      go_upto_region 1 with fail
      rw [← unhide HW0, ← unhide HB]
      obtain ⟨q0, q1⟩ := (unhide H0).ab.c
      go_wp2_with fail
      refine (unhide CK _ (unhide H0)).mono ?_
      rintro e w1 ⟨rfl, hb1⟩
      have H1 := hide ((unhide H0).below hb1)
      clear hb1 q0 q1
      obtain ⟨q0, q1⟩ := (unhide H1).ab.c
      go_wp2_with fail
      refine (unhide CD _ (unhide H1)).mono ?_
      rintro e w2 ⟨rfl, hb2⟩
      have H2 := hide ((unhide H1).below hb2)
      clear hb2 q0 q1
      obtain ⟨q0, q1⟩ := (unhide H2).ab.c
      go_wp2_with fail
      refine (unhide CN _).mono ?_
      rintro e w3 ⟨rfl, hb3⟩
      have H3 := hide ((unhide H2).below hb3)
      clear hb3 q0 q1
      obtain ⟨q0, q1⟩ := (unhide H3).ab.c
      go_wp2_with fail
      refine (unhide CC _ (unhide H3)).mono ?_
      rintro e w4 ⟨A', cap', A2', cap2', rfl, ho4, hb4⟩
      have H4 := hide ((unhide H3).below hb4)
      have HO4 := hide ho4
      have HS4 := hide hb4.size
      clear hb4 ho4 q0 q1
      go_upto_region 12 with (refine wpList_store_row rfl 33 (.tmp 13) (.tmp 44) rfl w4.heap.size #[.slice A' n cap', .slice A2' n2 cap2'] rfl rfl 33 _ (heap_alloc_new _ _) sizeArc rfl (one_two _ _ _ _ _ _) ?_)
      obtain ⟨w5, hw5⟩ : ∃ w5, w5 = (w4.alloc (.cells #[.slice none 0 0, .slice none 0 0] 33)).setRow w4.heap.size #[.slice A' n cap', .slice A2' n2 cap2'] := ⟨_, rfl⟩
      obtain ⟨P, hP⟩ : ∃ P, P = w4.heap.size := ⟨_, rfl⟩
      have S5 := hide (show PutS A n cap A2 n2 cap2 a w w5 B w3.heap.size P (.slice A' n cap') (.slice A2' n2 cap2') by rw [hw5, hP]; exact PutS.new (unhide H4) (unhide HO4) (unhide H3).lt (unhide HS4))
      rw [← hw5, ← hP]
      obtain ⟨E, hE⟩ : ∃ E, E = w3.heap.size := ⟨_, rfl⟩
      rw [← hE] at S5
      clear hw5 hP hE
      obtain ⟨q0, q1⟩ := (unhide S5).r.ab.c
      go_wp2_with fail
      refine (unhide CP _ (unhide S5).r).mono ?_
      rintro e w6 ⟨rfl, hb6⟩
      have S6 := hide ((unhide S5).below hb6)
      clear hb6 q0 q1
      go_upto_region 13 with (refine wpList_store_row rfl 61 (.tmp 14) (.tmp 49) rfl w6.heap.size (filA f) rfl rfl 61 _ (heap_alloc_new _ _) sizeFil rfl (filA_one f) ?_)
      obtain ⟨w7, hw7⟩ : ∃ w7, w7 = (w6.alloc (.cells zeroF 61)).setRow w6.heap.size (filA f) := ⟨_, rfl⟩
      obtain ⟨D, hD⟩ : ∃ D, D = w6.heap.size := ⟨_, rfl⟩
      have S7 := hide (show PutS A n cap A2 n2 cap2 a w w7 B E P (.slice A' n cap') (.slice A2' n2 cap2') by rw [hw7]; exact (unhide S6).below (below_setRow ((Below.refl _ _).alloc (Nat.le_refl _) _) (Nat.le_refl _) _))
      have F7 := hide (show w7.heap[D]? = some (.cells (filA f) 61 (0, 0)) by rw [hw7, hD]; exact setRow_heap _ _ _ _ _ _ (heap_alloc_new _ _))
      rw [← hw7, ← hD]
      have hPD : P < D := by rw [hD]; exact (unhide S6).lt
      clear hw7 hD
      obtain ⟨q0, q1⟩ := (unhide S7).r.ab.c
      go_wp2_with fail
      refine (unhide CF _ (unhide S7).r).mono ?_
      rintro e w8 ⟨rfl, hb8⟩
      have S8 := hide ((unhide S7).below hb8)
      have F8 := hide ((hb8.block D (Array.getElem?_eq_some_iff.1 (unhide F7)).1).trans (unhide F7))
      clear hb8 q0 q1
      obtain ⟨q0, q1⟩ := (unhide S8).r.ab.c
      obtain ⟨p0, p1, p2, p3⟩ := (unhide S8).cells
      have x0 : w8.cell? ⟨D, 0, none⟩ = some (S f.name) := by rw [cell_of_row _ _ _ _ _ _ (unhide F8)]; rfl
      have x1 : w8.cell? ⟨D, 1, none⟩ = some (I f.dict) := by rw [cell_of_row _ _ _ _ _ _ (unhide F8)]; rfl
      have x2 : w8.cell? ⟨D, 2, none⟩ = some (I f.size) := by rw [cell_of_row _ _ _ _ _ _ (unhide F8)]; rfl
      have x3 : w8.cell? ⟨D, 3, none⟩ = some (I f.sum) := by rw [cell_of_row _ _ _ _ _ _ (unhide F8)]; rfl
      have x4 : w8.cell? ⟨D, 4, none⟩ = some (S f.block) := by rw [cell_of_row _ _ _ _ _ _ (unhide F8)]; rfl
      obtain ⟨g, gc, hgv⟩ : ∃ g gc, (Value.slice A2' n2 cap2') = .slice (some ⟨g, 0, none⟩) n2 gc := by
        have hof := (unhide S8).o.f
        rw [hl2] at hof
        rcases ownsFil_form hof with ⟨_, h0, _⟩ | h1
        · omega
        · exact h1
      injection hgv with hg1 _ hg2
      subst hg1; subst hg2
      have hset := ownFil_set (by have := (unhide S8).o.f; rw [hl2] at this; exact this) (show i < n2 by omega) f
      have hset1 := hset.1
      have HSET := hide hset.2
      clear hset
      go_upto_region 19 with (refine wpList_store_mid rfl 61 (.tmp 69) (.tmp 68) rfl g (i * 5) (filA f) rfl rfl hset1 sizeFil (filA_one f) ?_)
      obtain ⟨w9, hw9⟩ : ∃ w9, w9 = w8.setCells g (i * 5) (filA f).toList := ⟨_, rfl⟩
      have HSET : Hid (w9.ownsRow E 61 5 (.slice (some ⟨g, 0, none⟩) n2 cap2') n2 (filsCells (a.fs.set i f)) ∧ w8.grownBy w9 (some g) ∧ E ≤ g) := by rw [hw9]; exact unhide HSET
      rw [← hw9]
      clear hw9 hset1 p0 p1 p2 p3 q0 q1 x0 x1 x2 x3 x4
      obtain ⟨hs1, hs2, hs3⟩ := unhide HSET
      have hgP := (unhide S8).ob g (.inr rfl)
      have hP9 : w9.heap[P]? = some (.cells #[.slice A' n cap', .slice (some ⟨g, 0, none⟩) n2 cap2'] 33 (0, 0)) := by rw [hs2.block P (unhide S8).lt (by simp; omega)]; exact (unhide S8).p
      have hB9 : w9.heap[B + 1]? = some (.cells #[.slice none 0 0, .slice none 0 0] 33 (0, 0)) := by rw [hs2.block (B + 1) (unhide S8).r.lt (by have := (unhide S8).be; simp; omega)]; exact (unhide S8).r.z
      have hO9 : OwnA w9 E (.slice A' n cap') (.slice (some ⟨g, 0, none⟩) n2 cap2') ⟨a.ds, a.fs.set i f⟩ := by
        refine ⟨(unhide S8).o.s.kept hs2 (.inr (fun e => ?_)), by simpa [hl2] using hs1⟩
        have hds := (unhide S8).o.s
        rcases hds.2 with ⟨hv, _⟩ | ⟨g2, c2, cu2, hv, _, hg2, _⟩
        · rw [hv] at e; simp [Value.ownBlock] at e
        · rw [hv] at e
          simp only [Value.ownBlock, Option.some.injEq] at e
          subst e
          obtain ⟨cu3, _, hg3, _⟩ := ownsFil_row (by have := (unhide S8).o.f; rw [hl2] at this; exact this)
          rw [hg2] at hg3
          injection hg3 with hg3
          injection hg3 with _ hg3 _
          exact absurd hg3 (by decide)
      have hL9 : Below B w w9 := (unhide S8).r.ab.bel.grown hs2 (by have := (unhide S8).r.lt; omega) (fun j hj => by have := (unhide S8).be; simp at hj; omega)
      obtain ⟨e1, e2, e3⟩ := put_end hB9 (unhide S8).be hO9 hL9
      obtain ⟨p0, p1, _, _⟩ := two_cells hP9
      have E1 := hide e1
      have E2 := hide e2
      have E3 := hide e3
      have HB9 := hide hB9
      clear hs1 hs2 hs3 hgP hP9 hB9 hO9 hL9 e1 e2 e3
      go_wp2_with (refine wpList_store_row rfl 33 (.tmp 8) (.tmp 76) rfl (B + 1) #[.slice A' n cap', .slice (some ⟨g, 0, none⟩) n2 cap2'] rfl rfl 33 _ (unhide HB9) sizeArc rfl (one_two _ _ _ _ _ _) ?_)
      refine bodyPost_ret (results_row_tmp rfl _ _ (B + 1) 33 #[.slice A' n cap', .slice (some ⟨g, 0, none⟩) n2 cap2'] (0, 0) _ rfl (unhide E1) Tryz.underlying33 rfl sizeArc) rfl ⟨⟨_, _, rfl, unhide E2⟩, unhide E3⟩
    | false =>
      have hnt : insF f a.fs = a.fs.take (posF file a.fs) ++ f :: a.fs.drop (posF file a.fs) := by have := insF_new (f := f) (fs := a.fs) (by rw [hfn]; exact hth); rw [hfn] at this; exact this
      rw [show (insF f a.fs).length = n2 + 1 from by rw [hil, if_neg (by rw [hth]; simp), hl2], hnt] at hput
      rw [hth] at CF
      obtain ⟨i, hi⟩ : ∃ i, i = posF file a.fs := ⟨_, rfl⟩
      rw [← hi] at CF hput hpl
      have CF := hide CF
      have hin : i ≤ n2 := by omega
      by_cases hfull : n2 = 12
      · rw [if_pos (by omega)] at hput
        have z1 : ((n2 : Int) == 12) = true := by rw [beq_iff_eq]; omega
        subst hput
        clear hil hpl hi hth hfn hnt hfull
        go_enter Tryz.func26, Tryz.ntmps26
        go_upto_region 1 with fail
        rw [← unhide HW0, ← unhide HB]
        obtain ⟨q0, q1⟩ := (unhide H0).ab.c
        go_wp2_with fail
        refine (unhide CK _ (unhide H0)).mono ?_
        rintro e w1 ⟨rfl, hb1⟩
        have H1 := hide ((unhide H0).below hb1)
        clear hb1 q0 q1
        obtain ⟨q0, q1⟩ := (unhide H1).ab.c
        go_wp2_with fail
        refine (unhide CD _ (unhide H1)).mono ?_
        rintro e w2 ⟨rfl, hb2⟩
        have H2 := hide ((unhide H1).below hb2)
        clear hb2 q0 q1
        obtain ⟨q0, q1⟩ := (unhide H2).ab.c
        go_wp2_with fail
        refine (unhide CN _).mono ?_
        rintro e w3 ⟨rfl, hb3⟩
        have H3 := hide ((unhide H2).below hb3)
        clear hb3 q0 q1
        obtain ⟨q0, q1⟩ := (unhide H3).ab.c
        go_wp2_with fail
        refine (unhide CC _ (unhide H3)).mono ?_
        rintro e w4 ⟨A', cap', A2', cap2', rfl, ho4, hb4⟩
        have H4 := hide ((unhide H3).below hb4)
        have HO4 := hide ho4
        have HS4 := hide hb4.size
        clear hb4 ho4 q0 q1
        go_upto_region 12 with (refine wpList_store_row rfl 33 (.tmp 13) (.tmp 44) rfl w4.heap.size #[.slice A' n cap', .slice A2' n2 cap2'] rfl rfl 33 _ (heap_alloc_new _ _) sizeArc rfl (one_two _ _ _ _ _ _) ?_)
        obtain ⟨w5, hw5⟩ : ∃ w5, w5 = (w4.alloc (.cells #[.slice none 0 0, .slice none 0 0] 33)).setRow w4.heap.size #[.slice A' n cap', .slice A2' n2 cap2'] := ⟨_, rfl⟩
        obtain ⟨P, hP⟩ : ∃ P, P = w4.heap.size := ⟨_, rfl⟩
        have S5 := hide (show PutS A n cap A2 n2 cap2 a w w5 B w3.heap.size P (.slice A' n cap') (.slice A2' n2 cap2') by rw [hw5, hP]; exact PutS.new (unhide H4) (unhide HO4) (unhide H3).lt (unhide HS4))
        rw [← hw5, ← hP]
        obtain ⟨E, hE⟩ : ∃ E, E = w3.heap.size := ⟨_, rfl⟩
        rw [← hE] at S5
        clear hw5 hP hE
        obtain ⟨q0, q1⟩ := (unhide S5).r.ab.c
        go_wp2_with fail
        refine (unhide CP _ (unhide S5).r).mono ?_
        rintro e w6 ⟨rfl, hb6⟩
        have S6 := hide ((unhide S5).below hb6)
        clear hb6 q0 q1
        go_upto_region 13 with (refine wpList_store_row rfl 61 (.tmp 14) (.tmp 49) rfl w6.heap.size (filA f) rfl rfl 61 _ (heap_alloc_new _ _) sizeFil rfl (filA_one f) ?_)
        obtain ⟨w7, hw7⟩ : ∃ w7, w7 = (w6.alloc (.cells zeroF 61)).setRow w6.heap.size (filA f) := ⟨_, rfl⟩
        obtain ⟨D, hD⟩ : ∃ D, D = w6.heap.size := ⟨_, rfl⟩
        have S7 := hide (show PutS A n cap A2 n2 cap2 a w w7 B E P (.slice A' n cap') (.slice A2' n2 cap2') by rw [hw7]; exact (unhide S6).below (below_setRow ((Below.refl _ _).alloc (Nat.le_refl _) _) (Nat.le_refl _) _))
        have F7 := hide (show w7.heap[D]? = some (.cells (filA f) 61 (0, 0)) by rw [hw7, hD]; exact setRow_heap _ _ _ _ _ _ (heap_alloc_new _ _))
        rw [← hw7, ← hD]
        have hPD : P < D := by rw [hD]; exact (unhide S6).lt
        clear hw7 hD
        obtain ⟨q0, q1⟩ := (unhide S7).r.ab.c
        go_wp2_with fail
        refine (unhide CF _ (unhide S7).r).mono ?_
        rintro e w8 ⟨rfl, hb8⟩
        have S8 := hide ((unhide S7).below hb8)
        have F8 := hide ((hb8.block D (Array.getElem?_eq_some_iff.1 (unhide F7)).1).trans (unhide F7))
        clear hb8 q0 q1
        obtain ⟨q0, q1⟩ := (unhide S8).r.ab.c
        obtain ⟨p0, p1, p2, p3⟩ := (unhide S8).cells
        have x0 : w8.cell? ⟨D, 0, none⟩ = some (S f.name) := by rw [cell_of_row _ _ _ _ _ _ (unhide F8)]; rfl
        have x1 : w8.cell? ⟨D, 1, none⟩ = some (I f.dict) := by rw [cell_of_row _ _ _ _ _ _ (unhide F8)]; rfl
        have x2 : w8.cell? ⟨D, 2, none⟩ = some (I f.size) := by rw [cell_of_row _ _ _ _ _ _ (unhide F8)]; rfl
        have x3 : w8.cell? ⟨D, 3, none⟩ = some (I f.sum) := by rw [cell_of_row _ _ _ _ _ _ (unhide F8)]; rfl
        have x4 : w8.cell? ⟨D, 4, none⟩ = some (S f.block) := by rw [cell_of_row _ _ _ _ _ _ (unhide F8)]; rfl
        have H8 := hide (unhide S8).r
        go_wp2_with (refine wpList_store_row rfl 33 (.tmp 8) (.tmp 75) rfl (B + 1) #[.slice none 0 0, .slice none 0 0] rfl rfl 33 _ (unhide H8).z sizeArc rfl all_nil2 ?_)
        refine bodyPost_ret (results_row_tmp rfl _ _ (B + 1) 33 #[.slice none 0 0, .slice none 0 0] (0, 0) _ rfl ((unhide H8).end_ _).1 Tryz.underlying33 rfl sizeArc) rfl ⟨⟨_, _, rfl, ?_⟩, ((unhide H8).end_ _).2⟩
        exact OwnA.nil _ _
      rw [if_neg (by omega)] at hput
      have z1 : ((n2 : Int) == 12) = false := by rw [beq_eq_false_iff_ne]; omega
      subst hput
      clear hil hpl hi hth hfn hnt
      go_enter Tryz.func26, Tryz.ntmps26
      go_upto_region 1 with fail
      rw [← unhide HW0, ← unhide HB]
      obtain ⟨q0, q1⟩ := (unhide H0).ab.c
      go_wp2_with fail
      refine (unhide CK _ (unhide H0)).mono ?_
      rintro e w1 ⟨rfl, hb1⟩
      have H1 := hide ((unhide H0).below hb1)
      clear hb1 q0 q1
      obtain ⟨q0, q1⟩ := (unhide H1).ab.c
      go_wp2_with fail
      refine (unhide CD _ (unhide H1)).mono ?_
      rintro e w2 ⟨rfl, hb2⟩
      have H2 := hide ((unhide H1).below hb2)
      clear hb2 q0 q1
      obtain ⟨q0, q1⟩ := (unhide H2).ab.c
      go_wp2_with fail
      refine (unhide CN _).mono ?_
      rintro e w3 ⟨rfl, hb3⟩
      have H3 := hide ((unhide H2).below hb3)
      clear hb3 q0 q1
      obtain ⟨q0, q1⟩ := (unhide H3).ab.c
      go_wp2_with fail
      refine (unhide CC _ (unhide H3)).mono ?_
      rintro e w4 ⟨A', cap', A2', cap2', rfl, ho4, hb4⟩
      have H4 := hide ((unhide H3).below hb4)
      have HO4 := hide ho4
      have HS4 := hide hb4.size
      clear hb4 ho4 q0 q1
      go_upto_region 12 with (refine wpList_store_row rfl 33 (.tmp 13) (.tmp 44) rfl w4.heap.size #[.slice A' n cap', .slice A2' n2 cap2'] rfl rfl 33 _ (heap_alloc_new _ _) sizeArc rfl (one_two _ _ _ _ _ _) ?_)
      obtain ⟨w5, hw5⟩ : ∃ w5, w5 = (w4.alloc (.cells #[.slice none 0 0, .slice none 0 0] 33)).setRow w4.heap.size #[.slice A' n cap', .slice A2' n2 cap2'] := ⟨_, rfl⟩
      obtain ⟨P, hP⟩ : ∃ P, P = w4.heap.size := ⟨_, rfl⟩
      have S5 := hide (show PutS A n cap A2 n2 cap2 a w w5 B w3.heap.size P (.slice A' n cap') (.slice A2' n2 cap2') by rw [hw5, hP]; exact PutS.new (unhide H4) (unhide HO4) (unhide H3).lt (unhide HS4))
      rw [← hw5, ← hP]
      obtain ⟨E, hE⟩ : ∃ E, E = w3.heap.size := ⟨_, rfl⟩
      rw [← hE] at S5
      clear hw5 hP hE
      obtain ⟨q0, q1⟩ := (unhide S5).r.ab.c
      go_wp2_with fail
      refine (unhide CP _ (unhide S5).r).mono ?_
      rintro e w6 ⟨rfl, hb6⟩
      have S6 := hide ((unhide S5).below hb6)
      clear hb6 q0 q1
      go_upto_region 13 with (refine wpList_store_row rfl 61 (.tmp 14) (.tmp 49) rfl w6.heap.size (filA f) rfl rfl 61 _ (heap_alloc_new _ _) sizeFil rfl (filA_one f) ?_)
      obtain ⟨w7, hw7⟩ : ∃ w7, w7 = (w6.alloc (.cells zeroF 61)).setRow w6.heap.size (filA f) := ⟨_, rfl⟩
      obtain ⟨D, hD⟩ : ∃ D, D = w6.heap.size := ⟨_, rfl⟩
      have S7 := hide (show PutS A n cap A2 n2 cap2 a w w7 B E P (.slice A' n cap') (.slice A2' n2 cap2') by rw [hw7]; exact (unhide S6).below (below_setRow ((Below.refl _ _).alloc (Nat.le_refl _) _) (Nat.le_refl _) _))
      have F7 := hide (show w7.heap[D]? = some (.cells (filA f) 61 (0, 0)) by rw [hw7, hD]; exact setRow_heap _ _ _ _ _ _ (heap_alloc_new _ _))
      rw [← hw7, ← hD]
      have hPD : P < D := by rw [hD]; exact (unhide S6).lt
      clear hw7 hD
      obtain ⟨q0, q1⟩ := (unhide S7).r.ab.c
      go_wp2_with fail
      refine (unhide CF _ (unhide S7).r).mono ?_
      rintro e w8 ⟨rfl, hb8⟩
      have S8 := hide ((unhide S7).below hb8)
      have F8 := hide ((hb8.block D (Array.getElem?_eq_some_iff.1 (unhide F7)).1).trans (unhide F7))
      clear hb8 q0 q1
      obtain ⟨q0, q1⟩ := (unhide S8).r.ab.c
      obtain ⟨p0, p1, p2, p3⟩ := (unhide S8).cells
      have x0 : w8.cell? ⟨D, 0, none⟩ = some (S f.name) := by rw [cell_of_row _ _ _ _ _ _ (unhide F8)]; rfl
      have x1 : w8.cell? ⟨D, 1, none⟩ = some (I f.dict) := by rw [cell_of_row _ _ _ _ _ _ (unhide F8)]; rfl
      have x2 : w8.cell? ⟨D, 2, none⟩ = some (I f.size) := by rw [cell_of_row _ _ _ _ _ _ (unhide F8)]; rfl
      have x3 : w8.cell? ⟨D, 3, none⟩ = some (I f.sum) := by rw [cell_of_row _ _ _ _ _ _ (unhide F8)]; rfl
      have x4 : w8.cell? ⟨D, 4, none⟩ = some (S f.block) := by rw [cell_of_row _ _ _ _ _ _ (unhide F8)]; rfl
      have CI : ∀ W, Below w8.heap.size w8 W → VarF W w8.heap.size f → Calls Tryz.prog 75 #[.slice A2' n2 cap2', I i, .slice (some ⟨w8.heap.size, 0, none⟩) 1 1] W fun e w' => ∃ A3 cap3, e = .returned (.slice A3 (n2 + 1) cap3) ∧ w'.ownsRow E 61 5 (.slice A3 (n2 + 1) cap3) (n2 + 1) (filsCells (a.fs.take i ++ f :: a.fs.drop i)) ∧ W.grownBy w' (Value.slice A2' n2 cap2').ownBlock := fun W hW hv => by
        have hof := ((unhide S8).below hW).o.f
        rw [hl2] at hof
        refine (insertFil_any (.slice A2' n2 cap2') n2 i a.fs E f w8.heap.size W hof (by omega) hv (fun e => by have := (unhide S8).ob w8.heap.size (.inr e); have := (unhide S8).lt; omega) hin (by have := hW.size; have := (unhide S8).ep; have := (unhide S8).lt; omega)).mono ?_
        rintro e w' ⟨v', he, ho, hg⟩
        obtain ⟨A3, cap3, rfl, _, _⟩ := filsAt_of_own ho
        exact ⟨A3, cap3, he, ho, hg⟩
      have CI := hide CI
      go_wp2_with fail
      refine (unhide CI _ (by exact (Below.refl _ _).alloc (Nat.le_refl _) _) ⟨by exact heap_alloc_new _ _⟩).mono ?_
      rintro e w9 ⟨A3, cap3, rfl, ho9, hg9⟩
      have hbe := (unhide S8).be
      have hep := (unhide S8).ep
      have hPl := (unhide S8).lt
      have hgo : ∀ g, (Value.slice A2' n2 cap2').ownBlock = some g → E ≤ g ∧ g < P := fun g hg => ⟨((unhide S8).o.f.lt g hg).1, (unhide S8).ob g (.inr hg)⟩
      have hsz8 : (w8.alloc (.cells (filA f) 61)).heap.size = w8.heap.size + 1 := by simp
      have hkeep : ∀ k, k < w8.heap.size → k < E ∨ P ≤ k → w9.heap[k]? = w8.heap[k]? := fun k hk1 hk2 => by
        rw [hg9.block k (by simp; omega) (fun e => by have := hgo k e.symm; omega)]
        exact Below.heap_alloc _ _ k hk1
      have hP9 : w9.heap[P]? = some (.cells #[.slice A' n cap', .slice A2' n2 cap2'] 33 (0, 0)) := by rw [hkeep P hPl (.inr (Nat.le_refl _))]; exact (unhide S8).p
      have hB9 : w9.heap[B + 1]? = some (.cells #[.slice none 0 0, .slice none 0 0] 33 (0, 0)) := by rw [hkeep (B + 1) (unhide S8).r.lt (.inl hbe)]; exact (unhide S8).r.z
      have hds9 : w9.ownsRow E 9 1 (.slice A' n cap') a.ds.length (a.ds.map strS) := by
        refine ((unhide S8).o.s.alloc _).kept hg9 ?_
        cases hA' : (Value.slice A' n cap').ownBlock with
        | none => exact .inl rfl
        | some g2 =>
          refine .inr (fun e => ?_)
          have hds := (unhide S8).o.s
          have hfs := (unhide S8).o.f
          rcases hds.2 with ⟨hv, _⟩ | ⟨g3, c2, cu2, hv, _, hg3, _⟩
          · rw [hv] at hA'; simp [Value.ownBlock] at hA'
          · rcases hfs.2 with ⟨hv2, _⟩ | ⟨g4, c4, cu4, hv2, _, hg4, _⟩
            · rw [hv2] at e; simp [Value.ownBlock] at e
            · rw [hv2] at e
              rw [hv] at hA'
              simp only [Value.ownBlock, Option.some.injEq] at e hA'
              subst hA'
              subst e
              rw [hg3] at hg4
              injection hg4 with hg4
              injection hg4 with _ hg4 _
              exact absurd hg4 (by decide)
      have hL9 : Below B w w9 := ((unhide S8).r.ab.bel.alloc (by have h9 := (unhide S8).r.lt; omega) _).grown hg9 (by have h9 := (unhide S8).r.lt; simp; omega) (fun j hj => by have h9 := hgo j hj; omega)
      have hgo3 := fun g (hg : (Value.slice A3 (n2 + 1) cap3).ownBlock = some g) => ho9.lt g hg
      obtain ⟨p0', p1', p2', p3'⟩ := two_cells hP9
      have hne3 : ∀ g, (Value.slice A3 (n2 + 1) cap3).ownBlock = some g → g ≠ P := fun g hg e => by
        subst e
        rcases ho9.2 with ⟨hv, _⟩ | ⟨g4, c4, cu4, hv, _, hg4, _⟩
        · rw [hv] at hg; simp [Value.ownBlock] at hg
        · rw [hv] at hg
          simp only [Value.ownBlock, Option.some.injEq] at hg
          subst hg
          rw [hP9] at hg4
          injection hg4 with hg4
          injection hg4 with _ hg4 _
          exact absurd hg4 (by decide)
      obtain ⟨w10, hw10⟩ : ∃ w10, w10 = w9.setCell ⟨P, 1, none⟩ (.slice A3 (n2 + 1) cap3) := ⟨_, rfl⟩
      have hrow10 : w10 = w9.setRow P #[.slice A' n cap', .slice A3 (n2 + 1) cap3] := by rw [hw10, setCell_eq_setRow w9 P 1 _ _ _ _ hP9]; rfl
      have hP10 : w10.heap[P]? = some (.cells #[.slice A' n cap', .slice A3 (n2 + 1) cap3] 33 (0, 0)) := by rw [hrow10]; exact setRow_heap _ _ _ _ _ _ hP9
      have hB10 : w10.heap[B + 1]? = some (.cells #[.slice none 0 0, .slice none 0 0] 33 (0, 0)) := by rw [hrow10, setRow_other _ P (B + 1) _ (by omega)]; exact hB9
      have hO10 : OwnA w10 E (.slice A' n cap') (.slice A3 (n2 + 1) cap3) ⟨a.ds, a.fs.take i ++ f :: a.fs.drop i⟩ := by
        rw [hrow10]
        refine ⟨own_setRow hds9 (fun g hg => by have := (unhide S8).ob g (.inl hg); omega) _, ?_⟩
        have hlen : (a.fs.take i ++ f :: a.fs.drop i).length = n2 + 1 := by simp; omega
        show (w9.setRow P _).ownsRow E 61 5 (.slice A3 (n2 + 1) cap3) (a.fs.take i ++ f :: a.fs.drop i).length _
        rw [hlen]
        exact own_setRow ho9 hne3 _
      have hL10 : Below B w w10 := by rw [hrow10]; exact below_setRow hL9 (by omega) _
      obtain ⟨e1, e2, e3⟩ := put_end hB10 hbe hO10 hL10
      obtain ⟨r0, r1, _, _⟩ := two_cells hP10
      have E1 := hide e1
      have E2 := hide e2
      have E3 := hide e3
      have HB10 := hide hB10
      have HW10 := hide hw10
      clear hgo hsz8 hkeep hP9 hB9 hds9 hL9 hgo3 hne3 hrow10 hP10 hB10 hO10 hL10 e1 e2 e3 hw10 ho9 hg9
      go_upto_region 19 with fail
      rw [← unhide HW10]
      go_wp2_with (refine wpList_store_row rfl 33 (.tmp 8) (.tmp 76) rfl (B + 1) #[.slice A' n cap', .slice A3 (n2 + 1) cap3] rfl rfl 33 _ (unhide HB10) sizeArc rfl (one_two _ _ _ _ _ _) ?_)
      refine bodyPost_ret (results_row_tmp rfl _ _ (B + 1) 33 #[.slice A' n cap', .slice A3 (n2 + 1) cap3] (0, 0) _ rfl (unhide E1) Tryz.underlying33 rfl sizeArc) rfl ⟨⟨_, _, rfl, unhide E2⟩, unhide E3⟩
end Go.Proofs.YtjpgoeimclipjaaGreat
namespace Go.Proofs.YtjpgoeimclipjaaGreat
open Go.RowKit Go.Lib Pl
attribute [local go_sem] ext_list app_list
/-- block p is a variable that holds an archive -/
structure AV (W : World) (p : Nat) (A : Option Addr) (n cap : Nat) (A2 : Option Addr) (n2 cap2 : Nat) (a : Arc) : Prop where
  o : W.heap[p]? = some (.cells #[.slice A n cap, .slice A2 n2 cap2] 33 (0, 0))
  i : ArcIn W A n A2 n2 a
section
variable {W W' : World} {p : Nat} {A : Option Addr} {n cap : Nat} {A2 : Option Addr} {n2 cap2 : Nat} {a : Arc}
theorem AV.lt (h : AV W p A n cap A2 n2 cap2 a) : p < W.heap.size := (Array.getElem?_eq_some_iff.1 h.o).1
theorem AV.below (h : AV W p A n cap A2 n2 cap2 a) (hb : Below W.heap.size W W') : AV W' p A n cap A2 n2 cap2 a := ⟨(hb.block _ h.lt).trans h.o, h.i.up hb⟩
theorem AV.drew (h : AV W p A n cap A2 n2 cap2 a) : AV W.drew p A n cap A2 n2 cap2 a := h.below (Below.refl _ _).drew
theorem AV.c (h : AV W p A n cap A2 n2 cap2 a) : W.cell? ⟨p, 0, none⟩ = some (.slice A n cap) ∧ W.cell? ⟨p, 1, none⟩ = some (.slice A2 n2 cap2) := ⟨(two_cells h.o).1, (two_cells h.o).2.1⟩
theorem AV.new (h : ArcIn W A n A2 n2 a) (cap cap2 : Nat) : AV ((W.alloc (.cells #[.slice none 0 0, .slice none 0 0] 33)).setRow W.heap.size #[.slice A n cap, .slice A2 n2 cap2]) W.heap.size A n cap A2 n2 cap2 a ∧ Below W.heap.size W ((W.alloc (.cells #[.slice none 0 0, .slice none 0 0] 33)).setRow W.heap.size #[.slice A n cap, .slice A2 n2 cap2]) := by
  have hb : Below W.heap.size W ((W.alloc (.cells #[.slice none 0 0, .slice none 0 0] 33)).setRow W.heap.size #[.slice A n cap, .slice A2 n2 cap2]) := below_setRow ((Below.refl _ _).alloc (Nat.le_refl _) _) (Nat.le_refl _) _
  exact ⟨⟨setRow_heap _ _ _ _ _ _ (heap_alloc_new _ _), h.up hb⟩, hb⟩
theorem AV.box (h : ArcIn W A n A2 n2 a) (cap cap2 : Nat) : AV (W.alloc (.cells #[.slice A n cap, .slice A2 n2 cap2] 33)) W.heap.size A n cap A2 n2 cap2 a := ⟨heap_alloc_new _ _, h.alloc _⟩
end
theorem own_cap {w : World} {base e size n cap : Nat} {A : Option Addr} {xs : List Value} (h : w.ownsRow base e size (.slice A n cap) n xs) : n ≤ cap := by
  rcases h.2 with ⟨hv, h0⟩ | ⟨g, cap', cur, hv, _, _, hn, _⟩
  · omega
  · injection hv with _ _ hc
    omega
/-- what a call that hands back an archive hands back -/
theorem ArcRes.open {base : Nat} {r : Arc × Nat} {e : Ending} {w : World} (h : ArcRes base r e w) : ∃ A n cap A2 n2 cap2, e = .returned (.tuple #[arcV A n cap A2 n2 cap2, I r.2]) ∧ ArcIn w A n A2 n2 r.1 ∧ n ≤ cap ∧ OwnA w base (.slice A n cap) (.slice A2 n2 cap2) r.1 := by
  obtain ⟨v1, v2, he, ho⟩ := h
  obtain ⟨A, cap, A2, cap2, rfl, rfl, hi⟩ := ho.form
  exact ⟨A, _, cap, A2, _, cap2, he, hi, own_cap ho.s, ho⟩
theorem OwnA.inn {w : World} {base : Nat} {A A2 : Option Addr} {n cap n2 cap2 : Nat} {a : Arc} (h : OwnA w base (.slice A n cap) (.slice A2 n2 cap2) a) : ArcIn w A n A2 n2 a := by
  obtain ⟨A', cap', A2', cap2', e1, e2, hi⟩ := h.form
  injection e1 with a1 a2 _
  injection e2 with b1 b2 _
  rw [a1, a2, b1, b2]; exact hi
theorem OwnA.setRow {w : World} {base p : Nat} {v1 v2 : Value} {a : Arc} (h : OwnA w base v1 v2 a) (hp : p < base) (c : Array Value) : OwnA (w.setRow p c) base v1 v2 a :=
  ⟨own_setRow h.s (fun k hk => by have := (h.s.lt k hk).1; omega) c, own_setRow h.f (fun k hk => by have := (h.f.lt k hk).1; omega) c⟩
theorem right_sz {a : Arc} (h : RightA a) : ArcSz a := by
  refine ⟨by have := h.nd; omega, by have := h.nf; omega, fun d hd => by have := h.sd d hd; omega, fun f hf => ?_⟩
  obtain ⟨h1, h2, h3, h4, h5, h6, h7, h8⟩ := file_nums h.nd h.sd (h.fr.each f hf)
  exact ⟨by omega, by omega, by omega, by omega, by omega, by omega, by omega, by omega⟩
theorem arc0_sz : ArcSz arc0 := right_sz arc0_right
theorem arc0_in (W : World) : ArcIn W none 0 none 0 arc0 := ⟨⟨rfl, fun h => absurd h (by omega)⟩, filsAt.nil _ _ _⟩
end Go.Proofs.YtjpgoeimclipjaaGreat
