/- The library's sort at pieces, by the program's own order. -/
import Derived.Test.YtgfkkjcnnecefaaPieces
import Derived.Test.YtgfkkjcnnecefaaSortOwn
import Derived.Test.YtgfkkjcnnecefaaShelfB
import Derived.Deep.RegionHeld3
import Derived.Shelf.SlSortCmp.NoneTotal
namespace Go.Proofs.Ytgfkkjcnnecefaa
open Go.RowKit Go.Lib Pl Go.Sort
attribute [local go_sem] ext_list app_list

/-- cmp.Compare at strings -/
def cmpS (a b : Bytes) : Int := if lessB a b = true then -1 else if a = b then 0 else 1
theorem less_model : ∀ a b : Bytes, Op.bytesLess a b = lessB a b
  | _, [] => by cases ‹Bytes› <;> rfl
  | [], _ :: _ => rfl
  | a :: x, b :: y => by rw [Op.bytesLess, lessB, less_model x y]

set_option maxHeartbeats 1000000 in
theorem isNaNS_any (a : Bytes) (w : World) : Calls Try.prog 102 #[S a] w fun e w' => e = .returned (.bool false) ∧ w = w' := by
  go_enter Try.func102, Try.ntmps102
  go_wp2_with fail
  go_ret
  exact ⟨rfl, rfl⟩

set_option maxHeartbeats 1000000 in
theorem cmpStr_any (a b : Bytes) (w : World) : Calls Try.prog 87 #[S a, S b] w fun e w' => e = .returned (.int .i64 (cmpS a b)) ∧ w = w' := by
  have C1 := hide (fun (x : Bytes) (W : World) => isNaNS_any x W)
  by_cases h1 : lessB a b = true
  · have e1 : Op.bytesLess a b = true := by rw [less_model, h1]
    have e2 : cmpS a b = -1 := by unfold cmpS; rw [if_pos h1]
    rw [e2]
    clear e2 h1
    go_enter Try.func87, Try.ntmps87
    go_wp2_with (go_at_call 102; refine (unhide C1 _ _).mono ?_; rintro e w1 ⟨rfl, rfl⟩)
    go_ret
    exact ⟨rfl, rfl⟩
  · have e1 : Op.bytesLess a b = false := by rw [less_model]; simpa using h1
    by_cases h2 : a = b
    · subst h2
      have e2 : cmpS a a = 0 := by unfold cmpS; rw [if_neg h1, if_pos rfl]
      rw [e2]
      clear e2 h1
      go_enter Try.func87, Try.ntmps87
      go_wp2_with (go_at_call 102; refine (unhide C1 _ _).mono ?_; rintro e w1 ⟨rfl, rfl⟩)
      go_ret
      exact ⟨rfl, rfl⟩
    · have e3 : (a == b) = false := by simpa using h2
      have e2 : cmpS a b = 1 := by unfold cmpS; rw [if_neg h1, if_neg h2]
      rw [e2]
      clear e2 h1 h2
      go_enter Try.func87, Try.ntmps87
      go_wp2_with (go_at_call 102; refine (unhide C1 _ _).mono ?_; rintro e w1 ⟨rfl, rfl⟩)
      go_ret
      exact ⟨rfl, rfl⟩

def orI (a b : Int) : Int := if a = 0 then b else a

set_option maxHeartbeats 1000000 in
theorem cmpOr2_any (g : Nat) (a b : Int) (w : World) (h0 : w.cell? ⟨g, 0, none⟩ = some (.int .i64 a)) (h1 : w.cell? ⟨g, 1, none⟩ = some (.int .i64 b)) :
    Calls Try.prog 85 #[.slice (some ⟨g, 0, none⟩) 2 2] w fun e w' => e = .returned (.int .i64 (orI a b)) ∧ w = w' := by
  by_cases ha : a = 0
  · subst ha
    by_cases hb : b = 0
    · subst hb
      have e : orI 0 0 = 0 := rfl
      rw [e]
      clear e
      go_enter Try.func85, Try.ntmps85
      go_wp2_with fail
      go_loop [5, 8] (fun _ i => ∃ k : Nat, k ≤ 2 ∧ i = .int .i64 k) (fun _ i => 2 - (intOf i).toNat)
      case atStart => exact ⟨0, by omega, rfl⟩
      case round =>
        obtain ⟨k, hk, rfl⟩ := hrel
        match k, hk with
        | 0, _ =>
          go_wp2_with fail
          go_round
          case rel => exact ⟨1, by omega, rfl⟩
          case measure => simp [intOf]
        | 1, _ =>
          go_wp2_with fail
          go_round
          case rel => exact ⟨2, by omega, rfl⟩
          case measure => simp [intOf]
        | 2, _ =>
          go_wp2_with fail
          go_ret
          exact ⟨rfl, rfl⟩
    · have e : orI 0 b = b := rfl
      rw [e]
      have z1 : (b == 0) = false := beq_eq_false_iff_ne.2 hb
      have z2 : (b != 0) = true := bne_iff_ne.2 hb
      clear e hb
      go_enter Try.func85, Try.ntmps85
      go_wp2_with fail
      go_loop [5, 8] (fun _ i => ∃ k : Nat, k ≤ 1 ∧ i = .int .i64 k) (fun _ i => 1 - (intOf i).toNat)
      case atStart => exact ⟨0, by omega, rfl⟩
      case round =>
        obtain ⟨k, hk, rfl⟩ := hrel
        match k, hk with
        | 0, _ =>
          go_wp2_with fail
          go_round
          case rel => exact ⟨1, by omega, rfl⟩
          case measure => simp [intOf]
        | 1, _ =>
          go_wp2_with fail
          go_ret
          exact ⟨rfl, rfl⟩
  · have e : orI a b = a := by unfold orI; rw [if_neg ha]
    rw [e]
    have z1 : (a == 0) = false := beq_eq_false_iff_ne.2 ha
    have z2 : (a != 0) = true := bne_iff_ne.2 ha
    clear e ha
    go_enter Try.func85, Try.ntmps85
    go_wp2_with fail
    go_loop [5, 8] (fun _ i => i = .int .i64 0) (fun _ _ => 0)
    case atStart => rfl
    case round =>
      subst hrel
      go_wp2_with fail
      go_ret
      exact ⟨rfl, rfl⟩

theorem cell_new_at {W : World} {cs : Array Value} {t : TypeId} {H : Nat} (i : Nat) (h : W.heap.size = H) : (W.alloc (.cells cs t)).cell? ⟨H, i, none⟩ = cs[i]? := by
  subst h; exact World.cell?_alloc_new _ _ _ _

/-- the program's own order of pieces -/
def cmpP (x y : Bytes × Nat) : Int := orI (Lib.compareInt y.2 x.2) (cmpS x.1 y.1)
theorem cmpP_lt (x y : Bytes × Nat) : ltOf cmpP x y = better x y := by
  obtain ⟨a, n⟩ := x
  obtain ⟨b, m⟩ := y
  unfold ltOf cmpP better orI Lib.compareInt cmpS
  simp only
  by_cases h1 : (m : Int) < (n : Int)
  · rw [if_pos h1]
    have : m < n := by omega
    simp [this]
  · rw [if_neg h1]
    by_cases h2 : (m : Int) > (n : Int)
    · rw [if_pos h2]
      have h3 : ¬ m < n := by omega
      have h4 : (n == m) = false := by rw [beq_eq_false_iff_ne]; omega
      simp [h3, h4]
    · rw [if_neg h2]
      have h3 : n = m := by omega
      subst h3
      by_cases h4 : lessB a b = true
      · simp [h4]
      · by_cases h5 : a = b
        · subst h5; simp [h4]
        · simp [h4, h5]
theorem swoP : SWO (ltOf cmpP) where
  irrefl x := by rw [cmpP_lt]; exact better_irrefl x
  trans x y z h1 h2 := by rw [cmpP_lt] at *; exact better_trans h1 h2
  ntrans x y z h1 h2 := by
    rw [cmpP_lt] at *
    rw [Bool.eq_false_iff] at *
    intro h3
    cases h4 : better y x with
    | true => exact h2 (better_trans h4 h3)
    | false =>
      have := better_total (by simpa using h1) h4
      subst this
      exact h2 h3

set_option maxHeartbeats 2000000 in
set_option maxRecDepth 100000 in
theorem piecesLess_any (x y : Bytes × Nat) (w : World) :
    Calls Try.prog 84 #[.agg #[S x.1, I x.2], .agg #[S y.1, I y.2]] w fun e w' => e = .returned (.int .i64 (cmpP x y)) ∧ ∃ q os', w' = grow (w.drewN q) os' := by
  obtain ⟨c1, hc1⟩ : ∃ c, c = Lib.compareInt y.2 x.2 := ⟨_, rfl⟩
  obtain ⟨c2, hc2⟩ : ∃ c, c = cmpS x.1 y.1 := ⟨_, rfl⟩
  have K1 := fun (W : World) => Try.cmp_Compare_int y.2 x.2 W
  have K2 := fun (W : World) => cmpStr_any x.1 y.1 W
  have he : cmpP x y = orI c1 c2 := by unfold cmpP; rw [← hc1, ← hc2]
  rw [he]
  rw [← hc1] at K1
  rw [← hc2] at K2
  have K1 := hide K1
  have K2 := hide K2
  have K3 := hide (fun (g : Nat) (W : World) => cmpOr2_any g c1 c2 W)
  clear hc1 hc2 he
  go_enter Try.func84, Try.ntmps84
  go_wp2_with fail
  go_region_held3 (fun w' => w'.cell? ⟨w.heap.size, 0, none⟩ = some (S x.1) ∧ w'.cell? ⟨w.heap.size, 1, none⟩ = some (I x.2) ∧ w'.cell? ⟨w.heap.size + 1, 0, none⟩ = some (S y.1) ∧ w'.cell? ⟨w.heap.size + 1, 1, none⟩ = some (I y.2)) (first | go_keep)
    ((first
      | (go_at_call 86; refine (unhide K1 _).mono ?_; rintro e w1 ⟨rfl, rfl⟩)
      | (go_at_call 87; refine (unhide K2 _).mono ?_; rintro e w1 ⟨rfl, rfl⟩)
      | (go_at_call 85; refine (unhide K3 _ _ (by exact (cell_new_at 0 (by simp)).trans rfl) (by exact (cell_new_at 1 (by simp)).trans rfl)).mono ?_; rintro e w1 ⟨rfl, rfl⟩)))
  all_goals
    go_wp2_with fail
    go_ret
    refine ⟨rfl, 1, #[.cells #[S x.1, I x.2] 103, .cells #[S y.1, I y.2] 103, .cells #[.int .i64 c1, .int .i64 c2] 3], ?_⟩
    rw [alloc_eq_grow, alloc_eq_grow, alloc_eq_grow, grow_grow, grow_grow]
    rfl

theorem sortSpec : SortSpec := by
  intro W base v n o hown hn
  rcases hown.2 with ⟨hv, h0⟩ | ⟨g, cap, cur, hv, _⟩
  · subst h0
    have ho : o = [] := by
      have := hown.1
      rw [pcCells_len] at this
      exact List.eq_nil_of_length_eq_zero (by omega)
    subst ho
    subst hv
    have hcon := AnyF.slices_SortFunc_none Try.sortPiece none 0 (.func (.func 84) #[] #[]) W
    change Calls Try.prog 83 _ _ _ at hcon
    refine hcon.mono ?_
    rintro e w' ⟨rfl, rfl⟩
    exact ⟨rfl, [], List.Perm.refl _, List.Pairwise.nil, hown, Below.refl _ _⟩
  · subst hv
    obtain ⟨hH, hgl, hlen, hbg⟩ := holdsK_own pcCells 2 (fun _ => rfl) (by omega) hown
    have eg : ∀ args w, (callFunc 84 args).run Try.prog w = .ok (.enter 84 args) w := enters_of Try.func84 (by kernel_rfl) rfl
    have hcmp : CmpLays Try.prog 84 #[] pcCells 2 cmpP g 0 o.toArray.size W := fun _ _ _ _ x y => piecesLess_any x y _
    have hcon := AnyQ.slices_SortFunc Try.sortPiece 2 Try.isAgg103 Try.sizeOf103 pcCells (fun _ => rfl) (fun x v hv => by simp [pcCells] at hv; rcases hv with rfl | rfl <;> rfl) cmpP swoP 84 #[] g 0 cap o.toArray W eg hcmp hH hgl (by simp; omega)
    change Calls Try.prog 83 _ _ _ at hcon
    have hsz : o.toArray.size = n := by simpa using hlen
    rw [hsz] at hcon
    refine hcon.mono ?_
    rintro e w' ⟨rfl, d', m, os, hp, hs, rfl⟩
    rw [← hsz] at hp
    obtain ⟨hp1, hp2⟩ := perm_of hp
    have hss := sorted_of (n := n) (by rw [← hsz]; exact hp.1) hs
    have hres := sortWorld_own (o' := d'.toList) (m := m) (os := os) pcCells 2 (fun _ => rfl) (by omega) hown hp2
    refine ⟨rfl, d'.toList, hp1, ?_, hres⟩
    exact hss.imp fun {a b} h => by rw [← cmpP_lt]; exact h

end Go.Proofs.Ytgfkkjcnnecefaa
