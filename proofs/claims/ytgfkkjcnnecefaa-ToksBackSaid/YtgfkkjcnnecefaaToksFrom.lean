/- The walk of the reference's ToksFrom. -/
import Derived.Test.YtgfkkjcnnecefaaParseOf
import Derived.Test.YtgfkkjcnnecefaaFlush
import Derived.Test.YtgfkkjcnnecefaaRefCheck
import Derived.Test.YtgfkkjcnnecefaaToksOwn
import Derived.Test.YtgfkkjcnnecefaaNumsText
import Derived.Test.YtgfkkjcnnecefaaPureRead
namespace Go.Proofs.Ytgfkkjcnnecefaa
open Go.RowKit Go.Lib Pl
attribute [local go_sem] ext_list app_list

theorem tokFrom_none {s : Bytes} (h : take s = none) : tokFrom s = none := by unfold tokFrom; rw [h]
theorem tokFrom_short {s r : Bytes} {n : Nat} (h : take s = some (n, r)) (e : n % 2 = 0) (hl : r.length < n / 2) : tokFrom s = none := by
  unfold tokFrom; rw [h]; simp only; rw [if_pos e, if_pos hl]
theorem tokFrom_even {s r : Bytes} {n : Nat} (h : take s = some (n, r)) (e : n % 2 = 0) (hl : ¬ r.length < n / 2) : tokFrom s = some (⟨slice r 0 (n / 2), 0, 0⟩, slice r (n / 2) r.length) := by
  unfold tokFrom; rw [h]; simp only; rw [if_pos e, if_neg hl, slice_head, slice_end]
theorem tokFrom_oddno {s r : Bytes} {n : Nat} (h : take s = some (n, r)) (e : ¬ n % 2 = 0) (h2 : take r = none) : tokFrom s = none := by
  unfold tokFrom; rw [h]; simp only; rw [if_neg e, h2]
theorem tokFrom_odd {s r r2 : Bytes} {n f : Nat} (h : take s = some (n, r)) (e : ¬ n % 2 = 0) (h2 : take r = some (f, r2)) : tokFrom s = some (⟨[], (f : Nat), ((n / 2 : Nat) : Int)⟩, r2) := by
  unfold tokFrom; rw [h]; simp only; rw [if_neg e, h2]

def strLen : Value → Nat
  | .string b => b.data.toList.length
  | _ => 0
theorem strLen_S (l : Bytes) : strLen (S l) = l.length := rfl

/-- what ToksFrom hands back -/
def FromToks (w' : World) (e : Ending) (r : Option (List Tok)) : Prop :=
  ∃ v is, e = .returned (.tuple #[v, .bool is]) ∧ ((is = false ∧ v = .slice none 0 0 ∧ r = none) ∨ (is = true ∧ ∃ l, r = some l ∧ ToksV w' v l))
theorem FromToks.no {w' : World} {r : Option (List Tok)} (h : r = none) : FromToks w' (.returned (.tuple #[.slice none 0 0, .bool false])) r := ⟨_, _, rfl, .inl ⟨rfl, rfl, h⟩⟩

theorem toksOf_map {s rest r : Bytes} {o : List Tok} {t : Tok} (h : toksOf s = (toksOf rest).map (o ++ ·)) (hs : rest ≠ []) (ht : tokFrom rest = some (t, r)) :
    toksOf s = (toksOf r).map ((o ++ [t]) ++ ·) := by
  rw [h, toksOf_some hs ht, Option.map_map]
  congr 1
  funext x; simp

def FromRel (w wr : World) (s : Bytes) (v sv : Value) : Prop :=
  ∃ (n : Nat) (o : List Tok) (rest : Bytes), sv = S rest ∧ n ≤ 512 ∧ rest.length ≤ s.length ∧ wr.ownsRow w.heap.size 80 3 v n (toksCells o) ∧ toksOf s = (toksOf rest).map (o ++ ·) ∧ Below w.heap.size w wr

set_option maxHeartbeats 2000000 in
set_option maxRecDepth 100000 in
theorem toksFrom_any (dict s : Bytes) (w : World) (hd : dict.length ≤ 256) (hs : s.length ≤ 4611686018427387904) :
    Calls Try.prog 34 #[S dict, S s] w fun e w' => FromToks w' e (read dict s) ∧ Below w.heap.size w w' := by
  go_enter Try.func34, Try.ntmps34
  go_wp2_with fail
  go_loopw [6, 1] (fun v sv wr => FromRel w wr s v sv) (fun _ sv _ => strLen sv)
  case atStart => exact ⟨0, [], s, rfl, by omega, Nat.le_refl _, World.ownsRow_nil _ _ _ _, by simp, Below.refl _ _⟩
  case round =>
    obtain ⟨n, o, rest, rfl, hn, hrl, hown, hto, hbel⟩ := hrel
    obtain ⟨A, cap, rfl⟩ := own_slice hown
    have HTO := hide hto
    have HOWN := hide hown
    clear hto hown
    by_cases hr : rest = []
    · subst hr
      have hto2 : toksOf s = some o := by rw [unhide HTO, toksOf_nil]; simp
      obtain ⟨A', cap', hAe, hat, hlen⟩ := toksAt_of_own (unhide HOWN)
      obtain ⟨rfl, rfl⟩ : A = A' ∧ cap = cap' := by injection hAe with a b c; exact ⟨a, c⟩
      have HT2 := hide hto2
      have HAT := hide hat
      clear hto2 hAe hlen hat
      have C1 := hide (checkToks_any dict A n cap o wr (unhide HAT) (by omega) (by omega))
      by_cases hp : (play dict o).2 = 0
      · have hrd := read_good hd (unhide HT2) hp
        have HRD := hide hrd
        have e1 : (((play dict o).2 : Int) == 0) = true := by rw [hp]; rfl
        have e2 : (((play dict o).2 : Int) != 0) = false := by rw [hp]; rfl
        clear hrd hp
        go_wp2_with fail
        refine (unhide C1).mono ?_
        rintro e w1 ⟨rfl, hb1⟩
        go_wp2_with fail
        go_ret2
        have hat1 := (unhide HAT).below hb1
        refine ⟨⟨_, _, rfl, .inr ⟨rfl, o, unhide HRD, A, n, cap, rfl, ?_⟩⟩, hbel.trans (hb1.mono hbel.size)⟩
        exact ⟨hat1.1, fun hn => by obtain ⟨b, off, e, hb, hc⟩ := hat1.2 hn; exact ⟨b, off, e, Nat.lt_of_lt_of_le hb hb1.size, hc⟩⟩
      · have hrd := read_bad hd (unhide HT2) hp
        have HRD := hide hrd
        have e1 : (((play dict o).2 : Int) == 0) = false := by rw [beq_eq_false_iff_ne]; omega
        have e2 : (((play dict o).2 : Int) != 0) = true := by rw [bne_iff_ne]; omega
        clear hrd hp
        go_wp2_with fail
        refine (unhide C1).mono ?_
        rintro e w1 ⟨rfl, hb1⟩
        go_wp2_with fail
        go_ret2
        exact ⟨FromToks.no (unhide HRD), hbel.trans (hb1.mono hbel.size)⟩
    · have hr1 : rest.isEmpty = false := by simpa using hr
      have hr2 : (rest == []) = false := by simpa using hr
      have HR := hide hr
      have hsl : rest.length ≤ 9223372036854775807 := by omega
      clear hr
      cases hk : take rest with
      | none =>
        have C1 := hide (fun W => numFrom_no hk W hsl)
        have hrd : read dict s = none := read_none hd (by rw [unhide HTO, toksOf_none (unhide HR) (tokFrom_none hk)]; rfl)
        have HRD := hide hrd
        clear hrd hk
        go_wp2_with fail
        refine (unhide C1 _).mono ?_
        rintro e w1 ⟨rfl, hb1⟩
        go_wp2_with fail
        go_ret2
        exact ⟨FromToks.no (unhide HRD), hbel.trans (hb1.mono hbel.size)⟩
      | some p =>
        obtain ⟨q, r⟩ := p
        have C1 := hide (fun W => numFrom_ok hk W hsl)
        have hq : q ≤ 2147483647 := (take_some hk).2
        have hrlen := Pl.take_len hk
        obtain ⟨m, hm⟩ : ∃ m, m = q / 2 := ⟨_, rfl⟩
        have hm2 : (q : Int) / 2 = (m : Int) := by omega
        have hmb : m ≤ 1073741824 := by omega
        by_cases he : q % 2 = 0
        · have he2 : (q : Int) % 2 = 0 := by omega
          by_cases hsh : r.length < m
          · have hrd : read dict s = none := read_none hd (by rw [unhide HTO, toksOf_none (unhide HR) (tokFrom_short hk he (by omega))]; rfl)
            have HRD := hide hrd
            have hsh2 : decide (r.length < m) = true := by simp; omega
            clear hrd hk hm he
            go_wp2_with fail
            refine (unhide C1 _).mono ?_
            rintro e w1 ⟨rfl, hb1⟩
            go_wp2_with fail
            go_ret2
            exact ⟨FromToks.no (unhide HRD), (hbel.trans (hb1.mono hbel.size)).alloc (Nat.le_trans hbel.size hb1.size) _⟩
          · have hsh2 : decide (r.length < m) = false := by simp; omega
            have htf := tokFrom_even hk he (by omega)
            rw [← hm] at htf
            have htm := toksOf_map (unhide HTO) (unhide HR) htf
            have HTM := hide htm
            have HM := hide hm
            have hsl2 := slice_len r m r.length
            clear hk hm he htf htm
            go_wp2_with fail
            refine (unhide C1 _).mono ?_
            rintro e w1 ⟨rfl, hb1⟩
            have hbw := Nat.le_trans hbel.size hb1.size
            by_cases hmany : 512 < n + 1
            · go_wp2_with (at_builtin; refine wpList_push_tok_at rfl (.tmp 52) (.tmp 54) rfl w.heap.size _ n o rfl ((own_below (unhide HOWN) hb1).alloc _) (slice r 0 m) 0 0 (w1.heap.size + 1) (by simp) rfl (by omega) (by simp; omega) ?_; intro A4 cap4 w4 hown4 hb4 hg4)
              go_ret2
              have hrd : read dict s = none := read_many hd (unhide HTM) (by have := hown4.1; rw [toksCells_len] at this; omega)
              exact ⟨FromToks.no hrd, ((hbel.trans (hb1.mono hbel.size)).alloc hbw _).trans hb4⟩
            · go_wp2_with (at_builtin; refine wpList_push_tok_at rfl (.tmp 52) (.tmp 54) rfl w.heap.size _ n o rfl ((own_below (unhide HOWN) hb1).alloc _) (slice r 0 m) 0 0 (w1.heap.size + 1) (by simp) rfl (by omega) (by simp; omega) ?_; intro A4 cap4 w4 hown4 hb4 hg4)
              go_roundw
              case rel => exact ⟨n + 1, _, slice r m r.length, rfl, by omega, by omega, hown4, unhide HTM, ((hbel.trans (hb1.mono hbel.size)).alloc hbw _).trans hb4⟩
              case measure => simp [strLen]; omega
        · have he2 : (q : Int) % 2 = 1 := by omega
          cases hk2 : take r with
          | none =>
            have C2 := hide (fun W => numFrom_no hk2 W (by omega))
            have hrd : read dict s = none := read_none hd (by rw [unhide HTO, toksOf_none (unhide HR) (tokFrom_oddno hk he hk2)]; rfl)
            have HRD := hide hrd
            clear hrd hk hm he hk2
            go_wp2_with fail
            refine (unhide C1 _).mono ?_
            rintro e w1 ⟨rfl, hb1⟩
            have hbw := Nat.le_trans hbel.size hb1.size
            go_wp2_with fail
            refine (unhide C2 _).mono ?_
            rintro e w2 ⟨rfl, hb2⟩
            have B0 := (hb2.block w1.heap.size (by simp)).trans (heap_alloc_new w1 _)
            have K0 : w2.cell? ⟨w1.heap.size, 0, none⟩ = some (S []) := by rw [cell_of_row w2 _ 0 _ _ _ B0]; rfl
            have K1 : w2.cell? ⟨w1.heap.size, 1, none⟩ = some (I 0) := by rw [cell_of_row w2 _ 1 _ _ _ B0]; rfl
            have K2 : w2.cell? ⟨w1.heap.size, 2, none⟩ = some (I m) := by rw [cell_of_row w2 _ 2 _ _ _ B0]; rfl
            have F1 : w2.frozen? ⟨w1.heap.size, 1, none⟩ = false := free_row w2 _ 1 _ _ B0
            clear B0
            go_wp2_with fail
            go_ret2
            exact ⟨FromToks.no (unhide HRD), (((hbel.trans (hb1.mono hbel.size)).alloc hbw _).trans (hb2.mono (by simp; omega))).setCell (by simpa using hbw) _⟩
          | some p2 =>
            obtain ⟨f, r2⟩ := p2
            have C2 := hide (fun W => numFrom_ok hk2 W (by omega))
            have hr2len := Pl.take_len hk2
            have htf := tokFrom_odd hk he hk2
            rw [← hm] at htf
            have htm := toksOf_map (unhide HTO) (unhide HR) htf
            have HTM := hide htm
            clear hk hm he hk2 htf htm
            go_wp2_with fail
            refine (unhide C1 _).mono ?_
            rintro e w1 ⟨rfl, hb1⟩
            have hbw := Nat.le_trans hbel.size hb1.size
            go_wp2_with fail
            refine (unhide C2 _).mono ?_
            rintro e w2 ⟨rfl, hb2⟩
            have hz2 : w1.heap.size + 1 ≤ w2.heap.size := by have := hb2.size; simpa using this
            have B0 := (hb2.block w1.heap.size (by simp)).trans (heap_alloc_new w1 _)
            have K0 : w2.cell? ⟨w1.heap.size, 0, none⟩ = some (S []) := by rw [cell_of_row w2 _ 0 _ _ _ B0]; rfl
            have K1 : w2.cell? ⟨w1.heap.size, 1, none⟩ = some (I 0) := by rw [cell_of_row w2 _ 1 _ _ _ B0]; rfl
            have K2 : w2.cell? ⟨w1.heap.size, 2, none⟩ = some (I m) := by rw [cell_of_row w2 _ 2 _ _ _ B0]; rfl
            have F1 : w2.frozen? ⟨w1.heap.size, 1, none⟩ = false := free_row w2 _ 1 _ _ B0
            clear B0
            have hbX : Below w.heap.size w (w2.setCell ⟨w1.heap.size, 1, none⟩ (I f)) := (((hbel.trans (hb1.mono hbel.size)).alloc hbw _).trans (hb2.mono (by simp; omega))).setCell (by simpa using hbw) _
            have hownX : (w2.setCell ⟨w1.heap.size, 1, none⟩ (I f)).ownsRow w.heap.size 80 3 (.slice A n cap) n (toksCells o) := by
              have h1 := own_below (unhide HOWN) hb1
              have h2 := own_below (h1.alloc _) hb2
              exact row_keep h2 fun g hg => Below.heap_setCell _ _ _ _ (by have := (h1.lt g hg).2; simp; omega)
            have HBX := hide hbX
            have HOX := hide hownX
            clear hbX hownX
            by_cases hmany : 512 < n + 1
            · go_wp2_with (at_builtin; refine wpList_push_tok_at rfl (.tmp 52) (.tmp 54) rfl w.heap.size _ n o rfl (unhide HOX) [] f m w2.heap.size (by simp) rfl (by omega) (by simp; omega) ?_; intro A4 cap4 w4 hown4 hb4 hg4)
              go_ret2
              have hrd : read dict s = none := read_many hd (unhide HTM) (by have := hown4.1; rw [toksCells_len] at this; omega)
              exact ⟨FromToks.no hrd, (unhide HBX).trans hb4⟩
            · go_wp2_with (at_builtin; refine wpList_push_tok_at rfl (.tmp 52) (.tmp 54) rfl w.heap.size _ n o rfl (unhide HOX) [] f m w2.heap.size (by simp) rfl (by omega) (by simp; omega) ?_; intro A4 cap4 w4 hown4 hb4 hg4)
              go_roundw
              case rel => exact ⟨n + 1, _, r2, rfl, by omega, by omega, hown4, unhide HTM, (unhide HBX).trans hb4⟩
              case measure => simp [strLen]; omega

end Go.Proofs.Ytgfkkjcnnecefaa
