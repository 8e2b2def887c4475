/- toksBegun: what must be in any case. -/
import Derived.Test.YtgfkkjcnnecefaaRead
import Derived.Test.YtgfkkjcnnecefaaWrite
import Derived.Test.YtgfkkjcnnecefaaParse
import Derived.Test.YtgfkkjcnnecefaaSameToks
namespace Go.Proofs.Ytgfkkjcnnecefaa
open Go.RowKit Go.Lib Pl
attribute [local go_sem] ext_list app_list

theorem ToksAt.up {w w' : World} {n : Nat} {A : Option Addr} {l : List Tok} (h : ToksAt w w.heap.size A n l) (hb : Below w.heap.size w w') : ToksAt w' w'.heap.size A n l := by
  have h1 := h.below hb
  exact ⟨h1.1, fun hn => by obtain ⟨b, off, e, hlt, hc⟩ := h1.2 hn; exact ⟨b, off, e, Nat.lt_of_lt_of_le hlt hb.size, hc⟩⟩
theorem ToksV.up {w w' : World} {v : Value} {l : List Tok} (h : ToksV w v l) (hb : Below w.heap.size w w') : ToksV w' v l := by
  obtain ⟨A, n, cap, rfl, hat⟩ := h
  exact ⟨A, n, cap, rfl, hat.up hb⟩

theorem toksAt_lit (w : World) (l : List Tok) (n : Nat) (hn : l.length = n) : ToksAt (w.alloc (.cells (toksCells l).toArray 80)) (w.alloc (.cells (toksCells l).toArray 80)).heap.size (some ⟨w.heap.size, 0, none⟩) n l := by
  refine ⟨hn, fun _ => ⟨w.heap.size, 0, rfl, by simp, fun i t hi => ?_⟩⟩
  obtain ⟨a, b, c⟩ := toksCells_get l i t hi
  rw [Nat.zero_add, World.cell?_alloc_new, World.cell?_alloc_new, World.cell?_alloc_new]
  simp only [List.getElem?_toArray]
  exact ⟨a, b, c⟩

def l0 : List Tok := [⟨[120], 0, 0⟩, ⟨[], 4, 3⟩, ⟨[], 3, 6⟩, ⟨[122], 0, 0⟩]
theorem l0_parse : parse [97, 98, 99] [120, 97, 98, 99, 97, 98, 99, 97, 98, 99, 122] = l0 := by decide +kernel
theorem l0_play : play [97, 98, 99] l0 = ([120, 97, 98, 99, 97, 98, 99, 97, 98, 99, 122], 0) := by decide +kernel
theorem l0_write : write [97, 98, 99] l0 = ([2, 120, 7, 4, 13, 3, 2, 122], 0) := by decide +kernel
theorem l0_read : Pl.read [97, 98, 99] [2, 120, 7, 4, 13, 3, 2, 122] = some l0 := by decide +kernel
theorem l1_play : play [] [⟨[], 1, 3⟩] = ([], 1) := by decide +kernel

set_option maxHeartbeats 2000000 in
set_option maxRecDepth 100000 in
theorem toksBegun_any (w : World) : Calls Try.prog 26 #[] w fun e w' => e = .returned (.bool true) ∧ Below w.heap.size w w' := by
  have c1 := parse_walk [97, 98, 99] [120, 97, 98, 99, 97, 98, 99, 97, 98, 99, 122] w (by decide) (by decide)
  rw [l0_parse] at c1
  have c2 := fun (W : World) (A : Option Addr) (n cap : Nat) (h : ToksAt W W.heap.size A n l0) => play_any [97, 98, 99] A n cap l0 W h (by decide) (by rw [← h.1]; decide)
  rw [l0_play] at c2
  have c3 := fun (W : World) (A : Option Addr) (n cap : Nat) (h : ToksAt W W.heap.size A n l0) => write_any [97, 98, 99] A n cap l0 W h (by decide) (by rw [← h.1]; decide)
  rw [l0_write] at c3
  have c4 := fun (W : World) => read_walk [97, 98, 99] [2, 120, 7, 4, 13, 3, 2, 122] W (by decide) (by decide)
  rw [l0_read] at c4
  have c5 := fun (W : World) (A A2 : Option Addr) (n cap n2 cap2 : Nat) (h : ToksAt W W.heap.size A n l0) (h2 : ToksAt W W.heap.size A2 n2 l0) => sameToks_any A A2 n cap n2 cap2 l0 l0 W h h2 (by rw [← h.1]; decide)
  rw [decide_eq_true rfl] at c5
  have c6 := fun (W : World) (A : Option Addr) (n cap : Nat) (h : ToksAt W W.heap.size A n [⟨[], 1, 3⟩]) => check_any [] A n cap [⟨[], 1, 3⟩] W h (by decide) (by rw [← h.1]; decide)
  rw [l1_play] at c6
  have C1 := hide c1
  have C2 := hide c2
  have C3 := hide c3
  have C4 := hide c4
  have C5 := hide c5
  have C6 := hide c6
  clear c1 c2 c3 c4 c5 c6
  go_enter Try.func26, Try.ntmps26
  go_wp2_with fail
  refine (unhide C1).mono ?_
  rintro e w1 ⟨⟨v, rfl, A, n, cap, rfl, hat⟩, hb1⟩
  have HAT := hide hat
  clear hat
  go_wp2_with fail
  refine (unhide C2 _ _ _ _ (unhide HAT)).mono ?_
  rintro e w2 ⟨rfl, hb2⟩
  have HAT2 := hide ((unhide HAT).up hb2)
  go_wp2_with fail
  refine (unhide C3 _ _ _ _ (unhide HAT2)).mono ?_
  rintro e w3 ⟨rfl, hb3⟩
  have HAT3 := hide ((unhide HAT2).up hb3)
  go_wp2_with fail
  refine (unhide C4 _).mono ?_
  rintro e w4 ⟨⟨v2, err, rfl, h4⟩, hb4⟩
  have HAT4 := hide ((unhide HAT3).up hb4)
  rcases h4 with ⟨_, _, h4⟩ | ⟨rfl, lx, hlx, hv4⟩
  · cases h4
  injection hlx with hlx
  subst hlx
  obtain ⟨A2, n2, cap2, rfl, hat2⟩ := hv4
  have HBT4 := hide hat2
  clear hat2
  go_wp2_with fail
  have hl := toksAt_lit w4 l0 4 rfl
  have HL := hide hl
  have hba := (Below.refl w4.heap.size w4).alloc (Nat.le_refl _) (.cells (toksCells l0).toArray 80)
  have HBA := hide hba
  clear hl hba
  refine (unhide C5 _ _ _ _ _ _ _ ((unhide HAT4).up (unhide HBA)) (unhide HL)).mono ?_
  rintro e w5 ⟨rfl, hb5⟩
  have hb45 := (unhide HBA).trans (hb5.mono (unhide HBA).size)
  have HAT5 := hide ((unhide HAT4).up hb45)
  have HBT5 := hide ((unhide HBT4).up hb45)
  have HB45 := hide hb45
  clear hb45
  go_wp2_with fail
  refine (unhide C5 _ _ _ _ _ _ _ (unhide HBT5) (unhide HAT5)).mono ?_
  rintro e w6 ⟨rfl, hb6⟩
  go_wp2_with fail
  refine (unhide C6 _ _ _ _ (toksAt_lit w6 [⟨[], 1, 3⟩] 1 rfl)).mono ?_
  rintro e w7 ⟨rfl, hb7⟩
  go_wp2_with fail
  go_ret
  have b1 := (hb1.trans (hb2.mono hb1.size)).trans (hb3.mono (Nat.le_trans hb1.size hb2.size))
  have b2 := b1.trans (hb4.mono b1.size)
  have b3 := b2.trans ((unhide HB45).mono b2.size)
  have b4 := b3.trans (hb6.mono b3.size)
  have b5 := b4.trans (((Below.refl _ _).alloc (Nat.le_refl _) (.cells (toksCells [⟨[], 1, 3⟩]).toArray 80)).mono b4.size)
  exact ⟨rfl, b5.trans (hb7.mono b5.size)⟩

end Go.Proofs.Ytgfkkjcnnecefaa
