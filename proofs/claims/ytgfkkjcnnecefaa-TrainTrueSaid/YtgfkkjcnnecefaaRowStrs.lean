/- An argument that is a slice of strings, opened: it reads as a list; the library's variable. -/
import Derived.Test.YtgfkkjcnnecefaaRowToks
import Derived.Test.YtgfkkjcnnecefaaStrs
import Derived.HandedShaped
import Derived.Shelf.Vars
namespace Go.Proofs.Ytgfkkjcnnecefaa
open Go.ChangeShapes Go.WideShapes Go.Deep Go.RowKit Pl

theorem maxLen_of_shape {w : World} (h : w.ShapedOpen Try.prog) : MaxLenIs w :=
  Go.Proofs.cell_of_shapedOpen_int (zero := #[.int .i64 0]) (t := 3) h (of_decide_eq_true (by kernel_rfl)) (by kernel_rfl) rfl (by kernel_rfl) (by kernel_rfl) Try.underlying3

set_option maxRecDepth 100000 in
theorem open_strs {H : Type} {enc : TypeId × Value → H} {w : World} {base : Nat} {v : Value} {d : DataW H} {p : List MemPlace}
    (hok : Value.okWide Try.prog w .any base 54 v) (h : DataW.Trod enc Try.prog w 0 (fun _ => true) true 54 v d p) (hlt : ∀ x ∈ p, x.block < w.heap.size) :
    ∃ A n cap l, v = .slice A n cap ∧ StrsAt w w.heap.size A n l ∧ (∀ t ∈ l, t.length ≤ 9223372036854775807) ∧ (n = 0 ∨ ∃ es rest, d = .slice es rest ∧ es.length = n) := by
  obtain ⟨A, n, cap, rfl⟩ := okWide_slice Try.underlying54 hok
  obtain ⟨fuel, hf⟩ := h
  have hf : DataW.trod enc Try.prog w 0 (fun _ => true) true fuel 54 [.slice A n cap] = some (d, p) := hf
  rcases open_slice1 Try.underlying54 (by kernel_rfl) hf with ⟨hcs, hx⟩ | ⟨a, len, cap', m, k, D, Pl, V, hcs, _, hlc, hcm, hm, hx, hi⟩
  · injection hcs with hcs
    injection hcs with h1 h2 h3
    subst h1; subst h2
    exact ⟨_, _, _, [], rfl, ⟨rfl, fun h => absurd h (by omega)⟩, by simp, .inl rfl⟩
  · injection hcs with hcs
    injection hcs with h1 h2 h3
    subst h1; subst h2; subst h3
    have hm : m = cap := by simpa using hm
    subst hm
    injection hx with hd hp
    have hl : ∀ i, i < n → ∃ t : Bytes, w.cell? (a.add i) = some (S t) ∧ t.length ≤ 9223372036854775807 := by
      intro i hin
      obtain ⟨c0, t0⟩ := hi i (by omega)
      obtain ⟨s, hs, _, hsz⟩ := DataW.trod_string Try.underlying9 t0
      injection hs with hs
      rw [hs] at c0
      exact ⟨s.data.toList, c0, by unfold maxLen at hsz; exact hsz⟩
    obtain ⟨l, hll, hlp⟩ := list_of n _ hl
    refine ⟨_, n, m, l, rfl, ⟨hll, fun hn => ?_⟩, fun t ht => ?_, .inr ⟨_, _, hd, by simp⟩⟩
    · obtain ⟨b, off, spot⟩ := a
      have hspot : spot = none := by
        obtain ⟨t, c0, _⟩ := hl 0 hn
        simpa [Addr.add] using World.cell?_spot c0
      subst hspot
      have hb : b < w.heap.size := by
        refine hlt (.cell b off) ?_
        rw [hp]
        exact List.mem_append_left _ (MemPlace.mem_row.2 ⟨0, by omega, rfl⟩)
      refine ⟨b, off, rfl, hb, fun i t ht => ?_⟩
      have := (hlp i t ht).1
      simpa only [Go.WideShapes.add_plain] using this
    · obtain ⟨i, hi2⟩ := List.mem_iff_getElem?.1 ht
      exact (hlp i t hi2).2

end Go.Proofs.Ytgfkkjcnnecefaa
