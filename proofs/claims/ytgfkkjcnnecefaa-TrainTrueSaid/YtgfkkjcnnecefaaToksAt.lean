/- A slice of toks that reads as a list. -/
import Derived.Test.YtgfkkjcnnecefaaTokAny
namespace Go.Proofs.Ytgfkkjcnnecefaa
open Go.RowKit Go.Lib Pl

/-- The slice of address A and length n reads as the list l, below block Bd. -/
def ToksAt (w : World) (Bd : Nat) (A : Option Addr) (n : Nat) (l : List Tok) : Prop :=
  l.length = n ∧ (0 < n → ∃ b off, A = some ⟨b, off, none⟩ ∧ b < Bd ∧ ∀ i t, l[i]? = some t →
    w.cell? ⟨b, off + i * 3, none⟩ = some (S t.lit) ∧ w.cell? ⟨b, off + i * 3 + 1, none⟩ = some (I t.far) ∧ w.cell? ⟨b, off + i * 3 + 2, none⟩ = some (I t.len))

theorem ToksAt.keep {w w' : World} {Bd n : Nat} {A : Option Addr} {l : List Tok} (h : ToksAt w Bd A n l) (hk : ∀ p : Addr, p.block < Bd → w'.cell? p = w.cell? p) : ToksAt w' Bd A n l :=
  ⟨h.1, fun hn => by
    obtain ⟨b, off, e, hb, hc⟩ := h.2 hn
    refine ⟨b, off, e, hb, fun i t hi => ?_⟩
    obtain ⟨h1, h2, h3⟩ := hc i t hi
    exact ⟨(hk _ hb).trans h1, (hk _ hb).trans h2, (hk _ hb).trans h3⟩⟩
theorem ToksAt.below {w w' : World} {Bd n : Nat} {A : Option Addr} {l : List Tok} (h : ToksAt w Bd A n l) (hb : Below Bd w w') : ToksAt w' Bd A n l := h.keep fun _ hp => hb.cell hp
theorem ToksAt.at_ {w : World} {Bd n k : Nat} {A : Option Addr} {l : List Tok} (h : ToksAt w Bd A n l) (hk : k < n) : ∃ b off t, A = some ⟨b, off, none⟩ ∧ b < Bd ∧ l[k]? = some t ∧
    w.cell? ⟨b, off + k * 3, none⟩ = some (S t.lit) ∧ w.cell? ⟨b, off + k * 3 + 1, none⟩ = some (I t.far) ∧ w.cell? ⟨b, off + k * 3 + 2, none⟩ = some (I t.len) := by
  obtain ⟨b, off, e, hb, hc⟩ := h.2 (by omega)
  have hl : k < l.length := by have := h.1; omega
  exact ⟨b, off, l[k], e, hb, List.getElem?_eq_getElem hl, hc k _ (List.getElem?_eq_getElem hl)⟩

end Go.Proofs.Ytgfkkjcnnecefaa
