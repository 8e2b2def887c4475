/- A map of the call's own from strings to numbers, as a function. -/
import Derived.Test.YtgfkkjcnnecefaaStrs
import Derived.Maps.OwnOps
import Derived.Maps.Views
import Derived.Maps.RangeWalk
namespace Go.Proofs.Ytgfkkjcnnecefaa
open Go.RowKit Go.Lib Pl Go.ChangeMaps Go.MapKept Go.ChangeShapes
open Go.WideElems (Fit)
open Go.Maps (Keyed string_keyed IsMap atKey_put_same atKey_put_other)

theorem keyedS : Keyed Try.prog 9 := string_keyed Try.underlying9
theorem zero_int (w : World) : (zeroValue 3).run Try.prog w = .ok (.int .i64 0) w := by kernel_rfl
theorem keyS {kb : Bytes} (h : kb.length ≤ 1000000000) : keyOf Try.prog 9 (S kb) = some (.string kb) := by
  have hsz : (⟨kb.toArray⟩ : ByteArray).size ≤ maxLen := by show kb.length ≤ _; unfold maxLen; omega
  have := WideMaps.keyOf_string_mk Try.underlying9 hsz
  have hkl : (⟨kb.toArray⟩ : ByteArray).data.toList = kb := by simp
  rw [hkl] at this; exact this

/-- Block b is a map of at most n entries that reads as f. -/
def NatMap (w : World) (b n : Nat) (f : Bytes → Nat) : Prop :=
  ∃ D : DataW Unit, w.ownsMap Try.prog 9 (plainElem Try.prog 3) b n D ∧ IsMap D ∧ ∀ kb : Bytes, D.atKey (.string kb) (.lit (.int .i64 0)) = .lit (.int .i64 (f kb))

theorem NatMap.made (w : World) : NatMap (w.alloc (.map #[] 0)) w.heap.size 0 fun _ => 0 :=
  ⟨.map [], World.ownsMap_made _ _ _ _, Go.Maps.isMap_empty, fun _ => rfl⟩
theorem NatMap.kept {w w' : World} {b n : Nat} {f : Bytes → Nat} {row : Option Nat} (h : NatMap w b n f) (hg : w.grownBy w' row) (hne : some b ≠ row) : NatMap w' b n f := by
  obtain ⟨D, ho, r⟩ := h
  exact ⟨D, ho.kept hg hne, r⟩
theorem NatMap.alloc {w : World} {b n : Nat} {f : Bytes → Nat} (h : NatMap w b n f) (o : Obj) : NatMap (w.alloc o) b n f := h.kept (World.grownBy_alloc w o none) (by simp)
theorem NatMap.lt {w : World} {b n : Nat} {f : Bytes → Nat} (h : NatMap w b n f) : b < w.heap.size := by
  obtain ⟨D, ho, r⟩ := h
  exact ho.lt
theorem NatMap.below {w w' : World} {b n : Nat} {f : Bytes → Nat} (h : NatMap w b n f) (hb : Below w.heap.size w w') : NatMap w' b n f := by
  have hlt := h.lt
  obtain ⟨D, ⟨es, clock, h1, r⟩, r2⟩ := h
  exact ⟨D, ⟨es, clock, (hb.block b hlt).trans h1, r⟩, r2⟩

/-- m[k] -/
theorem wpList_look {w : World} {ops : Array Oper} {rest : List Oper} {o : Oper} {a : Act} {Q : Exit → Act → World → Prop}
    (hg : o.guard = none) (m x : Operand) (hop : o.op = Op.lookup 104 m x false) (b n : Nat) (f : Bytes → Nat)
    (hm : a.eval m = .map (some b)) (h : NatMap w b n f) (kb : Bytes) (hx : a.eval x = S kb) (hkb : kb.length ≤ 1000000000)
    (hK : wpList Try.prog ops Q rest (a.put o.dst (I (f kb))) w) : wpList Try.prog ops Q (o :: rest) a w := by
  obtain ⟨D, ho, _, hr⟩ := h
  refine wpList_lookup_own_int w hg m x _ hop 9 3 .i64 keyedS Try.underlying104 Try.underlying3 (zero_int w) b n D hm ho _ _ hx (keyS hkb) ?_
  intro c hat _
  rw [hr kb] at hat
  injection hat with hat; injection hat with _ hat
  subst hat
  exact hK

/-- m[k] = v -/
theorem wpList_put {w : World} {ops : Array Oper} {rest : List Oper} {o : Oper} {a : Act} {Q : Exit → Act → World → Prop}
    (hg : o.guard = none) (m x v : Operand) (hop : o.op = Op.mapUpdate 104 m x v) (b n : Nat) (f : Bytes → Nat)
    (hm : a.eval m = .map (some b)) (h : NatMap w b n f) (kb : Bytes) (hx : a.eval x = S kb) (hkb : kb.length ≤ 1000000000) (c : Nat) (x' : Int) (hv : a.eval v = .int .i64 x') (hxc : x' = c) (hc : c ≤ 1000000000) (hn : n ≤ 1000000000)
    (hK : ∀ w', NatMap w' b (n + 1) (fun q => if q = kb then c else f q) → w.grownBy w' (some b) → wpList Try.prog ops Q rest (a.put o.dst undef) w') : wpList Try.prog ops Q (o :: rest) a w := by
  subst hxc
  obtain ⟨D, ho, hD, hr⟩ := h
  have hwf : (Lit.int .i64 (c : Int)).wf = true := WalkArith.wf_i64 ⟨by omega, by omega⟩
  refine wpList_mapUpdate_own w hg m x v _ hop 9 3 keyedS Try.underlying104 (plainElem Try.prog 3) b n D hm ho (by unfold maxLen; omega) _ _ _ hx hv (keyS hkb) _ [] (plainElem_int Try.underlying3 hwf) ?_
  intro w' h1 h2
  refine hK w' ⟨_, h1, hD.put _ _, fun q => ?_⟩ h2
  show (D.put (.string kb) (.lit (.int .i64 c))).atKey (.string q) (.lit (.int .i64 0)) = .lit (.int .i64 ((if q = kb then c else f q : Nat) : Int))
  by_cases hq : q = kb
  · rw [if_pos hq, hq, atKey_put_same hD (keyedS.key (keyS hkb))]
  · rw [if_neg hq, atKey_put_other (by intro e; injection e with e; exact hq e)]
    exact hr q

set_option maxRecDepth 100000 in
/-- the step of a range over such a map -/
theorem wpList_next_nat {w : World} {ops : Array Oper} {rest : List Oper} {o : Oper} {a : Act} {Q : Exit → Act → World → Prop}
    (hg : o.guard = none) (it : Operand) (hop : o.op = Op.next it false) (b r n : Nat) (D : DataW Unit) (f : Bytes → Nat) (hr : ∀ kb : Bytes, D.atKey (.string kb) (.lit (.int .i64 0)) = .lit (.int .i64 (f kb)))
    (left : Lit → Bool) (cnt : Nat) (hit : a.eval it = .pointer (some ⟨r, 0, none⟩)) (h : w.ranges Try.prog 9 (plainElem Try.prog 3) b r n D left cnt)
    (hDone : cnt = 0 → (∀ kl, left kl = false) → wpList Try.prog ops Q rest (a.put o.dst (.tuple #[.bool false])) w)
    (hMore : ∀ (kb : Bytes) (w' : World) (cnt' : Nat), left (.string kb) = true → w'.ranges Try.prog 9 (plainElem Try.prog 3) b r n D (fun z => left z && !z.sameKey (.string kb)) cnt' → cnt' < cnt →
      w.grownBy w' (some r) → w'.heap.size = w.heap.size → (Instr.entry (.pointer (some ⟨r, 0, none⟩))).run Try.prog w' = .ok (.tuple #[S kb, I (f kb)]) w' → wpList Try.prog ops Q rest (a.put o.dst (.tuple #[.bool true, S kb, I (f kb)])) w') :
    wpList Try.prog ops Q (o :: rest) a w := by
  refine wpList_next_ranges w hg it hop 9 keyedS (plainElem Try.prog 3) Value.string (Value.int .i64) (fun key kl hk => ?_) (fun v y hv => ?_) b r n D left cnt hit h hDone ?_
  · obtain ⟨s, hs, _⟩ := WideMaps.string_of_keyOf Try.underlying9 hk
    exact ⟨s, hs⟩
  · obtain ⟨c, hc, _⟩ := plainElem_int_inv Try.underlying3 hv
    exact ⟨c, hc⟩
  · intro s c kl y w' cnt' hkey hlk hv hat hrg hlt hgr hsz hen
    obtain ⟨s', hs, hkl, _⟩ := WideMaps.string_of_keyOf Try.underlying9 hkey
    injection hs with hs
    subst hs
    subst hkl
    obtain ⟨c', hc, hy, _⟩ := plainElem_int_inv Try.underlying3 hv
    injection hc with _ hc
    subst hc
    have hcf : c = (f s.data.toList : Nat) := by
      have h1 := (hr s.data.toList).symm.trans (hat (.lit (.int .i64 0)))
      rw [hy] at h1
      exact (Lit.int.inj (DataW.lit.inj h1)).2.symm
    subst hcf
    have hss : (Value.string s) = S s.data.toList := by simp
    rw [hss] at hen ⊢
    exact hMore _ w' cnt' hlk hrg hlt hgr hsz hen

theorem size_le {w : World} {b n : Nat} {D : DataW Unit} (h : w.ownsMap Try.prog 9 (plainElem Try.prog 3) b n D) : Go.Maps.size D ≤ n := by
  obtain ⟨es, clock, hb, F, hs, rfl⟩ := h
  simpa [Go.Maps.size, length_sorted] using hs

end Go.Proofs.Ytgfkkjcnnecefaa
