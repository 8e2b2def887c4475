/- The finder of copies, in memory: where each three bytes stand. -/
import Derived.Test.YtgfkkjcnnecefaaMaker
import Derived.Maps.OwnRows
import Derived.Maps.Views
namespace Go.Proofs.Ytgfkkjcnnecefaa
open Go.RowKit Go.Lib Pl Go.ChangeMaps Go.MapKept Go.ChangeShapes
open Go.WideElems (Fit)
open Go.Maps (Keyed string_keyed IsMap atKey_put_same atKey_put_other)

theorem keyed_str : Keyed Try.prog 9 := string_keyed Try.underlying9
theorem zero_ints (w : World) : (zeroValue 107).run Try.prog w = .ok (.slice none 0 0) w := by kernel_rfl

section
variable {P : Program}
theorem findNow_some {k : TypeId} (hk : P.underlying k = some .string) (s : ByteArray) : ∀ (es : List MapEntry) (i : Nat), (∀ e ∈ es, ∃ l, keyOf P k e.key = some l) → ∃ r, Instr.findNow .string (.string s) es i = some r
  | [], i, _ => ⟨_, rfl⟩
  | e :: es, i, h => by
    obtain ⟨l, hl⟩ := h e (by simp)
    have hst : ∃ t, e.key = .string t := by
      obtain ⟨t, ht, _⟩ := WideMaps.string_of_keyOf hk hl
      exact ⟨t, ht⟩
    obtain ⟨t, ht⟩ := hst
    obtain ⟨r, hr⟩ := findNow_some hk s es (i + 1) (fun e he => h e (by simp [he]))
    cases hst : (s == t)
    · exact ⟨r, by simp [Instr.findNow, Instr.sameNow, ht, hst, hr]⟩
    · exact ⟨some (i, e.val), by simp [Instr.findNow, Instr.sameNow, ht, hst]⟩

/-- what a look-up by a string answers hangs on the map's block alone -/
theorem lookup_same {t k E : TypeId} (hk : P.underlying k = some .string) (ht : P.underlying t = some (.map k E)) {z : Value} (hz : ∀ w, (zeroValue E).run P w = .ok z w) {b : Nat} {es : Array MapEntry} {clock : Nat}
    (hkeys : ∀ e ∈ es.toList, ∃ l, keyOf P k e.key = some l) (s : ByteArray) (hs : s.size ≤ maxLen) :
    ∃ v, ∀ w : World, w.heap[b]? = some (.map es clock) → (Instr.lookup t (.map (some b)) (.string s) false).run P w = .ok v w := by
  obtain ⟨r, hr⟩ := findNow_some hk s es.toList 0 hkeys
  have hc := fun w => (string_keyed hk).check w es.isEmpty (WideMaps.keyOf_string_mk hk hs)
  have hf : ∀ w, (Instr.findKey k (.string s) es.toList).run P w = .ok r w := fun w => by
    unfold Instr.findKey
    simp [run_underlying hk, hr]
  cases r with
  | none => exact ⟨z, fun w hb => by simp [Instr.lookup, run_underlying ht, MapKept.run_getObj_map hb, hc w, hf w, hz w, Result.andThen]⟩
  | some p => exact ⟨p.2, fun w hb => by obtain ⟨j, v⟩ := p; simp [Instr.lookup, run_underlying ht, MapKept.run_getObj_map hb, hc w, hf w, Result.andThen]⟩
end

/-- where three bytes stand, ahead of a place -/
def places (s : Bytes) (m : Nat) (kb : Bytes) : List Int := ((List.range m).filter (fun p => slice s p (p + 3) == kb)).map Int.ofNat
theorem places_succ (s : Bytes) (m : Nat) (kb : Bytes) : places s (m + 1) kb = places s m kb ++ (if slice s m (m + 3) = kb then [(m : Int)] else []) := by
  unfold places
  rw [List.range_succ, List.filter_append, List.map_append]
  congr 1
  by_cases h : slice s m (m + 3) = kb
  · simp [h]
  · simp [h]

/-- the datum at a key reads as the numbers -/
def Reads1 (d : DataW Unit) (zs : List Int) : Prop := (d = .nil ∧ zs = []) ∨ d = .slice (lits .i64 zs) []

/-- Block b is a map that holds where each three bytes of s stand ahead of m. -/
def Whr (w : World) (base b m : Nat) (s : Bytes) : Prop :=
  ∃ D : DataW Unit, w.ownsGroups Try.prog 9 base 3 .i64 b m D ∧ IsMap D ∧ ∀ kb : Bytes, Reads1 (D.atKey (.string kb) .nil) (places s m kb)

/-- Block F is a finder over s, that has noted all places ahead of m. -/
def Fd (w : World) (base F b m : Nat) (s : Bytes) : Prop :=
  w.heap[F]? = some (.cells #[S s, .map (some b), I m] 86 (0, 0)) ∧ Whr w base b m s

theorem lits_inj {a b : List Int} (h : (lits .i64 a : List (DataW Unit)) = lits .i64 b) : a = b := by
  unfold lits at h
  exact (List.map_inj_right (fun x y hxy => by injection hxy with h1; injection h1)).1 h

theorem reads_inj {a b : List Int} (h : (.slice (lits .i64 a) [] : DataW Unit) = .slice (lits .i64 b) []) : a = b := lits_inj (DataW.slice.inj h).1
theorem ok_inj {α : Type} {a b : α} {w w' : World} (h : (Result.ok a w : Result α) = .ok b w') : a = b := (Result.ok.inj h).1

/-- 'm[k]' on such a map: the value, what it owns, the run in whatever world the block is the same, and the way back -/
theorem Whr.at_ {w : World} {base b m : Nat} {s : Bytes} (h : Whr w base b m s) (hm : m ≤ 1000000) (kb : Bytes) (hkb : kb.length ≤ 1000000) :
    ∃ v, (∀ w' : World, w'.heap[b]? = w.heap[b]? → (Instr.lookup 84 (.map (some b)) (S kb) false).run Try.prog w' = .ok v w') ∧
      w.ownsInts base 3 .i64 v (places s m kb) ∧ b < base ∧
      (∀ (w1 : World) (v' : Value), w.grownBy w1 v.ownBlock → w1.ownsInts base 3 .i64 v' (places s m kb ++ [(m : Int)]) → (v'.ownBlock = v.ownBlock ∨ ∃ g, v'.ownBlock = some g ∧ w.heap.size ≤ g) → slice s m (m + 3) = kb →
        ∃ w2, (Instr.mapUpdate 84 (.map (some b)) (S kb) v').run Try.prog w1 = .ok () w2 ∧ Whr w2 base b (m + 1) s ∧ w1.grownBy w2 (some b)) := by
  obtain ⟨D, hg, hD, hr⟩ := h
  have hsz : (⟨kb.toArray⟩ : ByteArray).size ≤ maxLen := by show kb.length ≤ _; unfold maxLen; omega
  have hkey := WideMaps.keyOf_string_mk Try.underlying9 hsz
  have hkl : (⟨kb.toArray⟩ : ByteArray).data.toList = kb := by simp
  rw [hkl] at hkey
  obtain ⟨v, zs, hrun, hat, hoi, hzl, hback⟩ := hg.at keyed_str Try.underlying84 (zero_ints w) (by unfold maxLen; omega) hkey
  have hzs : zs = places s m kb := by
    have h1 := hr kb
    rw [hat] at h1
    rcases hoi.datum (H := Unit) with ⟨h2, h3⟩ | h2
    · rw [h2] at h1
      rcases h1 with ⟨_, h4⟩ | h4
      · rw [h3, h4]
      · cases h4
    · rw [h2] at h1
      rcases h1 with ⟨h4, _⟩ | h4
      · cases h4
      · exact reads_inj h4
  subst hzs
  have hg' := hg
  obtain ⟨es, clock, hb, F, hs, hDe, hbb, hlen, hap⟩ := hg
  obtain ⟨v2, hv2⟩ := lookup_same Try.underlying9 Try.underlying84 zero_ints F.keys ⟨kb.toArray⟩ hsz (b := b) (clock := clock)
  have hvv : v2 = v := by
    have h1 := hv2 w hb
    rw [hrun] at h1
    exact (ok_inj h1).symm
  subst hvv
  refine ⟨v2, fun w' hw' => hv2 w' (hw'.trans hb), hoi, hbb, ?_⟩
  intro w1 v' hg1 hown1 hloc hk
  have hlen1 : (places s m kb ++ [(m : Int)]).length ≤ m + 1 := by rw [List.length_append]; simp; exact hzl
  obtain ⟨w2, hrun2, hown2, hgr2⟩ := hback w1 v' _ hg1 hown1 hlen1 hloc
  refine ⟨w2, hrun2, ⟨_, hown2, hD.put _ _, ?_⟩, hgr2⟩
  intro kb'
  rw [places_succ, hk]
  by_cases he : kb' = kb
  · subst he
    rw [atKey_put_same hD (keyed_str.key hkey), if_pos rfl]
    exact .inr (hown1.datum_pos (by simp))
  · rw [atKey_put_other (by intro h; injection h with h; exact he h), if_neg (fun h => he h.symm), List.append_nil]
    exact hr kb'

theorem ints_keep {w w' : World} {base : Nat} {e : TypeId} {q : IntKind} {v : Value} {zs : List Int} (h : w.ownsInts base e q v zs) (hr : ∀ (g : Nat) (cs : Array Value), base ≤ g → w.heap[g]? = some (.cells cs e (0, 0)) → w'.heap[g]? = some (.cells cs e (0, 0))) : w'.ownsInts base e q v zs := by
  refine ⟨⟨h.1.1, ?_⟩, h.2⟩
  rcases h.1.2 with hn | ⟨g, cap, cur, hv, hbg, hgg, rest⟩
  · exact .inl hn
  · exact .inr ⟨g, cap, cur, hv, hbg, hr g cur hbg hgg, rest⟩

theorem Whr.keep {w w' : World} {base b m : Nat} {s : Bytes} (h : Whr w base b m s) (hb : w'.heap[b]? = w.heap[b]?) (hr : ∀ (g : Nat) (cs : Array Value), base ≤ g → w.heap[g]? = some (.cells cs 3 (0, 0)) → w'.heap[g]? = some (.cells cs 3 (0, 0))) : Whr w' base b m s := by
  obtain ⟨D, ⟨es, clock, hbk, F, hs, hDe, hbb, hlen, hap⟩, hD, hrd⟩ := h
  have hst : ∀ x ∈ es.toList, ∀ z, rowElem (H := Unit) w base 3 .i64 x.val = some z → rowElem (H := Unit) w' base 3 .i64 x.val = some z := by
    intro x _ z hz
    obtain ⟨zs, ho, rfl⟩ := rowElem_inv hz
    exact rowElem_mk (ints_keep ho hr)
  obtain ⟨F', hmap, _⟩ := F.stay hst
  refine ⟨D, ⟨es, clock, hb.trans hbk, F', hs, by rw [hDe, hmap], hbb, ?_, hap⟩, hD, hrd⟩
  intro x hx zs hzs
  obtain ⟨y, hy⟩ := F.reads x hx
  obtain ⟨zv, hzv, _⟩ := WideElems.rd_val hy
  obtain ⟨zs0, ho, _⟩ := rowElem_inv hzv
  have := hzs.unique (ints_keep ho hr)
  rw [this]
  exact hlen x hx zs0 ho

end Go.Proofs.Ytgfkkjcnnecefaa
