/- Parts of the proofs. -/
import Derived.Test.YtjpgoeimclipjaaGreatAd2
import Derived.Lib.AppendStr
import Derived.Lib.FrozenHead
import Derived.Shelf.Strings.Builder1
import Derived.Shelf.Strings.Builder2
import Derived.Shelf.Strings.OnBuilder
import Derived.Shelf.Small.Bits
import Derived.Shelf.Small.Wraps
import Derived.Shelf.Strings.BuilderF
import Derived.Shelf.Strings.BuilderK
import Derived.Shelf.Strings.Builder2Cap
import Derived.Shelf.Strconv.Itoa0
import Derived.Shelf.Strings.Search1
import Derived.Shelf.Strings.Search2
import Derived.Shelf.Strings.Search3
import Derived.Shelf.LaysM
import Derived.Shelf.Strings.Shaped
import Derived.Shelf.Sort.Plain
import Derived.Ground.GgwProg
import Derived.Shelf.Strings.Prefix
import Derived.Shelf.Strings.BuilderCap
import Derived.Shelf.Slices.Turned
import Derived.Ground.Names2Prog
import Derived.Shelf.Slices.Clone
import Derived.Shelf.Slices.SearchI
import Derived.Shelf.Slices.In.SortNone
import Derived.Ground.SlsfProg
import Derived.Shelf.SlSortCmp.Insertion
import Derived.Test.YtjpgoeimclipjaaGreatProg
import Derived.Lib.IndexMore
import Derived.RegionTactic
import Derived.Deep.QuietTactic
import Derived.BigQuiet
import Derived.Deep.RegionWith
import Derived.Deep.RegionHeld3
import Derived.Laws.ResultCell
import Derived.Deep.MidRow
import Derived.Deep.WholeRow
import Derived.Laws.CopyOwn
import Derived.Lib.SliceRun
import Derived.Lib.AppendZerosOnto
import Derived.Lib.Overlaps
namespace Go.Proofs.YtjpgoeimclipjaaGreat
open Go.RowKit Go.Lib
def Clear (fz : Nat × Nat) (n : Nat) : Prop := fz.2 ≤ fz.1 ∨ n ≤ fz.1
def OwnM (w : World) (base : Nat) (e : TypeId) (size : Nat) (v : Value) (n : Nat) (xs : List Value) : Prop :=
 xs.length = n * size ∧
 ((v = .slice none 0 0 ∧ n = 0) ∨
  ∃ g cap cur fz, v = .slice (some ⟨g, 0, none⟩) n cap ∧ base ≤ g ∧ w.heap[g]? = some (.cells cur e fz) ∧ Clear fz cur.size ∧ n ≤ cap ∧ cap ≤ maxLen ∧ cur.size = cap * size ∧ cur.toList.take (n * size) = xs)
section
variable {w : World} {base : Nat} {e : TypeId} {size : Nat} {v : Value} {n : Nat} {xs : List Value}
theorem OwnM.of (h : w.ownsRow base e size v n xs) : OwnM w base e size v n xs := by
 refine ⟨h.1, ?_⟩
 rcases h.2 with hn | ⟨g, cap, cur, hv, hb, hg, rest⟩
 ·exact .inl hn
 ·exact .inr ⟨g, cap, cur, (0, 0), hv, hb, hg, .inl (Nat.le_refl _), rest⟩
theorem OwnM.lt (h : OwnM w base e size v n xs) : ∀ k, v.ownBlock = some k → base ≤ k ∧ k < w.heap.size := by
 intro k hk
 rcases h.2 with ⟨rfl, _⟩ | ⟨g, cap, cur, fz, rfl, hb, hg, _⟩
 ·simp [Value.ownBlock] at hk
 ·simp [Value.ownBlock] at hk
  subst hk
  exact ⟨hb, (Array.getElem?_eq_some_iff.1 hg).1⟩
theorem OwnM.kept {w' : World} (h : OwnM w base e size v n xs) (hg : ∀ k, v.ownBlock = some k → w'.heap[k]? = w.heap[k]?) : OwnM w' base e size v n xs := by
 refine ⟨h.1, ?_⟩
 rcases h.2 with hn | ⟨g, cap, cur, fz, rfl, hb, hgg, rest⟩
 ·exact .inl hn
 ·exact .inr ⟨g, cap, cur, fz, rfl, hb, (hg g rfl).trans hgg, rest⟩
theorem OwnM.alloc (h : OwnM w base e size v n xs) (o : Obj) : OwnM (w.alloc o) base e size v n xs :=
 h.kept fun k hk => Below.heap_alloc w o k (h.lt k hk).2
theorem OwnM.drew (h : OwnM w base e size v n xs) : OwnM w.drew base e size v n xs := h
theorem OwnM.drewN (h : OwnM w base e size v n xs) (k : Nat) : OwnM (w.drewN k) base e size v n xs := h
theorem OwnM.mono {b : Nat} (h : OwnM w base e size v n xs) (hb : b ≤ base) : OwnM w b e size v n xs := by
 refine ⟨h.1, ?_⟩
 rcases h.2 with hn | ⟨g, cap, cur, fz, hv, hb', rest⟩
 ·exact .inl hn
 ·exact .inr ⟨g, cap, cur, fz, hv, Nat.le_trans hb hb', rest⟩
theorem OwnM.setCell (h : OwnM w base e size v n xs) {p : Addr} (hp : v.ownBlock ≠ some p.block) (u : Value) : OwnM (w.setCell p u) base e size v n xs :=
 h.kept fun k hk => Below.heap_setCell w p u k (fun e => hp (by rw [hk, e]))
theorem OwnM.cells (h : OwnM w base e size v n xs) {g : Nat} (hg : v.ownBlock = some g) : ∀ j u, xs[j]? = some u → w.cell? ((⟨g, 0, none⟩ : Addr).add j) = some u := by
 intro j u hu
 rcases h.2 with ⟨rfl, _⟩ | ⟨g', cap, cur, fz, rfl, _, hgg, _, _, _, _, htake⟩
 ·simp [Value.ownBlock] at hg
 ·simp [Value.ownBlock] at hg
  subst hg
  have hadd : (⟨g', 0, none⟩ : Addr).add j = ⟨g', j, none⟩ := by unfold Addr.add; split <;> simp_all
  rw [hadd, cell_of_row w g' j cur e fz hgg]
  rw [← htake, List.getElem?_take] at hu
  split at hu
  ·simpa using hu
  ·cases hu
theorem OwnM.at_ (h : OwnM w base e 1 v n xs) {k : Nat} (hk : k < n) : ∃ g cap u, v = .slice (some ⟨g, 0, none⟩) n cap ∧ base ≤ g ∧ xs[k]? = some u ∧ w.cell? ⟨g, k, none⟩ = some u := by
 have hx : k < xs.length := by have := h.1; omega
 rcases h.2 with ⟨_, rfl⟩ | ⟨g, cap, cur, fz, hv, hb, _⟩
 ·omega
 ·have hc := h.cells (g := g) (by rw [hv]; rfl) k _ (List.getElem?_eq_getElem hx)
  have hadd : (⟨g, 0, none⟩ : Addr).add k = ⟨g, k, none⟩ := by unfold Addr.add; split <;> simp_all
  rw [hadd] at hc
  exact ⟨g, cap, _, hv, hb, List.getElem?_eq_getElem hx, hc⟩
end
theorem OwnM.bytes (w : World) (e : TypeId) (s : ByteArray) (base : Nat) (hb : base ≤ w.heap.size) (hs : s.size ≤ maxLen) :
  OwnM (w.drew.alloc (.cells (bytesRow s (grownCap w s.size 0 e)) e ((bytesRow s (grownCap w s.size 0 e)).size, (bytesRow s (grownCap w s.size 0 e)).size + 1))) base e 1
   (.slice (some ⟨w.heap.size, 0, none⟩) s.size (grownCap w s.size 0 e)) s.size (strCells s) := by
 have hge := grownCap_ge w s.size 0 e
 refine ⟨by rw [strCells_length]; omega, .inr ⟨w.heap.size, _, _, _, rfl, hb, heap_alloc_new w.drew _, .inr (Nat.le_refl _), hge, grownCap_le_maxLen w _ _ e hs, ?_, ?_⟩⟩
 ·have hz : s.data.size = s.size := rfl
  simp [bytesRow, hz]; omega
 ·have hz : s.data.size = s.size := rfl
  simp only [bytesRow, Array.toList_append, Nat.mul_one]
  rw [List.take_append_of_le_length (by simp [hz])]
  rw [List.take_of_length_le (by simp [hz])]
  simp [strCells]
theorem run_storeCells_atM (P : Program) (g o : Nat) (t : TypeId) (fz : Nat × Nat) : ∀ (vs : List Value) (i : Nat) (cur : Array Value) (w : World), w.heap[g]? = some (.cells cur t fz) → Clear fz cur.size → o + i + vs.length ≤ cur.size → (∀ v ∈ vs, v.oneCell' = true) →
  (storeCells ⟨g, o, none⟩ vs i).run P w = .ok () (w.setRow g (cur.toList.take (o + i) ++ vs ++ cur.toList.drop (o + i + vs.length)).toArray)
 | [], i, cur, w, hg, _, _, _ => by
  simp only [storeCells, List.append_nil, List.length_nil, Nat.add_zero, List.take_append_drop, Array.toArray_toList]
  rw [setRow_self w g cur t fz hg]
  rfl
 | v :: rest, i, cur, w, hg, hfz, hl, h1 => by
  have hi : o + i < cur.size := by simp at hl; omega
  have hadd : (⟨g, o, none⟩ : Addr).add i = ⟨g, o + i, none⟩ := by unfold Addr.add; split <;> simp_all
  have hcell : w.cell? ⟨g, o + i, none⟩ = some cur[o + i] := by simp [World.cell?, hg, hi]
  have hfro : w.frozen? ⟨g, o + i, none⟩ = false := by
   obtain ⟨lo, hi'⟩ := fz
   simp only [World.frozen?, hg, Bool.and_eq_false_iff, decide_eq_false_iff_not]
   unfold Clear at hfz
   simp only at hfz
   omega
  have hst : (store ((⟨g, o, none⟩ : Addr).add i) v).run P w = .ok () (w.setRow g (cur.setIfInBounds (o + i) v)) := by
   rw [hadd, run_store P w _ v _ (h1 v (by simp)), hcell]
   simp [hfro, setCell_eq_setRow w g (o + i) cur t fz v hg]
  have ih := run_storeCells_atM P g o t fz rest (i + 1) (cur.setIfInBounds (o + i) v) (w.setRow g (cur.setIfInBounds (o + i) v)) (setRow_heap w g cur _ t _ hg) (by simpa using hfz) (by simp at hl ⊢; omega) (fun x hx => h1 x (by simp [hx]))
  simp only [storeCells, Sem.run_bind, hst, Result.andThen_ok, ih, setRow_setRow]
  congr 3
  have e := list_seg_step cur.toList (o + i) v rest (by simp at hl ⊢; omega)
  simpa [Array.toList_setIfInBounds, Nat.add_assoc] using e
section
variable {P : Program} (w : World)
theorem run_append_roomM (t ty e : TypeId) (i : TypeInfo) (ht : P.underlying t = some (.slice e)) (hi : P.info? e = some i)
  (g sLen sCap : Nat) (cur : Array Value) (fz : Nat × Nat) (hg : w.heap[g]? = some (.cells cur e fz)) (hfz : Clear fz cur.size)
  (a : Addr) (m c : Nat) (news : List Value) (hl : news.length = m * i.size) (hnews : ∀ j u, news[j]? = some u → w.cell? (a.add j) = some u) (h1 : ∀ u ∈ news, u.oneCell' = true)
  (hroom : sLen + m ≤ sCap) (hfit : sLen * i.size + news.length ≤ cur.size) :
  (Builtin.append_ #[t, t] ty #[.slice (some ⟨g, 0, none⟩) sLen sCap, .slice (some a) m c]).run P w =
   .ok (.slice (some ⟨g, 0, none⟩) (sLen + m) sCap) (w.setRow g (cur.toList.take (sLen * i.size) ++ news ++ cur.toList.drop (sLen * i.size + news.length)).toArray) := by
 have hf := run_firstCells_some (P := P) w i.size m a m c news hl hnews
 have hst := run_storeCells_atM P g (sLen * i.size) e fz news 0 cur w hg hfz (by simpa using hfit) h1
 simp only [Nat.add_zero] at hst
 simp [Builtin.append_, run_underlying ht, sizeOf, typeInfo, hi, Builtin.lenOf, hroom, hf, Addr.add_lit, hst]
theorem run_append_roomM_string (t u ty e : TypeId) (i : TypeInfo) (ht : P.underlying t = some (.slice e)) (hu : P.underlying u = some .string) (hi : P.info? e = some i) (hs1 : i.size = 1)
  (g sLen sCap : Nat) (cur : Array Value) (fz : Nat × Nat) (hg : w.heap[g]? = some (.cells cur e fz)) (hfz : Clear fz cur.size) (s : ByteArray)
  (hroom : sLen + s.size ≤ sCap) (hfit : sLen + s.size ≤ cur.size) :
  (Builtin.append_ #[t, u] ty #[.slice (some ⟨g, 0, none⟩) sLen sCap, .string s]).run P w =
   .ok (.slice (some ⟨g, 0, none⟩) (sLen + s.size) sCap) (w.setRow g (cur.toList.take sLen ++ strCells s ++ cur.toList.drop (sLen + s.size)).toArray) := by
 have hf := run_firstCells_string (P := P) w 1 s
 have hst := run_storeCells_atM P g sLen e fz (strCells s) 0 cur w hg hfz (by simpa [strCells_length] using hfit) (strCells_oneCell s)
 simp only [Nat.add_zero, strCells_length] at hst
 simp [Builtin.append_, run_underlying ht, run_underlying hu, sizeOf, typeInfo, hi, hs1, Builtin.lenOf, hroom, hf, Addr.add_lit, hst]
theorem run_append_M (base : Nat) (t ty e : TypeId) (i : TypeInfo) (z : Value) (size bytes : Nat) (ht : P.underlying t = some (.slice e)) (hi : P.info? e = some i) (hz : i.zero = some z)
  (hsize : i.size = size) (hby : i.bytes = bytes) (hzs : z.cells.size = size) (hsz : 0 < size)
  (v : Value) (n : Nat) (xs : List Value) (hown : OwnM w base e size v n xs)
  (a : Addr) (m c : Nat) (news : List Value) (hl : news.length = m * size) (hnews : ∀ j u, news[j]? = some u → w.cell? (a.add j) = some u) (h1 : ∀ u ∈ news, u.oneCell' = true)
  (h63 : n + m ≤ maxLen) (hbytes : (n + m) * bytes ≤ 140737488355328) (hbase : base ≤ w.heap.size) :
  ∃ v' w', (Builtin.append_ #[t, t] ty #[v, .slice (some a) m c]).run P w = .ok v' w' ∧ OwnM w' base e size v' (n + m) (xs ++ news) ∧ w.grownBy w' v.ownBlock ∧
   (v'.ownBlock = v.ownBlock ∨ v'.ownBlock = some w.heap.size) := by
 rcases hown.2 with ⟨rfl, rfl⟩ | ⟨g, cap, cur, fz, rfl, hbg, hg, hfz, hnc, hcm, hcs, htake⟩
 ·obtain ⟨v', w', hr, h2, h3, _, h5⟩ := run_append_own_at (P := P) w base t ty e i z size bytes ht hi hz hsize hby hzs hsz (.slice none 0 0) 0 xs ⟨hown.1, .inl ⟨rfl, rfl⟩⟩ a m c news hl hnews h1 h63 hbytes hbase
  exact ⟨v', w', hr, OwnM.of h2, h3, h5⟩
 ·subst hsize
  subst hby
  have hsmall : n + m ≤ 9223372036854775807 := by simp only [maxLen] at h63; omega
  have hlen : (xs ++ news).length = (n + m) * i.size := by rw [List.length_append, hown.1, hl, Nat.add_mul]
  by_cases hroom : n + m ≤ cap
  ·have hfit : n * i.size + news.length ≤ cur.size := by rw [hl, hcs, ← Nat.add_mul]; exact Nat.mul_le_mul_right _ hroom
   have hr := run_append_roomM (P := P) w t ty e i ht hi g n cap cur fz hg hfz a m c news hl hnews h1 hroom hfit
   have hcs2 : (cur.toList.take (n * i.size) ++ news ++ cur.toList.drop (n * i.size + news.length)).toArray.size = cur.size := by
    simp only [List.size_toArray, List.length_append, List.length_take, List.length_drop, Array.length_toList]
    omega
   refine ⟨_, _, hr, ⟨hlen, .inr ⟨g, cap, _, fz, rfl, hbg, setRow_heap w g cur _ e _ hg, by rw [hcs2]; exact hfz, hroom, hcm, by rw [hcs2]; exact hcs, ?_⟩⟩, ⟨rfl, rfl, rfl, by simp, fun k _ hk => setRow_other w g k _ (fun e => hk (by simp [Value.ownBlock, e]))⟩, .inl rfl⟩
   rw [htake, ← hlen]
   exact List.take_left
  ·have holds : ∀ j u, xs[j]? = some u → w.cell? ((⟨g, 0, none⟩ : Addr).add j) = some u := hown.cells (g := g) rfl
   have hr := run_append_grow (P := P) w t ty e i z ht hi hz ⟨g, 0, none⟩ n cap xs hown.1 holds a m c news hl hnews (by omega) (by omega) (growslice_fits (by omega) hbytes)
   have hge := grownCap_ge w (n + m) cap e
   have hcm2 : grownCap w (n + m) cap e ≤ maxLen := grownCap_le_maxLen w (n + m) cap e h63
   refine ⟨_, _, hr, ⟨hlen, .inr ⟨w.heap.size, _, _, (0, 0), rfl, hbase, heap_alloc_new w.drew _, .inl (Nat.le_refl _), hge, hcm2, ?_, ?_⟩⟩, ⟨rfl, rfl, rfl, by simp, fun k hk _ => Below.heap_alloc w.drew _ k hk⟩, .inr rfl⟩
   ·simp only [Array.size_append, List.size_toArray, size_zeroCells, hzs, hown.1, hl, ← Nat.add_mul]
    congr 1
    omega
   ·simp only [Array.toList_append, List.append_assoc]
    rw [← List.append_assoc, ← hlen]
    exact List.take_left
theorem run_append_M_string (base : Nat) (t u ty e : TypeId) (i : TypeInfo) (ht : P.underlying t = some (.slice e)) (hu : P.underlying u = some .string) (hi : P.info? e = some i) (hz : i.zero = some (.int .u8 0))
  (hsize : i.size = 1) (hby : i.bytes = 1)
  (v : Value) (n : Nat) (xs : List Value) (hown : OwnM w base e 1 v n xs) (s : ByteArray)
  (h63 : n + s.size ≤ maxLen) (hbytes : n + s.size ≤ 140737488355328) (hbase : base ≤ w.heap.size) :
  ∃ v' w', (Builtin.append_ #[t, u] ty #[v, .string s]).run P w = .ok v' w' ∧ OwnM w' base e 1 v' (n + s.size) (xs ++ strCells s) ∧ w.grownBy w' v.ownBlock ∧
   (v'.ownBlock = v.ownBlock ∨ v'.ownBlock = none ∨ ∃ g, v'.ownBlock = some g ∧ w.heap.size ≤ g) := by
 rcases hown.2 with ⟨rfl, rfl⟩ | ⟨g, cap, cur, fz, rfl, hbg, hg, hfz, hnc, hcm, hcs, htake⟩
 ·obtain ⟨v', w', h1, h2, h3, _⟩ := run_append_own_string (P := P) w w.heap.size t u ty e i ht hu hi hz hsize hby (.slice none 0 0) 0 xs ⟨hown.1, .inl ⟨rfl, rfl⟩⟩ s h63 hbytes (Nat.le_refl _)
  refine ⟨v', w', h1, (OwnM.of h2).mono hbase, h3, .inr ?_⟩
  cases hv : v'.ownBlock with
  | none => exact .inl rfl
  | some g => exact .inr ⟨g, rfl, (h2.lt g hv).1⟩
 ·have hsmall : n + s.size ≤ 9223372036854775807 := by simp only [maxLen] at h63; omega
  have hxl : xs.length = n := by simpa using hown.1
  have hlen : (xs ++ strCells s).length = (n + s.size) * 1 := by rw [List.length_append, hxl, strCells_length, Nat.mul_one]
  by_cases hroom : n + s.size ≤ cap
  ·have hcs' : cur.size = cap := by simpa using hcs
   have hr := run_append_roomM_string (P := P) w t u ty e i ht hu hi hsize g n cap cur fz hg hfz s hroom (by omega)
   have hcs2 : (cur.toList.take n ++ strCells s ++ cur.toList.drop (n + s.size)).toArray.size = cur.size := by
    simp only [List.size_toArray, List.length_append, List.length_take, List.length_drop, Array.length_toList, strCells_length]
    omega
   refine ⟨_, _, hr, ⟨hlen, .inr ⟨g, cap, _, fz, rfl, hbg, setRow_heap w g cur _ e _ hg, by rw [hcs2]; exact hfz, hroom, hcm, by rw [hcs2]; exact hcs, ?_⟩⟩, ⟨rfl, rfl, rfl, by simp, fun k _ hk => setRow_other w g k _ (fun e => hk (by simp [Value.ownBlock, e]))⟩, .inl rfl⟩
   have ht' : cur.toList.take n = xs := by simpa using htake
   rw [ht', ← hlen]
   exact List.take_left
  ·have holds : ∀ j u, xs[j]? = some u → w.cell? ((⟨g, 0, none⟩ : Addr).add j) = some u := hown.cells (g := g) rfl
   have hr := run_append_grow_string (P := P) w t u ty e i (.int .u8 0) ht hu hi hz ⟨g, 0, none⟩ n cap xs (by rw [hsize]; simpa using hxl) holds s (by omega) (by omega) (by rw [hby]; exact growslice_fits (by omega) (by omega))
   have hge := grownCap_ge w (n + s.size) cap e
   have hcm2 : grownCap w (n + s.size) cap e ≤ maxLen := grownCap_le_maxLen w (n + s.size) cap e h63
   refine ⟨_, _, hr, ⟨hlen, .inr ⟨w.heap.size, _, _, (0, 0), rfl, hbase, heap_alloc_new w.drew _, .inl (Nat.le_refl _), hge, hcm2, ?_, ?_⟩⟩, ⟨rfl, rfl, rfl, by simp, fun k hk _ => Below.heap_alloc w.drew _ k hk⟩, .inr (.inr ⟨_, rfl, Nat.le_refl _⟩)⟩
   ·have hz1 : (Value.int IntKind.u8 0).cells.size = 1 := rfl
    simp only [Array.size_append, List.size_toArray, size_zeroCells, hz1, hxl, strCells_length]
    omega
   ·simp only [Array.toList_append, List.append_assoc]
    rw [← List.append_assoc, ← hlen]
    exact List.take_left
end
section
variable {P : Program} {w : World}
theorem wp_append_M_string {o : Oper} {a : Act} {K : Act → World → Prop} {Q : Exit → Act → World → Prop} (sl x : Operand) (t u : TypeId)
  (ho : o.op = .call { callee := .builtin .append, args := #[sl, x], argTypes := #[t, u] })
  (base : Nat) (e : TypeId) (i : TypeInfo) (ht : P.underlying t = some (.slice e)) (hu : P.underlying u = some .string) (hi : P.info? e = some i) (hz : i.zero = some (.int .u8 0))
  (hsize : i.size = 1) (hby : i.bytes = 1)
  (v : Value) (n : Nat) (xs : List Value) (hs : a.eval sl = v) (hown : OwnM w base e 1 v n xs) (s : ByteArray) (hx : a.eval x = .string s)
  (h63 : n + s.size ≤ maxLen) (hbytes : n + s.size ≤ 140737488355328) (hbase : base ≤ w.heap.size)
  (h : ∀ A' cap' w', OwnM w' base e 1 (.slice A' (n + s.size) cap') (n + s.size) (xs ++ strCells s) → w.grownBy w' v.ownBlock →
   (Value.ownBlock (.slice A' (n + s.size) cap') = v.ownBlock ∨ Value.ownBlock (.slice A' (n + s.size) cap') = none ∨ ∃ g, Value.ownBlock (.slice A' (n + s.size) cap') = some g ∧ w.heap.size ≤ g) → K (a.put o.dst (.slice A' (n + s.size) cap')) w') : o.wp P a w K Q := by
 obtain ⟨v', w', hr, h2, h3, h4⟩ := run_append_M_string (P := P) w base t u o.type e i ht hu hi hz hsize hby v n xs hown s h63 hbytes hbase
 unfold Oper.wp execOp
 simp only [ho, resolve, invoke, builtin, Sem.run_bind, Sem.run_pure, Result.andThen_ok, List.map_toArray, List.map_cons, List.map_nil, hs, hx, hr]
 rcases h2.2 with ⟨rfl, hn⟩ | ⟨g, cap, cur, fz, rfl, _⟩
 ·have e1 : Value.slice none 0 0 = .slice none (n + s.size) 0 := by rw [hn]
  rw [e1] at h2 h4 ⊢
  exact h _ _ _ h2 h3 h4
 ·exact h _ _ _ h2 h3 h4
theorem step_append_M_string {ops : Array Oper} {o : Oper} {a : Act} {K : Act → World → Prop} {Q : Exit → Act → World → Prop} {E : Prop} (hgd : o.guard = none) (sl x : Operand) (t u : TypeId)
  (ho : o.op = .call { callee := .builtin .append, args := #[sl, x], argTypes := #[t, u] })
  (base : Nat) (e : TypeId) (i : TypeInfo) (ht : P.underlying t = some (.slice e)) (hu : P.underlying u = some .string) (hi : P.info? e = some i) (hz : i.zero = some (.int .u8 0))
  (hsize : i.size = 1) (hby : i.bytes = 1)
  (v : Value) (n : Nat) (xs : List Value) (hs : a.eval sl = v) (hown : OwnM w base e 1 v n xs) (s : ByteArray) (hx : a.eval x = .string s)
  (h63 : n + s.size ≤ maxLen) (hbytes : n + s.size ≤ 140737488355328) (hbase : base ≤ w.heap.size)
  (h : ∀ A' cap' w', OwnM w' base e 1 (.slice A' (n + s.size) cap') (n + s.size) (xs ++ strCells s) → w.grownBy w' v.ownBlock →
   (Value.ownBlock (.slice A' (n + s.size) cap') = v.ownBlock ∨ Value.ownBlock (.slice A' (n + s.size) cap') = none ∨ ∃ g, Value.ownBlock (.slice A' (n + s.size) cap') = some g ∧ w.heap.size ≤ g) → K (a.put o.dst (.slice A' (n + s.size) cap')) w') :
  if Region.wanted o (yielded ops a.tmps) = true then Oper.wp P o a w K Q else E := by
 have hw : Region.wanted o (yielded ops a.tmps) = true := by simp [Region.wanted, hgd]
 rw [if_pos hw]
 exact wp_append_M_string sl x t u ho base e i ht hu hi hz hsize hby v n xs hs hown s hx h63 hbytes hbase h
theorem wpList_push_M {ops : Array Oper} {rest : List Oper} {o : Oper} {a : Act} {Q : Exit → Act → World → Prop} (hgd : o.guard = none) (s x : Operand) (t : TypeId)
  (ho : o.op = .call { callee := .builtin .append, args := #[s, x], argTypes := #[t, t] })
  (base : Nat) (e : TypeId) (i : TypeInfo) (z : Value) (bytes : Nat) (ht : P.underlying t = some (.slice e)) (hi : P.info? e = some i) (hz : i.zero = some z)
  (hsize : i.size = 1) (hby : i.bytes = bytes) (hzs : z.cells.size = 1)
  (v : Value) (n : Nat) (xs : List Value) (hs : a.eval s = v) (u : Value) (te : TypeId) (hown : OwnM w base e 1 v n xs)
  (hx : a.eval x = .slice (some ⟨w.heap.size, 0, none⟩) 1 1) (h1 : u.oneCell' = true)
  (h63 : n + 1 ≤ maxLen) (hbytes : (n + 1) * bytes ≤ 140737488355328) (hbase : base ≤ w.heap.size)
  (h : ∀ g' cap' w', OwnM w' base e 1 (.slice (some ⟨g', 0, none⟩) (n + 1) cap') (n + 1) (xs ++ [u]) → (w.alloc (.cells #[u] te)).grownBy w' v.ownBlock →
   (some g' = v.ownBlock ∨ g' = w.heap.size + 1) → wpList P ops Q rest (a.put o.dst (.slice (some ⟨g', 0, none⟩) (n + 1) cap')) w') :
  wpList P ops Q (o :: rest) a (w.alloc (.cells #[u] te)) := by
 refine wpList_plain hgd fun K hK => ?_
 obtain ⟨v', w', hr, h2, h3, h4⟩ := run_append_M (P := P) (w.alloc (.cells #[u] te)) base t o.type e i z 1 bytes ht hi hz hsize hby hzs (by decide) v n xs (hown.alloc _) ⟨w.heap.size, 0, none⟩ 1 1 [u] rfl (cell_one_new _ _ _)
  (by intro y hy; simp at hy; subst hy; exact h1) h63 hbytes (by simp; omega)
 unfold Oper.wp execOp
 simp only [ho, resolve, invoke, builtin, Sem.run_bind, Sem.run_pure, Result.andThen_ok, List.map_toArray, List.map_cons, List.map_nil, hs, hx, hr]
 rcases h2.2 with ⟨_, hn⟩ | ⟨g, cap, cur, fz, rfl, _⟩
 ·omega
 ·refine hK _ _ (h _ _ _ h2 h3 ?_)
  rcases h4 with h4 | h4
  ·exact .inl h4
  ·right; simpa [Value.ownBlock] using h4
end
section
variable {P : Program} {w : World}
theorem run_str_zero (w : World) (p : Option Addr) (c : Nat) (src dst e : TypeId) (hs : P.underlying src = some (.slice e)) (he : P.underlying e = some (.int .u8)) (hd : P.underlying dst = some .string) :
  (convert src dst (.slice p 0 c)).run P w = .ok (S []) w := by
 rw [run_convert_bytes_string w src dst e p 0 c hs he hd]
 cases p with
 | none => rw [← run_convert_bytes_string w src dst e none 0 c hs he hd]; exact run_convert_nil_bytes w src dst e c hs he hd
 | some a =>
  have hl := run_loadCells_list (P := P) w a [] (fun j v hj => by simp at hj)
  exact run_bytesToString w a 0 c [] hl
theorem run_str_cut {base e : Nat} {A : Option Addr} {n cap k : Nat} {l : List UInt8} (h : OwnM w base e 1 (.slice A n cap) n (l.map B)) (src dst : TypeId)
  (hs : P.underlying src = some (.slice e)) (he : P.underlying e = some (.int .u8)) (hd : P.underlying dst = some .string) :
  (convert src dst (.slice (Option.map (fun x => x.add k) A) (n - k) (cap - k))).run P w = .ok (S (l.drop k)) w := by
 have hn : l.length = n := by have := h.1; simpa using this
 by_cases hk : n ≤ k
 ·rw [show n - k = 0 from by omega, List.drop_of_length_le (by omega)]
  exact run_str_zero w _ _ src dst e hs he hd
 ·rcases h.2 with ⟨hv, h0⟩ | ⟨g, cap', cur, fz, hv, _⟩
  ·omega
  ·injection hv with hA _ hc
   subst hA hc
   have hlen : (l.drop k).length = n - k := by rw [List.length_drop, hn]
   rw [← hlen]
   refine run_convert_bytes_back w src dst e _ _ (l.drop k) hs he hd ?_
   intro j hj
   have hkj : (l.map B)[k + j]? = some (B (l.drop k)[j]) := by
    rw [List.getElem?_map, ← List.getElem?_drop, List.getElem?_eq_getElem hj]; rfl
   have := h.cells (g := g) rfl (k + j) _ hkj
   rw [← this]
   congr 1
   unfold Addr.add
   by_cases hk0 : k = 0 <;> by_cases hj0 : j = 0 <;> simp [hk0, hj0]
end
theorem strCells_list (l : List UInt8) : strCells ⟨l.toArray⟩ = l.map B := by simp [strCells]
end Go.Proofs.YtjpgoeimclipjaaGreat
namespace Go.Proofs.YtjpgoeimclipjaaGreat
open Go.RowKit Go.Lib Pl
abbrev filV (t : Fil) : Value := .agg #[S t.name, I t.dict, I t.size, I t.sum, S t.block]
def filCells (t : Fil) : List Value := [S t.name, I t.dict, I t.size, I t.sum, S t.block]
def filsAt (w : World) (Bd : Nat) (A : Option Addr) (n : Nat) (l : List Fil) : Prop :=
 l.length = n ∧ (0 < n → ∃ b off, A = some ⟨b, off, none⟩ ∧ b < Bd ∧ ∀ i t, l[i]? = some t →
  w.cell? ⟨b, off + i * 5, none⟩ = some (S t.name) ∧ w.cell? ⟨b, off + i * 5 + 1, none⟩ = some (I t.dict) ∧ w.cell? ⟨b, off + i * 5 + 2, none⟩ = some (I t.size) ∧ w.cell? ⟨b, off + i * 5 + 3, none⟩ = some (I t.sum) ∧ w.cell? ⟨b, off + i * 5 + 4, none⟩ = some (S t.block))
theorem filsAt.keep {w w' : World} {Bd n : Nat} {A : Option Addr} {l : List Fil} (h : filsAt w Bd A n l) (hk : ∀ p : Addr, p.block < Bd → w'.cell? p = w.cell? p) : filsAt w' Bd A n l :=
 ⟨h.1, fun hn => by
  obtain ⟨b, off, e, hb, hc⟩ := h.2 hn
  refine ⟨b, off, e, hb, fun i t hi => ?_⟩
  obtain ⟨h0, h1, h2, h3, h4⟩ := hc i t hi
  exact ⟨(hk _ hb).trans h0, (hk _ hb).trans h1, (hk _ hb).trans h2, (hk _ hb).trans h3, (hk _ hb).trans h4⟩⟩
theorem filsAt.below {w w' : World} {Bd n : Nat} {A : Option Addr} {l : List Fil} (h : filsAt w Bd A n l) (hb : Below Bd w w') : filsAt w' Bd A n l := h.keep fun _ hp => hb.cell hp
theorem filsAt.up {w w' : World} {n : Nat} {A : Option Addr} {l : List Fil} (h : filsAt w w.heap.size A n l) (hb : Below w.heap.size w w') : filsAt w' w'.heap.size A n l := by
 have h1 := h.below hb
 exact ⟨h1.1, fun hn => by obtain ⟨b, off, e, hlt, hc⟩ := h1.2 hn; exact ⟨b, off, e, Nat.lt_of_lt_of_le hlt hb.size, hc⟩⟩
theorem filsAt.at_ {w : World} {Bd n k : Nat} {A : Option Addr} {l : List Fil} (h : filsAt w Bd A n l) (hk : k < n) : ∃ b off t, A = some ⟨b, off, none⟩ ∧ b < Bd ∧ l[k]? = some t ∧
  w.cell? ⟨b, off + k * 5, none⟩ = some (S t.name) ∧ w.cell? ⟨b, off + k * 5 + 1, none⟩ = some (I t.dict) ∧ w.cell? ⟨b, off + k * 5 + 2, none⟩ = some (I t.size) ∧ w.cell? ⟨b, off + k * 5 + 3, none⟩ = some (I t.sum) ∧ w.cell? ⟨b, off + k * 5 + 4, none⟩ = some (S t.block) := by
 obtain ⟨b, off, e, hb, hc⟩ := h.2 (by omega)
 have hl : k < l.length := by have := h.1; omega
 exact ⟨b, off, l[k], e, hb, List.getElem?_eq_getElem hl, hc k _ (List.getElem?_eq_getElem hl)⟩
theorem filsAt.nil (w : World) (Bd : Nat) (A : Option Addr) : filsAt w Bd A 0 [] := ⟨rfl, fun h => absurd h (by omega)⟩
def filsCells (l : List Fil) : List Value := l.flatMap filCells
theorem filsCells_len (l : List Fil) : (filsCells l).length = l.length * 5 := by
 induction l with
 | nil => rfl
 | cons t l ih => simp [filsCells, filCells] at ih ⊢; omega
theorem filsCells_snoc (l : List Fil) (t : Fil) : filsCells (l ++ [t]) = filsCells l ++ filCells t := by simp [filsCells]
theorem filsCells_app (l m : List Fil) : filsCells (l ++ m) = filsCells l ++ filsCells m := by simp [filsCells]
theorem filsCells_get : ∀ (l : List Fil) (i : Nat) (t : Fil), l[i]? = some t → (filsCells l)[i * 5]? = some (S t.name) ∧ (filsCells l)[i * 5 + 1]? = some (I t.dict) ∧ (filsCells l)[i * 5 + 2]? = some (I t.size) ∧ (filsCells l)[i * 5 + 3]? = some (I t.sum) ∧ (filsCells l)[i * 5 + 4]? = some (S t.block)
 | [], i, t, h => by simp at h
 | u :: l, 0, t, h => by simp at h; subst h; simp [filsCells, filCells]
 | u :: l, i + 1, t, h => by
  have h' : l[i]? = some t := by simpa using h
  obtain ⟨a0, a1, a2, a3, a4⟩ := filsCells_get l i t h'
  have e : filsCells (u :: l) = filCells u ++ filsCells l := by simp [filsCells]
  have hl : (filCells u).length = 5 := rfl
  rw [e]
  refine ⟨?_, ?_, ?_, ?_, ?_⟩
  ·rw [List.getElem?_append_right (by omega), hl, show (i + 1) * 5 - 5 = i * 5 from by omega]; exact a0
  ·rw [List.getElem?_append_right (by omega), hl, show (i + 1) * 5 + 1 - 5 = i * 5 + 1 from by omega]; exact a1
  ·rw [List.getElem?_append_right (by omega), hl, show (i + 1) * 5 + 2 - 5 = i * 5 + 2 from by omega]; exact a2
  ·rw [List.getElem?_append_right (by omega), hl, show (i + 1) * 5 + 3 - 5 = i * 5 + 3 from by omega]; exact a3
  ·rw [List.getElem?_append_right (by omega), hl, show (i + 1) * 5 + 4 - 5 = i * 5 + 4 from by omega]; exact a4
theorem info_fil : (Tryz.prog.info? 61).map (fun i => (i.zero, i.size, i.bytes)) = some (some (.agg #[.string ByteArray.empty, .int .i64 0, .int .i64 0, .int .i64 0, .string ByteArray.empty]), 5, 56) := by kernel_rfl
theorem filsAt_of_own {w : World} {base n : Nat} {v : Value} {l : List Fil} (h : w.ownsRow base 61 5 v n (filsCells l)) : ∃ A cap, v = .slice A n cap ∧ filsAt w w.heap.size A n l ∧ l.length = n := by
 have hn : l.length = n := by have := h.1; rw [filsCells_len] at this; omega
 rcases h.2 with ⟨rfl, h0⟩ | ⟨g, cap, cur, rfl, hb, hg, _⟩
 ·subst h0
  exact ⟨_, _, rfl, ⟨hn, fun h => absurd h (by omega)⟩, hn⟩
 ·refine ⟨_, _, rfl, ⟨hn, fun _ => ⟨g, 0, rfl, (Array.getElem?_eq_some_iff.1 hg).1, fun i t hi => ?_⟩⟩, hn⟩
  obtain ⟨a0, a1, a2, a3, a4⟩ := filsCells_get l i t hi
  have hc := h.cells (g := g) rfl
  have e : ∀ j, (⟨g, 0, none⟩ : Addr).add j = ⟨g, 0 + j, none⟩ := fun j => by unfold Addr.add; split <;> simp_all
  have h0 := hc _ _ a0
  have h1 := hc _ _ a1
  have h2 := hc _ _ a2
  have h3 := hc _ _ a3
  have h4 := hc _ _ a4
  rw [e] at h0
  rw [e] at h1
  rw [e] at h2
  rw [e] at h3
  rw [e] at h4
  exact ⟨h0, by rw [← h1, Nat.add_assoc], by rw [← h2, Nat.add_assoc], by rw [← h3, Nat.add_assoc], by rw [← h4, Nat.add_assoc]⟩
theorem fil_one (t : Fil) : ∀ y ∈ filCells t, y.oneCell' = true := by
 intro y hy
 simp [filCells] at hy
 rcases hy with rfl | rfl | rfl | rfl | rfl <;> rfl
end Go.Proofs.YtjpgoeimclipjaaGreat
namespace Go.Proofs.YtjpgoeimclipjaaGreat
open Go.RowKit Go.Lib Pl
structure Keeps (bad : Obj → Bool) (w w' : World) : Prop where
 size : w.heap.size ≤ w'.heap.size
 block : ∀ (k : Nat) (o : Obj), w.heap[k]? = some o → bad o = false → w'.heap[k]? = some o
section
variable {bad : Obj → Bool} {a b c : World}
theorem Keeps.refl (bad : Obj → Bool) (w : World) : Keeps bad w w := ⟨Nat.le_refl _, fun _ _ h _ => h⟩
theorem Keeps.trans (h : Keeps bad a b) (k : Keeps bad b c) : Keeps bad a c := ⟨Nat.le_trans h.size k.size, fun i o hi ho => k.block i o (h.block i o hi ho) ho⟩
theorem Keeps.drewN (h : Keeps bad a b) (n : Nat) : Keeps bad a (b.drewN n) := ⟨h.size, h.block⟩
theorem Keeps.alloc (h : Keeps bad a b) (o : Obj) : Keeps bad a (b.alloc o) :=
 ⟨Nat.le_trans h.size (by simp), fun i o' hi ho => by
  have h1 := h.block i o' hi ho
  rw [Below.heap_alloc b o i (by rcases Nat.lt_or_ge i b.heap.size with h2 | h2; exact h2; rw [Array.getElem?_eq_none h2] at h1; cases h1)]
  exact h1⟩
theorem Keeps.grown {row : Option Nat} (h : Keeps bad a b) (hg : b.grownBy c row) (hr : ∀ g, row = some g → ∃ o, b.heap[g]? = some o ∧ bad o = true) : Keeps bad a c :=
 ⟨Nat.le_trans h.size hg.size, fun i o hi ho => by
  have h1 := h.block i o hi ho
  have h2 : i < b.heap.size := by
   rcases Nat.lt_or_ge i b.heap.size with h2 | h2
   ·exact h2
   ·rw [Array.getElem?_eq_none h2] at h1; cases h1
  rw [hg.block i h2 (fun e => ?_)]
  ·exact h1
  ·obtain ⟨o2, h3, h4⟩ := hr i e.symm
   rw [h1] at h3; injection h3 with h3; subst h3; rw [ho] at h4; cases h4⟩
theorem Keeps.setCell (h : Keeps bad a b) {p : Addr} (u : Value) {o : Obj} (hp : b.heap[p.block]? = some o) (hb : bad o = true) : Keeps bad a (b.setCell p u) :=
 ⟨by have h1 := h.size; simpa [World.setCell] using h1, fun i o' hi ho => by
  have h1 := h.block i o' hi ho
  rw [Below.heap_setCell b p u i (fun e => by subst e; rw [hp] at h1; injection h1 with h1; subst h1; rw [ho] at hb; cases hb)]
  exact h1⟩
theorem Keeps.of_below (h : Below a.heap.size a b) : Keeps bad a b :=
 ⟨h.size, fun i o hi _ => by
  have h2 : i < a.heap.size := by
   rcases Nat.lt_or_ge i a.heap.size with h2 | h2
   ·exact h2
   ·rw [Array.getElem?_eq_none h2] at hi; cases hi
  rw [h.block i h2]; exact hi⟩
theorem Keeps.own {base : Nat} {e : TypeId} {size n : Nat} {v : Value} {xs : List Value} (h : Keeps bad a b) (ho : OwnM a base e size v n xs) (hb : ∀ cs fz, bad (.cells cs e fz) = false) : OwnM b base e size v n xs := by
 refine ⟨ho.1, ?_⟩
 rcases ho.2 with hn | ⟨g, cap, cur, fz, hv, hbg, hgg, rest⟩
 ·exact .inl hn
 ·exact .inr ⟨g, cap, cur, fz, hv, hbg, h.block g _ hgg (hb _ _), rest⟩
theorem Keeps.ownsRow {base : Nat} {e : TypeId} {size n : Nat} {v : Value} {xs : List Value} (h : Keeps bad a b) (ho : a.ownsRow base e size v n xs) (hb : ∀ cs fz, bad (.cells cs e fz) = false) : b.ownsRow base e size v n xs := by
 refine ⟨ho.1, ?_⟩
 rcases ho.2 with hn | ⟨g, cap, cur, hv, hbg, hgg, rest⟩
 ·exact .inl hn
 ·exact .inr ⟨g, cap, cur, hv, hbg, h.block g _ hgg (hb _ _), rest⟩
end
def badMk : Obj → Bool
 | .cells _ t _ => t == 5 || t == 225
 | _ => false
def Mk (w : World) (base M d : Nat) (lit : Bool) (s : Bytes) : Prop :=
 base ≤ M ∧ ∃ A cap, w.heap[M]? = some (.cells #[.slice A s.length cap, .int .i64 d, .bool lit] 225 (0, 0)) ∧ OwnM w base 5 1 (.slice A s.length cap) s.length (s.map B)
theorem set_row {w : World} {g : Nat} {cs : Array Value} {t : TypeId} {fz : Nat × Nat} (h : w.heap[g]? = some (.cells cs t fz)) (i : Nat) (u : Value) :
  (w.setCell ⟨g, i, none⟩ u).heap[g]? = some (.cells (cs.setIfInBounds i u) t fz) := by
 simp [World.setCell, Array.getElem?_modify, h]
theorem size_setCell (w : World) (p : Addr) (u : Value) : (w.setCell p u).heap.size = w.heap.size := by simp [World.setCell]
theorem mk_far {w : World} {base M n : Nat} {cs : Array Value} {fz : Nat × Nat} {v : Value} {xs : List Value} (hblk : w.heap[M]? = some (.cells cs 225 fz)) (hown : OwnM w base 5 1 v n xs) : v.ownBlock ≠ some M := by
 rcases hown.2 with ⟨rfl, _⟩ | ⟨g, cap, cur, fz', rfl, _, hg, _⟩
 ·simp [Value.ownBlock]
 ·intro e
  have : g = M := by simpa [Value.ownBlock] using e
  subst this
  rw [hblk] at hg
  injection hg with hg
  injection hg with _ h2
  exact absurd h2 (by decide)
theorem mk_after {w W w1 : World} {base M n : Nat} {cs : Array Value} {fz : Nat × Nat} {v : Value} {xs : List Value} (hblk : w.heap[M]? = some (.cells cs 225 fz)) (hown : OwnM w base 5 1 v n xs)
  (hW : Below w.heap.size w W) (hg : W.grownBy w1 v.ownBlock) : w1.heap[M]? = some (.cells cs 225 fz) := by
 have hlt : M < w.heap.size := (Array.getElem?_eq_some_iff.1 hblk).1
 exact (hg.block M (Nat.lt_of_lt_of_le hlt hW.size) (fun e => mk_far hblk hown e.symm)).trans ((hW.block M hlt).trans hblk)
theorem below_drewN_alloc (w : World) (k : Nat) (o : Obj) : Below w.heap.size w ((w.drewN k).alloc o) := (_root_.Go.below_drewN (Below.refl _ _) k).alloc (Nat.le_refl _) o
theorem mk_end {w W w1 w2 : World} {base M d : Nat} {lit lit2 : Bool} {A A1 : Option Addr} {cap cap1 n1 : Nat} {s s1 : Bytes}
  (hbM : base ≤ M) (hblk : w.heap[M]? = some (.cells #[.slice A s.length cap, .int .i64 d, .bool lit] 225 (0, 0))) (hown : OwnM w base 5 1 (.slice A s.length cap) s.length (s.map B))
  (hW : Below w.heap.size w W) (hown1 : OwnM w1 base 5 1 (.slice A1 n1 cap1) n1 (s1.map B)) (hg : W.grownBy w1 (Value.ownBlock (.slice A s.length cap)))
  (h2 : w2.heap[M]? = some (.cells #[.slice A1 n1 cap1, .int .i64 d, .bool lit2] 225 (0, 0))) (h3 : ∀ k, k ≠ M → w2.heap[k]? = w1.heap[k]?) (h4 : w2.heap.size = w1.heap.size)
  (h5 : w2.os = w1.os) (h6 : w2.tape = w1.tape) (h7 : w2.output = w1.output) :
  Mk w2 base M d lit2 s1 ∧ Below base w w2 ∧ Keeps badMk w w2 := by
 have hn : n1 = s1.length := by have := hown1.1; simp at this; omega
 subst hn
 have hMlt : M < w.heap.size := (Array.getElem?_eq_some_iff.1 hblk).1
 have hm1 : w1.heap[M]? = some (.cells #[.slice A s.length cap, .int .i64 d, .bool lit] 225 (0, 0)) :=
  (hg.block M (Nat.lt_of_lt_of_le hMlt hW.size) (fun e => mk_far hblk hown e.symm)).trans ((hW.block M hMlt).trans hblk)
 have hfar1 := mk_far hm1 hown1
 refine ⟨⟨hbM, A1, cap1, h2, hown1.kept fun k hk => h3 k (fun e => hfar1 (by rw [hk, e]))⟩, ⟨?_, ?_, ?_, ?_, ?_⟩, ⟨?_, ?_⟩⟩
 ·rw [h5, hg.os, hW.os]
 ·rw [h6, hg.tape, hW.tape]
 ·rw [h7, hg.output, hW.output]
 ·rw [h4]; exact Nat.le_trans hW.size hg.size
 ·intro k hk
  rw [h3 k (by omega), hg.block k (Nat.lt_of_lt_of_le (by omega) hW.size) (fun e => by have := (hown.lt k e.symm).1; omega), hW.block k (by omega)]
 ·rw [h4]; exact Nat.le_trans hW.size hg.size
 ·intro k o ho hbad
  have hk : k < w.heap.size := (Array.getElem?_eq_some_iff.1 ho).1
  have hne : k ≠ M := fun e => by
   subst e; rw [hblk] at ho; injection ho with ho; subst ho; simp [badMk] at hbad
  have hnr : some k ≠ Value.ownBlock (.slice A s.length cap) := fun e => by
   rcases hown.2 with ⟨hv, _⟩ | ⟨g, cap', cur, fz, hv, _, hgg, _⟩
   ·rw [hv] at e; simp [Value.ownBlock] at e
   ·rw [hv] at e
    have : k = g := by simpa [Value.ownBlock] using e
    subst this
    rw [hgg] at ho; injection ho with ho; subst ho; simp [badMk] at hbad
  rw [h3 k hne, hg.block k (Nat.lt_of_lt_of_le hk hW.size) hnr, hW.block k hk]
  exact ho
theorem Mk.alloc {w : World} {base M d : Nat} {lit : Bool} {s : Bytes} (h : Mk w base M d lit s) (o : Obj) : Mk (w.alloc o) base M d lit s := by
 obtain ⟨h1, A, cap, h2, h3⟩ := h
 exact ⟨h1, A, cap, (Below.heap_alloc w o M (Array.getElem?_eq_some_iff.1 h2).1).trans h2, h3.alloc o⟩
theorem Mk.made (w : World) (base : Nat) (dict : Bytes) (hb : base ≤ w.heap.size) (hd : dict.length ≤ 9223372036854775807) :
  Mk ((w.drew.alloc (.cells (bytesRow ⟨dict.toArray⟩ (grownCap w dict.length 0 5)) 5 ((bytesRow ⟨dict.toArray⟩ (grownCap w dict.length 0 5)).size, (bytesRow ⟨dict.toArray⟩ (grownCap w dict.length 0 5)).size + 1))).alloc
   (.cells #[.slice (some ⟨w.heap.size, 0, none⟩) dict.length (grownCap w dict.length 0 5), .int .i64 dict.length, .bool false] 225)) base (w.heap.size + 1) dict.length false dict := by
 have h := OwnM.bytes w 5 ⟨dict.toArray⟩ base hb (by unfold maxLen; exact hd)
 rw [strCells_list] at h
 refine ⟨by omega, _, _, ?_, h.alloc _⟩
 have := heap_alloc_new (w.drew.alloc (.cells (bytesRow ⟨dict.toArray⟩ (grownCap w dict.length 0 5)) 5 ((bytesRow ⟨dict.toArray⟩ (grownCap w dict.length 0 5)).size, (bytesRow ⟨dict.toArray⟩ (grownCap w dict.length 0 5)).size + 1)))
  (.cells #[.slice (some ⟨w.heap.size, 0, none⟩) dict.length (grownCap w dict.length 0 5), .int .i64 dict.length, .bool false] 225)
 have e : (w.drew.alloc (.cells (bytesRow ⟨dict.toArray⟩ (grownCap w dict.length 0 5)) 5 ((bytesRow ⟨dict.toArray⟩ (grownCap w dict.length 0 5)).size, (bytesRow ⟨dict.toArray⟩ (grownCap w dict.length 0 5)).size + 1))).heap.size = w.heap.size + 1 := by
  simp [World.alloc, World.drew, -World.alloc_eq, -World.drew_eq]
 rw [e] at this
 exact this
abbrev TokV (t : Tok) : Value := .agg #[S t.lit, I t.far, I t.len]
end Go.Proofs.YtjpgoeimclipjaaGreat
namespace Go.Proofs
open Go.Shelf
def Tryz.lays169_ren : Go.Shelf.Ren := ⟨fun | 169 => 58 | n => n, fun | 70 => 76 | 9 => 9 | 0 => 0 | 72 => 79 | 37 => 77 | 127 => 129 | 3 => 3 | 5 => 5 | n => n, fun | n => n⟩
theorem Tryz.lays169 : Go.Proofs.Lays.n169 Tryz.prog Tryz.lays169_ren := {
 mixed := by kernel_rfl
 f169 := Tryz.func58.trans (congrArg some (by kernel_rfl))
 t0 := Tryz.underlying0
 a0 := Tryz.isAgg0
 z0 := Tryz.sizeOf0
 v0 := Tryz.zeroValue0
 t3 := Tryz.underlying3
 a3 := Tryz.isAgg3
 z3 := Tryz.sizeOf3
 v3 := Tryz.zeroValue3
 t9 := Tryz.underlying9
 a9 := Tryz.isAgg9
 z9 := Tryz.sizeOf9
 v9 := Tryz.zeroValue9
 t37 := Tryz.underlying77
 a37 := Tryz.isAgg77
 z37 := Tryz.sizeOf77
 v37 := Tryz.zeroValue77
 t70 := Tryz.underlying76
 a70 := Tryz.isAgg76
 z70 := Tryz.sizeOf76
 v70 := Tryz.zeroValue76
 t72 := Tryz.underlying79
 a72 := Tryz.isAgg79
 z72 := Tryz.sizeOf79
 v72 := Tryz.zeroValue79
 t127 := Tryz.underlying129
 a127 := Tryz.isAgg129
 z127 := Tryz.sizeOf129
 v127 := Tryz.zeroValue129 }
theorem Tryz.Builder_Extra_169 : Builder.Extra Tryz.prog Tryz.lays169_ren := {
 sizeBuilder := by kernel_rfl
 liesBuilder := by kernel_rfl
 t5 := Tryz.underlying5
 a5 := Tryz.isAgg5
 z5 := Tryz.sizeOf5
 v5 := Tryz.zeroValue5
 infoByte := by kernel_rfl
 cellsByte := by kernel_rfl
 sizeByte := by kernel_rfl
 neB5 := by decide }
open Go.RowKit in
theorem Tryz.Builder_String_any (B b : Nat) (l : List UInt8) (w : World) (h : Lib.IsBuilder 79 5 B b (Lib.byteCells l) w) (hBw : B ≤ w.heap.size) :
  Calls Tryz.prog 58 #[.pointer (some ⟨b, 0, none⟩)] w fun e w' => e = .returned (.string ⟨l.toArray⟩) ∧ Below B w w' := Any.Builder_String_any Tryz.lays169 Tryz.Builder_Extra_169 B b l w h hBw
def Tryz.lays156_ren : Go.Shelf.Ren := ⟨fun | 156 => 90 | 165 => 122 | 166 => 54 | 169 => 58 | 240 => 99 | 241 => 149 | 276 => 125 | 277 => 168 | n => n, fun | 31 => 30 | 9 => 9 | 3 => 3 | 4 => 4 | 0 => 0 | 20 => 20 | 72 => 79 | 76 => 84 | 70 => 76 | 37 => 77 | 75 => 83 | 127 => 129 | 164 => 166 | 5 => 5 | 80 => 89 | n => n, fun | n => n⟩
theorem Tryz.lays156 : Go.Proofs.Lays.n156 Tryz.prog Tryz.lays156_ren := {
 mixed := by kernel_rfl
 f156 := Tryz.func90.trans (congrArg some (by kernel_rfl))
 f165 := Tryz.func122.trans (congrArg some (by kernel_rfl))
 f166 := Tryz.func54.trans (congrArg some (by kernel_rfl))
 f169 := Tryz.func58.trans (congrArg some (by kernel_rfl))
 f240 := Tryz.func99.trans (congrArg some (by kernel_rfl))
 f241 := Tryz.func149.trans (congrArg some (by kernel_rfl))
 f276 := Tryz.func125.trans (congrArg some (by kernel_rfl))
 f277 := Tryz.func168.trans (congrArg some (by kernel_rfl))
 t0 := Tryz.underlying0
 a0 := Tryz.isAgg0
 z0 := Tryz.sizeOf0
 v0 := Tryz.zeroValue0
 t3 := Tryz.underlying3
 a3 := Tryz.isAgg3
 z3 := Tryz.sizeOf3
 v3 := Tryz.zeroValue3
 t4 := Tryz.underlying4
 a4 := Tryz.isAgg4
 z4 := Tryz.sizeOf4
 v4 := Tryz.zeroValue4
 t9 := Tryz.underlying9
 a9 := Tryz.isAgg9
 z9 := Tryz.sizeOf9
 v9 := Tryz.zeroValue9
 t20 := Tryz.underlying20
 a20 := Tryz.isAgg20
 z20 := Tryz.sizeOf20
 v20 := Tryz.zeroValue20
 t31 := Tryz.underlying30
 a31 := Tryz.isAgg30
 z31 := Tryz.sizeOf30
 v31 := Tryz.zeroValue30
 t37 := Tryz.underlying77
 a37 := Tryz.isAgg77
 z37 := Tryz.sizeOf77
 v37 := Tryz.zeroValue77
 t70 := Tryz.underlying76
 a70 := Tryz.isAgg76
 z70 := Tryz.sizeOf76
 v70 := Tryz.zeroValue76
 t72 := Tryz.underlying79
 a72 := Tryz.isAgg79
 z72 := Tryz.sizeOf79
 v72 := Tryz.zeroValue79
 t75 := Tryz.underlying83
 a75 := Tryz.isAgg83
 z75 := Tryz.sizeOf83
 v75 := Tryz.zeroValue83
 t76 := Tryz.underlying84
 a76 := Tryz.isAgg84
 z76 := Tryz.sizeOf84
 v76 := Tryz.zeroValue84
 t127 := Tryz.underlying129
 a127 := Tryz.isAgg129
 z127 := Tryz.sizeOf129
 v127 := Tryz.zeroValue129
 t164 := Tryz.underlying166
 a164 := Tryz.isAgg166
 z164 := Tryz.sizeOf166
 v164 := Tryz.zeroValue166 }
theorem Tryz.Builder_Extra_156 : Builder.Extra Tryz.prog Tryz.lays156_ren := {
 sizeBuilder := by kernel_rfl
 liesBuilder := by kernel_rfl
 t5 := Tryz.underlying5
 a5 := Tryz.isAgg5
 z5 := Tryz.sizeOf5
 v5 := Tryz.zeroValue5
 infoByte := by kernel_rfl
 cellsByte := by kernel_rfl
 sizeByte := by kernel_rfl
 neB5 := by decide }
open Go.RowKit in
theorem Tryz.strings_Join_none (a : Option Addr) (c : Nat) (sep : ByteArray) (w : World) :
  Calls Tryz.prog 90 #[.slice a 0 c, .string sep] w fun e w' => e = .returned (.string ⟨#[]⟩) ∧ w' = w := Any.strings_Join_none Tryz.lays156 Tryz.Builder_Extra_156 a c sep w
open Go.RowKit in
theorem Tryz.strings_Join (bk o c : Nat) (xs : List ByteArray) (sep : ByteArray) (w : World) (hcells : ∀ (j : Nat) x, xs[j]? = some x → w.cell? ⟨bk, o + j, none⟩ = some (.string x)) (hbk : bk < w.heap.size) (hN : xs.length ≤ 140737488355328) (hcap : xs.length ≤ c) (hlen : (Lib.join (xs.map (·.data.toList)) sep.data.toList).length ≤ 140737488355328) :
  Calls Tryz.prog 90 #[.slice (some ⟨bk, o, none⟩) xs.length c, .string sep] w fun e w' => e = .returned (.string ⟨(Lib.join (xs.map (·.data.toList)) sep.data.toList).toArray⟩) ∧ Below w.heap.size w w' := Any.strings_Join Tryz.lays156 Tryz.Builder_Extra_156 bk o c xs sep w hcells hbk hN hcap hlen
def Tryz.lays122_ren : Go.Shelf.Ren := ⟨fun | 122 => 147 | 215 => 166 | n => n, fun | 3 => 3 | 4 => 4 | n => n, fun | n => n⟩
theorem Tryz.lays122 : Go.Proofs.Lays.n122 Tryz.prog Tryz.lays122_ren := {
 mixed := by kernel_rfl
 f122 := Tryz.func147.trans (congrArg some (by kernel_rfl))
 f215 := Tryz.func166.trans (congrArg some (by kernel_rfl))
 t3 := Tryz.underlying3
 a3 := Tryz.isAgg3
 z3 := Tryz.sizeOf3
 v3 := Tryz.zeroValue3
 t4 := Tryz.underlying4
 a4 := Tryz.isAgg4
 z4 := Tryz.sizeOf4
 v4 := Tryz.zeroValue4 }
open Go.RowKit in
theorem Tryz.cmp_Compare_int (x y : Int) (w : World) :
  Calls Tryz.prog 147 #[.int .i64 x, .int .i64 y] w fun e w' => e = .returned (.int .i64 (Lib.compareInt x y)) ∧ w' = w := Any.cmp_Compare_int Tryz.lays122 x y w
def Tryz.lays144_ren : Go.Shelf.Ren := ⟨fun | 144 => 121 | 143 => 148 | 219 => 167 | 217 => 192 | 225 => 193 | 224 => 194 | 267 => 195 | 266 => 210 | 314 => 211 | n => n, fun | 9 => 9 | 4 => 4 | 3 => 3 | 5 => 5 | 46 => 159 | 146 => 253 | 51 => 235 | n => n, fun | 1 => 0 | n => n⟩
theorem Tryz.lays144 : Go.Proofs.Lays.n144 Tryz.prog Tryz.lays144_ren := {
 mixed := by kernel_rfl
 f143 := Tryz.func148.trans (congrArg some (by kernel_rfl))
 f144 := Tryz.func121.trans (congrArg some (by kernel_rfl))
 f217 := Tryz.func192.trans (congrArg some (by kernel_rfl))
 f219 := Tryz.func167.trans (congrArg some (by kernel_rfl))
 f224 := Tryz.func194.trans (congrArg some (by kernel_rfl))
 f225 := Tryz.func193.trans (congrArg some (by kernel_rfl))
 f266 := Tryz.func210.trans (congrArg some (by kernel_rfl))
 f267 := Tryz.func195.trans (congrArg some (by kernel_rfl))
 f314 := Tryz.func211.trans (congrArg some (by kernel_rfl))
 t3 := Tryz.underlying3
 a3 := Tryz.isAgg3
 z3 := Tryz.sizeOf3
 v3 := Tryz.zeroValue3
 t4 := Tryz.underlying4
 a4 := Tryz.isAgg4
 z4 := Tryz.sizeOf4
 v4 := Tryz.zeroValue4
 t5 := Tryz.underlying5
 a5 := Tryz.isAgg5
 z5 := Tryz.sizeOf5
 v5 := Tryz.zeroValue5
 t9 := Tryz.underlying9
 a9 := Tryz.isAgg9
 z9 := Tryz.sizeOf9
 v9 := Tryz.zeroValue9
 t46 := Tryz.underlying159
 a46 := Tryz.isAgg159
 z46 := Tryz.sizeOf159
 v46 := Tryz.zeroValue159
 t51 := Tryz.underlying235
 a51 := Tryz.isAgg235
 z51 := Tryz.sizeOf235
 v51 := Tryz.zeroValue235
 t146 := Tryz.underlying253
 a146 := Tryz.isAgg253
 z146 := Tryz.sizeOf253
 v146 := Tryz.zeroValue253
 g1 := by kernel_rfl }
open Go.RowKit Go.Lib in
theorem Tryz.strings_Contains (s sub : ByteArray) (m : Int) (w : World) (hs : s.size < 4294967281) (hm : w.cell? ⟨0, 0, none⟩ = some (.int .i64 m)) :
  Calls Tryz.prog 121 #[.string s, .string sub] w fun e w' => e = .returned (.bool (Lib.contains s.data.toList sub.data.toList)) ∧ w' = w := Any.strings_Contains Tryz.lays144 s sub m w hs hm
def Tryz.lays189_ren : Go.Shelf.Ren := ⟨fun | 189 => 174 | 125 => 165 | 257 => 200 | 128 => 190 | 129 => 191 | 294 => 220 | 295 => 221 | 296 => 222 | 297 => 223 | 298 => 224 | 299 => 225 | 216 => 226 | 300 => 227 | 301 => 228 | 328 => 234 | 329 => 206 | 330 => 207 | 331 => 235 | 332 => 236 | 215 => 166 | 343 => 240 | n => n, fun | 28 => 24 | 3 => 3 | 46 => 159 | 0 => 0 | 51 => 235 | 53 => 237 | 4 => 4 | 183 => 229 | 182 => 228 | 131 => 106 | 5 => 5 | 9 => 9 | 218 => 248 | 222 => 160 | 228 => 267 | 229 => 192 | n => n, fun | n => n⟩
theorem Tryz.lays189 : Go.Proofs.Lays.n189 Tryz.prog Tryz.lays189_ren := {
 mixed := by kernel_rfl
 f125 := Tryz.func165.trans (congrArg some (by kernel_rfl))
 f128 := Tryz.func190.trans (congrArg some (by kernel_rfl))
 f129 := Tryz.func191.trans (congrArg some (by kernel_rfl))
 f189 := Tryz.func174.trans (congrArg some (by kernel_rfl))
 f215 := Tryz.func166.trans (congrArg some (by kernel_rfl))
 f216 := Tryz.func226.trans (congrArg some (by kernel_rfl))
 f257 := Tryz.func200.trans (congrArg some (by kernel_rfl))
 f294 := Tryz.func220.trans (congrArg some (by kernel_rfl))
 f295 := Tryz.func221.trans (congrArg some (by kernel_rfl))
 f296 := Tryz.func222.trans (congrArg some (by kernel_rfl))
 f297 := Tryz.func223.trans (congrArg some (by kernel_rfl))
 f298 := Tryz.func224.trans (congrArg some (by kernel_rfl))
 f299 := Tryz.func225.trans (congrArg some (by kernel_rfl))
 f300 := Tryz.func227.trans (congrArg some (by kernel_rfl))
 f301 := Tryz.func228.trans (congrArg some (by kernel_rfl))
 f328 := Tryz.func234.trans (congrArg some (by kernel_rfl))
 f329 := Tryz.func206.trans (congrArg some (by kernel_rfl))
 f330 := Tryz.func207.trans (congrArg some (by kernel_rfl))
 f331 := Tryz.func235.trans (congrArg some (by kernel_rfl))
 f332 := Tryz.func236.trans (congrArg some (by kernel_rfl))
 f343 := Tryz.func240.trans (congrArg some (by kernel_rfl))
 t0 := Tryz.underlying0
 a0 := Tryz.isAgg0
 z0 := Tryz.sizeOf0
 v0 := Tryz.zeroValue0
 t3 := Tryz.underlying3
 a3 := Tryz.isAgg3
 z3 := Tryz.sizeOf3
 v3 := Tryz.zeroValue3
 t4 := Tryz.underlying4
 a4 := Tryz.isAgg4
 z4 := Tryz.sizeOf4
 v4 := Tryz.zeroValue4
 t5 := Tryz.underlying5
 a5 := Tryz.isAgg5
 z5 := Tryz.sizeOf5
 v5 := Tryz.zeroValue5
 t9 := Tryz.underlying9
 a9 := Tryz.isAgg9
 z9 := Tryz.sizeOf9
 v9 := Tryz.zeroValue9
 t28 := Tryz.underlying24
 a28 := Tryz.isAgg24
 z28 := Tryz.sizeOf24
 v28 := Tryz.zeroValue24
 t46 := Tryz.underlying159
 a46 := Tryz.isAgg159
 z46 := Tryz.sizeOf159
 v46 := Tryz.zeroValue159
 t51 := Tryz.underlying235
 a51 := Tryz.isAgg235
 z51 := Tryz.sizeOf235
 v51 := Tryz.zeroValue235
 t53 := Tryz.underlying237
 a53 := Tryz.isAgg237
 z53 := Tryz.sizeOf237
 v53 := Tryz.zeroValue237
 t131 := Tryz.underlying106
 a131 := Tryz.isAgg106
 z131 := Tryz.sizeOf106
 v131 := Tryz.zeroValue106
 t182 := Tryz.underlying228
 a182 := Tryz.isAgg228
 z182 := Tryz.sizeOf228
 v182 := Tryz.zeroValue228
 t183 := Tryz.underlying229
 a183 := Tryz.isAgg229
 z183 := Tryz.sizeOf229
 v183 := Tryz.zeroValue229
 t218 := Tryz.underlying248
 a218 := Tryz.isAgg248
 z218 := Tryz.sizeOf248
 v218 := Tryz.zeroValue248
 t222 := Tryz.underlying160
 a222 := Tryz.isAgg160
 z222 := Tryz.sizeOf160
 v222 := Tryz.zeroValue160
 t228 := Tryz.underlying267
 a228 := Tryz.isAgg267
 z228 := Tryz.sizeOf267
 v228 := Tryz.zeroValue267
 t229 := Tryz.underlying192
 a229 := Tryz.isAgg192
 z229 := Tryz.sizeOf192
 v229 := Tryz.zeroValue192 }
open Go.Sort Go.RowKit in
theorem Tryz.slices_Sort_int (blk off cap : Nat) (zs : List Int) (w : World) (hH : Holds (Value.int .i64) w blk off zs.toArray) (hblk : blk < w.heap.size) (hsz : zs.length < 4611686018427387904) :
  Calls Tryz.prog 174 #[.slice (some ⟨blk, off, none⟩) zs.length cap] w fun e w' =>
   e = .returned (.tuple #[]) ∧ ∃ n os, w' = grow (putRow (Value.int .i64) (Sort.ahead w n) blk off (zs.mergeSort fun x y => decide (x ≤ y)).toArray) os := Any.slices_Sort_int Tryz.lays189 blk off cap zs w hH hblk hsz
open Go.RowKit Go.Lib in
open Go.RowKit Go.Lib in
open Go.RowKit Go.Lib in
def Tryz.lays113_ren : Go.Shelf.Ren := ⟨fun | 113 => 197 | n => n, fun | 28 => 24 | 3 => 3 | 4 => 4 | 9 => 9 | 20 => 20 | 0 => 0 | n => n, fun | n => n⟩
theorem Tryz.lays113 : Go.Proofs.Lays.n113 Tryz.prog Tryz.lays113_ren := {
 mixed := by kernel_rfl
 f113 := Tryz.func197.trans (congrArg some (by kernel_rfl))
 t0 := Tryz.underlying0
 a0 := Tryz.isAgg0
 z0 := Tryz.sizeOf0
 v0 := Tryz.zeroValue0
 t3 := Tryz.underlying3
 a3 := Tryz.isAgg3
 z3 := Tryz.sizeOf3
 v3 := Tryz.zeroValue3
 t4 := Tryz.underlying4
 a4 := Tryz.isAgg4
 z4 := Tryz.sizeOf4
 v4 := Tryz.zeroValue4
 t9 := Tryz.underlying9
 a9 := Tryz.isAgg9
 z9 := Tryz.sizeOf9
 v9 := Tryz.zeroValue9
 t20 := Tryz.underlying20
 a20 := Tryz.isAgg20
 z20 := Tryz.sizeOf20
 v20 := Tryz.zeroValue20
 t28 := Tryz.underlying24
 a28 := Tryz.isAgg24
 z28 := Tryz.sizeOf24
 v28 := Tryz.zeroValue24 }
open Go.Lib in
theorem Tryz.slices_Max_int (b off n c : Nat) (zs : List Int) (w : World) (hn : 0 < n) (hz : n ≤ zs.length) (hbig : n ≤ 9223372036854775807) (hc : ∀ j, j < zs.length → w.cell? ⟨b, off + j, none⟩ = some (.int .i64 (zs.getD j 0))) :
  Calls Tryz.prog 197 #[.slice (some ⟨b, off, none⟩) n c] w fun e w' => e = .returned (.int .i64 (Lib.maxOf (zs.take n))) ∧ w' = w := Any.slices_Max_int Tryz.lays113 b off n c zs w hn hz hbig hc
def Tryz.lays114_ren : Go.Shelf.Ren := ⟨fun | 114 => 196 | n => n, fun | 28 => 24 | 3 => 3 | 4 => 4 | 9 => 9 | 20 => 20 | 0 => 0 | n => n, fun | n => n⟩
theorem Tryz.lays114 : Go.Proofs.Lays.n114 Tryz.prog Tryz.lays114_ren := {
 mixed := by kernel_rfl
 f114 := Tryz.func196.trans (congrArg some (by kernel_rfl))
 t0 := Tryz.underlying0
 a0 := Tryz.isAgg0
 z0 := Tryz.sizeOf0
 v0 := Tryz.zeroValue0
 t3 := Tryz.underlying3
 a3 := Tryz.isAgg3
 z3 := Tryz.sizeOf3
 v3 := Tryz.zeroValue3
 t4 := Tryz.underlying4
 a4 := Tryz.isAgg4
 z4 := Tryz.sizeOf4
 v4 := Tryz.zeroValue4
 t9 := Tryz.underlying9
 a9 := Tryz.isAgg9
 z9 := Tryz.sizeOf9
 v9 := Tryz.zeroValue9
 t20 := Tryz.underlying20
 a20 := Tryz.isAgg20
 z20 := Tryz.sizeOf20
 v20 := Tryz.zeroValue20
 t28 := Tryz.underlying24
 a28 := Tryz.isAgg24
 z28 := Tryz.sizeOf24
 v28 := Tryz.zeroValue24 }
open Go.Lib in
theorem Tryz.slices_Min_int (b off n c : Nat) (zs : List Int) (w : World) (hn : 0 < n) (hz : n ≤ zs.length) (hbig : n ≤ 9223372036854775807) (hc : ∀ j, j < zs.length → w.cell? ⟨b, off + j, none⟩ = some (.int .i64 (zs.getD j 0))) :
  Calls Tryz.prog 196 #[.slice (some ⟨b, off, none⟩) n c] w fun e w' => e = .returned (.int .i64 (Lib.minOf (zs.take n))) ∧ w' = w := Any.slices_Min_int Tryz.lays114 b off n c zs w hn hz hbig hc
def Tryz.laysNm216_ren : Go.Shelf.Ren := ⟨fun | 16 => 105 | n => n, fun | 24 => 30 | 9 => 9 | 4 => 4 | n => n, fun | n => n⟩
theorem Tryz.laysNm216 : Go.Proofs.Lays2.n16 Tryz.prog Tryz.laysNm216_ren := {
 mixed := by kernel_rfl
 f16 := Tryz.func105.trans (congrArg some (by kernel_rfl))
 t4 := Tryz.underlying4
 a4 := Tryz.isAgg4
 z4 := Tryz.sizeOf4
 v4 := Tryz.zeroValue4
 t9 := Tryz.underlying9
 a9 := Tryz.isAgg9
 z9 := Tryz.sizeOf9
 v9 := Tryz.zeroValue9
 t24 := Tryz.underlying30
 a24 := Tryz.isAgg30
 z24 := Tryz.sizeOf30
 v24 := Tryz.zeroValue30
 i9 := by kernel_rfl }
open Go.RowKit Go.Lib in
theorem Tryz.slices_Clone_string (b off n c : Nat) (zs : List ByteArray) (w : World) (hz : n ≤ zs.length) (hbig : n * 16 ≤ 140737488355328) (hc : ∀ j, j < zs.length → w.cell? ⟨b, off + j, none⟩ = some (.string (zs.getD j ByteArray.empty))) :
  Calls Tryz.prog 105 #[.slice (some ⟨b, off, none⟩) n c] w fun e w' => ∃ v', e = .returned v' ∧ w'.ownsRow w.heap.size 9 1 v' n ((zs.take n).map (Value.string)) ∧ v' ≠ .slice none 0 0 ∧ Below w.heap.size w w' := Any.slices_Clone_string Tryz.laysNm216 b off n c zs w hz hbig hc
open Go.RowKit Go.Lib in
theorem Tryz.slices_Clone_string_nil (n c : Nat) (w : World) :
  Calls Tryz.prog 105 #[.slice none n c] w fun e w' => e = .returned (.slice none 0 0) ∧ w' = w := Any.slices_Clone_string_nil Tryz.laysNm216 n c w
open Go.RowKit Go.Lib in
theorem Tryz.slices_Clone_string_zero (a : Addr) (c : Nat) (w : World) :
  Calls Tryz.prog 105 #[.slice (some a) 0 c] w fun e w' => ∃ v', e = .returned v' ∧ w'.ownsRow w.heap.size 9 1 v' 0 [] ∧ v' ≠ .slice none 0 0 ∧ Below w.heap.size w w' := Any.slices_Clone_string_zero Tryz.laysNm216 a c w
end Go.Proofs
namespace Go.Proofs.YtjpgoeimclipjaaGreat
open Go.RowKit Go.Lib Pl
attribute [local go_sem] ext_list app_list
def StrsAt (w : World) (Bd : Nat) (A : Option Addr) (n : Nat) (l : List Bytes) : Prop :=
 l.length = n ∧ (0 < n → ∃ b off, A = some ⟨b, off, none⟩ ∧ b < Bd ∧ ∀ i t, l[i]? = some t → w.cell? ⟨b, off + i, none⟩ = some (S t))
theorem StrsAt.keep {w w' : World} {Bd n : Nat} {A : Option Addr} {l : List Bytes} (h : StrsAt w Bd A n l) (hk : ∀ p : Addr, p.block < Bd → w'.cell? p = w.cell? p) : StrsAt w' Bd A n l :=
 ⟨h.1, fun hn => by
  obtain ⟨b, off, e, hb, hc⟩ := h.2 hn
  exact ⟨b, off, e, hb, fun i t hi => (hk _ hb).trans (hc i t hi)⟩⟩
theorem StrsAt.below {w w' : World} {Bd n : Nat} {A : Option Addr} {l : List Bytes} (h : StrsAt w Bd A n l) (hb : Below Bd w w') : StrsAt w' Bd A n l := h.keep fun _ hp => hb.cell hp
theorem StrsAt.up {w w' : World} {n : Nat} {A : Option Addr} {l : List Bytes} (h : StrsAt w w.heap.size A n l) (hb : Below w.heap.size w w') : StrsAt w' w'.heap.size A n l := by
 have h1 := h.below hb
 exact ⟨h1.1, fun hn => by obtain ⟨b, off, e, hlt, hc⟩ := h1.2 hn; exact ⟨b, off, e, Nat.lt_of_lt_of_le hlt hb.size, hc⟩⟩
theorem StrsAt.at_ {w : World} {Bd n k : Nat} {A : Option Addr} {l : List Bytes} (h : StrsAt w Bd A n l) (hk : k < n) : ∃ b off t, A = some ⟨b, off, none⟩ ∧ b < Bd ∧ l[k]? = some t ∧ w.cell? ⟨b, off + k, none⟩ = some (S t) := by
 obtain ⟨b, off, e, hb, hc⟩ := h.2 (by omega)
 have hl : k < l.length := by have := h.1; omega
 exact ⟨b, off, l[k], e, hb, List.getElem?_eq_getElem hl, hc k _ (List.getElem?_eq_getElem hl)⟩
def MaxLenIs (w : World) : Prop := ∃ m : Int, w.cell? ⟨0, 0, none⟩ = some (.int .i64 m)
theorem MaxLenIs.up {w w' : World} (h : MaxLenIs w) (hb : Below w.heap.size w w') : MaxLenIs w' := by
 obtain ⟨m, hm⟩ := h
 have hlt : 0 < w.heap.size := by
  rcases Nat.lt_or_ge 0 w.heap.size with h | h
  ·exact h
  ·simp [World.cell?, Array.getElem?_eq_none h] at hm
 exact ⟨m, (hb.cell (p := ⟨0, 0, none⟩) hlt).trans hm⟩
theorem index_stands (p : Bytes) : ∀ t : Bytes, 0 ≤ Lib.index t p ↔ stands p t = true
 | [] => by
  rcases Lib.index_spec [] p with ⟨h1, h2⟩ | ⟨i, h1, h2, h3, _⟩
  ·have := h2 0 (Nat.zero_le _)
   rw [h1]
   unfold stands
   cases p with
   | nil => simp [Lib.occAt] at this
   | cons a p => simp
  ·rw [h1]
   have hi : i = 0 := by simpa using h2
   subst hi
   cases p with
   | nil => simp [stands]
   | cons a p => simp [Lib.occAt] at h3
 | c :: t => by
  rw [Lib.index, stands]
  by_cases h : p.isPrefixOf (c :: t) = true
  ·rw [if_pos h, h]; simp
  ·rw [if_neg h]
   have h' : p.isPrefixOf (c :: t) = false := Bool.eq_false_iff.2 h
   rw [h', Bool.false_or, ← index_stands p t]
   rcases Lib.index_spec t p with ⟨h1, _⟩ | ⟨i, h1, _⟩
   ·rw [h1]; decide
   ·rw [h1]
    have : ((i : Int) == -1) = false := by rw [beq_eq_false_iff_ne]; omega
    simp [this]; omega
theorem contains_stands (p t : Bytes) : Lib.contains t p = stands p t := by
 unfold Lib.contains
 rw [Bool.eq_iff_iff, decide_eq_true_eq]
 exact index_stands p t
theorem contains_any (t p : Bytes) (w : World) (hm : MaxLenIs w) (ht : t.length < 4294967281) :
  Calls Tryz.prog 121 #[S t, S p] w fun e w' => e = .returned (.bool (stands p t)) ∧ w = w' := by
 obtain ⟨m, hm⟩ := hm
 refine (Tryz.strings_Contains ⟨t.toArray⟩ ⟨p.toArray⟩ m w ht hm).mono ?_
 rintro e w' ⟨rfl, rfl⟩
 refine ⟨?_, rfl⟩
 rw [← contains_stands]
end Go.Proofs.YtjpgoeimclipjaaGreat
namespace Go.Proofs.YtjpgoeimclipjaaGreat
open Go.RowKit Pl
set_option maxHeartbeats 400000 in
theorem put_bad (n : Int) (w : World) (h : n < 0 ∨ 2147483647 < n) :
  Calls Tryz.prog 92 #[I n] w fun e w' => e = .returned (.tuple #[S [], I 3]) ∧ w = w' := by
 rcases h with h | h
 ·go_enter Tryz.func92, Tryz.ntmps92
  go_wp2
  go_ret2
  exact ⟨rfl, rfl⟩
 ·have h0 : ¬ n < 0 := by omega
  go_enter Tryz.func92, Tryz.ntmps92
  go_wp2
  go_ret2
  exact ⟨rfl, rfl⟩
set_option maxHeartbeats 400000 in
set_option maxRecDepth 100000 in
theorem put_good (n : Int) (w : World) (h0 : 0 ≤ n) (h1 : n ≤ 2147483647) :
  Calls Tryz.prog 92 #[I n] w fun e w' => e = .returned (.tuple #[S (nb n.toNat), I 0]) ∧ Below w.heap.size w w' := by
 obtain ⟨m, rfl⟩ := Int.eq_ofNat_of_zero_le h0
 obtain ⟨i0, hi, hz0, hz1, hz2⟩ := info_parts info_u8
 go_enter Tryz.func92, Tryz.ntmps92
 go_wp2_with fail
 go_loopw [0, 4] (fun i v wr => ∃ (k : Nat) (xs : Bytes), k ≤ m ∧ xs ++ nb k = nb m ∧ i = .int .i64 k ∧ wr.ownsRow w.heap.size 5 1 v xs.length (xs.map B) ∧ Below w.heap.size w wr)
  (fun i _ _ => (intOf i).toNat)
 case atStart => exact ⟨m, [], by omega, rfl, rfl, World.ownsRow_nil _ _ _ _, Below.refl _ _⟩
 case round =>
  obtain ⟨k, xs, hk, hx, rfl, hown, hnx⟩ := hrel
  have HX := hide hx
  clear hx
  have hl : xs.length ≤ 10 := by
   have h2 := nb_len 4 m (by omega)
   rw [← unhide HX, List.length_append] at h2; omega
  by_cases hlt : k < 128
  ·have hsz := hnx.size
   go_wp2_with (at_builtin; refine wpList_push rfl _ _ _ rfl w.heap.size 5 i0 _ 1 Tryz.underlying77 hi hz0 hz1 hz2 rfl _ _ _ rfl hown _ _ rfl rfl ?_ ?_ hsz ?_; (unfold maxLen; omega); omega; intro v' w' hown' hb hg; have hst := run_str_own (P := Tryz.prog) (own_byte (UInt8.ofNat k) hown' (ofNat_toNat (by omega))) 77 9 Tryz.underlying77 Tryz.underlying5 Tryz.underlying9; clear hown')
   go_ret2
   rw [Int.toNat_natCast, ← unhide HX, nb_small hlt]
   exact ⟨rfl, hnx.trans hb⟩
  ·have hsz := hnx.size
   go_wp2_with (at_builtin; refine wpList_push rfl _ _ _ rfl w.heap.size 5 i0 _ 1 Tryz.underlying77 hi hz0 hz1 hz2 rfl _ _ _ rfl hown _ _ rfl rfl ?_ ?_ hsz ?_; (unfold maxLen; omega); omega; intro v' w' hown' hb hg; have hown2 := own_byte (UInt8.ofNat (128 + k % 128)) hown' (by rw [or128 _ (by omega) (by omega), ofNat_toNat (by omega)]; omega); clear hown')
   clear hown hg
   go_roundw
   case rel =>
    refine ⟨k / 128, xs ++ [UInt8.ofNat (128 + k % 128)], by omega, ?_, by go_num, by simpa using hown2, hnx.trans hb⟩
    rw [← unhide HX, nb_big (by omega : 128 ≤ k)]; simp
   case measure => simp [intOf]; omega
end Go.Proofs.YtjpgoeimclipjaaGreat
namespace Go.Proofs.YtjpgoeimclipjaaGreat
open Go.RowKit Pl
attribute [local go_sem] ext_list
def TakeV (l : Bytes) : Value := match take l with
 | some (n, r) => .tuple #[I n, S r, I 0]
 | none => .tuple #[I 0, S [], I 1]
set_option maxHeartbeats 400000 in
set_option maxRecDepth 100000 in
theorem take_any (l : Bytes) (w : World) (hs : l.length ≤ 9223372036854775807) :
  Calls Tryz.prog 101 #[S l] w fun e w' => e = .returned (TakeV l) ∧ ∃ k, w' = w.drewN k := by
 go_enter Tryz.func101, Tryz.ntmps101
 go_wp2_with fail
 all_goals
  go_loop [5, 10, 6] (fun n i _ => ∃ (k acc : Nat), k ≤ l.length ∧ k ≤ 5 ∧ acc < 128 ^ k ∧ take l = takeF (5 - k) k acc (l.drop k) ∧ i = .int .i64 k ∧ n = .int .i64 acc)
   (fun _ i _ => 5 - (intOf i).toNat)
  case atStart => exact ⟨0, 0, by omega, by omega, by omega, rfl, rfl, rfl⟩
  case round =>
   obtain ⟨k, acc, hk, hk5, hacc, hx, rfl, rfl⟩ := hrel
   have HX := hide hx
   clear hx
   by_cases hlt : k < l.length ∧ k < 5
   ·obtain ⟨hl, h5⟩ := hlt
    obtain ⟨c, hc⟩ : ∃ c, (⟨l.toArray⟩ : ByteArray)[k]'hl = c := ⟨_, rfl⟩
    have ha := and127 c
    have hcb := c.toNat_lt
    obtain ⟨acc2, hA⟩ : ∃ acc2, acc2 = acc + c.toNat % 128 * 128 ^ k := ⟨_, rfl⟩
    have hor : bits .or .i64 (acc : Int) (wrap64 ((c.toNat : Int) % 128 * 2 ^ (7 * k))) = (acc2 : Int) := by
     rw [hA]; exact or7 acc (c.toNat % 128) k hacc (by omega) h5
    have hdrop : l.drop k = c :: l.drop (k + 1) := by rw [← hc]; exact List.drop_eq_getElem_cons hl
    have hbd : acc2 < 128 ^ (k + 1) := by
     rw [hA, Nat.pow_succ]
     have : (c.toNat % 128) * 128 ^ k ≤ 127 * 128 ^ k := Nat.mul_le_mul_right _ (by omega)
     omega
    have hbd2 : acc2 < 34359738368 := Nat.lt_of_lt_of_le hbd (Nat.pow_le_pow_right (by omega) (by omega : k + 1 ≤ 5))
    have h5k : 5 - k = (4 - k) + 1 := by omega
    have h6 := unhide HX
    rw [hdrop, h5k, takeF, ← hA] at h6
    have HA := hide hA
    have HD := hide hdrop
    have HK := hide h5k
    have HX6 := hide h6
    clear hA hdrop h5k h6 HX
    by_cases hge : 128 ≤ c.toNat
    ·go_wp2_with fail
     go_round
     case rel =>
      have h6 := unhide HX6
      rw [if_pos hge] at h6
      exact ⟨k + 1, acc2, by omega, by omega, hbd, by rw [h6, show 5 - (k + 1) = 4 - k from by omega], by go_num, rfl⟩
     case measure => simp [intOf]; omega
    ·by_cases h0 : 0 < k ∧ c.toNat = 0
     ·obtain ⟨h01, h02⟩ := h0
      go_wp2_with fail
      go_ret3
      have h6 := unhide HX6
      rw [if_neg hge, if_pos (.inl ⟨h01, h02⟩)] at h6
      unfold TakeV
      rw [h6]
      exact ⟨rfl, 0, rfl⟩
     ·have hz : k < 1 ∨ (0 < k ∧ ((c.toNat : Int) == 0) = false) := by
       by_cases h1 : k < 1
       ·exact .inl h1
       ·exact .inr ⟨by omega, beq_eq_false_iff_ne.2 (by omega)⟩
      by_cases hm : 2147483647 < acc2
      ·have h6 := unhide HX6
       rw [if_neg hge, if_pos (.inr (by unfold maxNum; exact hm))] at h6
       have H6 := hide h6
       clear h6 HX6
       rcases hz with hz | ⟨hz1, hz2⟩
       all_goals
        go_wp2_with fail
        go_ret3
        unfold TakeV
        rw [unhide H6]
        exact ⟨rfl, 0, rfl⟩
      ·have h6 := unhide HX6
       rw [if_neg hge, if_neg (by unfold maxNum; omega)] at h6
       have H6 := hide h6
       clear h6 HX6
       rcases hz with hz | ⟨hz1, hz2⟩
       all_goals
        go_wp2_with fail
        go_quiet (fail)
        go_wp2
        go_ret3
        unfold TakeV
        rw [unhide H6, ← slice_end]
        exact ⟨rfl, _, rfl⟩
   ·have h9 : ¬ (k < l.length ∧ k < 5) := hlt
    have h6 := unhide HX
    have h7 : take l = none := by
     rw [h6]
     by_cases h8 : k < l.length
     ·rw [show 5 - k = 0 from by omega]; rfl
     ·rw [List.drop_of_length_le (by omega)]
      cases 5 - k <;> rfl
    have H7 := hide h7
    clear h6 h7 HX
    go_wp2_with fail
    go_ret3
    unfold TakeV
    rw [unhide H7]
    exact ⟨rfl, 0, rfl⟩
end Go.Proofs.YtjpgoeimclipjaaGreat
namespace Go.Proofs.YtjpgoeimclipjaaGreat
open Go.RowKit Pl
attribute [local go_sem] ext_list app_list
set_option maxHeartbeats 400000 in
set_option maxRecDepth 100000 in
theorem numBytes_small (n : Int) (w : World) (h0 : 0 ≤ n) (hn : n < 128) :
  Calls Tryz.prog 95 #[I n] w fun e w' => e = .returned (S (nb n.toNat)) ∧ Below w.heap.size w w' := by
 obtain ⟨m, rfl⟩ := Int.eq_ofNat_of_zero_le h0
 obtain ⟨b, hb, hx⟩ := byte_of m (by omega)
 have HB := hide hb
 clear hb
 have hcv := fun (W : World) => run_conv1_new (P := Tryz.prog) W b hx 5 77 9 5 Tryz.underlying77 Tryz.underlying5 Tryz.underlying9
 have HX := hide hx
 clear hx
 go_enter Tryz.func95, Tryz.ntmps95
 go_wp2_with fail
 go_ret
 refine ⟨?_, (Below.refl _ _).alloc (Nat.le_refl _) _⟩
 rw [Int.toNat_natCast, nb_small (by omega), ← unhide HB]
 rfl
set_option maxHeartbeats 400000 in
set_option maxRecDepth 100000 in
theorem numBytes_k (k : Nat) : ∀ (n : Int) (w : World), n.toNat ≤ k → 0 ≤ n → n ≤ 9223372036854775807 →
  Calls Tryz.prog 95 #[I n] w fun e w' => e = .returned (S (nb n.toNat)) ∧ Below w.heap.size w w' := by
 induction k with
 | zero => intro n w hk h0 h1; exact numBytes_small n w h0 (by omega)
 | succ k ih =>
  intro n w hk h0 h1
  obtain ⟨m, rfl⟩ := Int.eq_ofNat_of_zero_le h0
  by_cases hn : (m : Int) < 128
  ·exact numBytes_small m w h0 hn
  ·obtain ⟨r, hr⟩ : ∃ r, r = m % 128 := ⟨_, rfl⟩
   obtain ⟨q, hq⟩ : ∃ q, q = m / 128 := ⟨_, rfl⟩
   have ht : (m : Int).tmod 128 = (r : Int) := by rw [Int.tmod_eq_emod_of_nonneg h0]; omega
   have hw1 : IntKind.i64.wrap (128 + (r : Int)) = 128 + (r : Int) := IntWalk.i64_in _ ⟨by omega, by omega⟩
   have hw2 : IntKind.u8.wrap (128 + (r : Int)) = 128 + (r : Int) := by rw [IntKind.wrap_u8]; omega
   have hw3 : IntKind.i64.wrap ((m : Int) / 128) = (q : Int) := by
    have e : (m : Int) / 128 = (q : Int) := by omega
    rw [e]; exact IntWalk.i64_in _ ⟨by omega, by omega⟩
   obtain ⟨b, hbb, hx⟩ := byte_of (128 + r) (by omega)
   rw [Int.natCast_add] at hx
   have hx : (b.toNat : Int) = 128 + (r : Int) := hx
   have HX := hide hx
   have hcv := fun (W : World) => run_conv1_new (P := Tryz.prog) W b hx 5 77 9 5 Tryz.underlying77 Tryz.underlying5 Tryz.underlying9
   have hcw := fun (W : World) => run_conv1_drew (P := Tryz.prog) W b hx 5 77 9 5 Tryz.underlying77 Tryz.underlying5 Tryz.underlying9
   clear hx
   have c1 := fun (W : World) => ih (q : Int) W (by omega) (by omega) (by omega)
   have hr1 : r < 128 := by omega
   have hlen := nb_len 9 q (by omega)
   have HR := hide hr
   have HQ := hide hq
   have C1 := hide c1
   clear c1 ih hr hq
   have hnb : nb m = b :: nb q := by rw [hbb, unhide HR, unhide HQ]; exact nb_big (by omega)
   have HN := hide hnb
   clear hnb hbb
   go_enter Tryz.func95, Tryz.ntmps95
   go_wp2_with fail
   go_region_with (refine (unhide C1 _).mono ?_; rintro e w' ⟨rfl, hb⟩; try (have hcl := run_conv1_later_drew (P := Tryz.prog) b (unhide HX) hb 77 9 5 Tryz.underlying77 Tryz.underlying5 Tryz.underlying9))
   all_goals
    go_wp2
    go_ret
    refine ⟨?_, ?_⟩
    ·rw [Int.toNat_natCast, unhide HN]
     rfl
    ·first
      | exact (((Below.refl _ _).alloc (Nat.le_refl _) _).drew).trans (hb.mono (by simp))
      | exact ((Below.refl _ _).drew.trans hb).alloc hb.size _
end Go.Proofs.YtjpgoeimclipjaaGreat
namespace Go.Proofs.YtjpgoeimclipjaaGreat
open Go.RowKit Pl
attribute [local go_sem] ext_list app_list
def FromV (l : Bytes) : Value := match take l with
 | some (n, r) => .tuple #[I n, S r, .bool true]
 | none => .tuple #[I 0, S [], .bool false]
set_option maxHeartbeats 2000000 in
set_option maxRecDepth 100000 in
theorem numFrom_any (l : Bytes) (w : World) (hs : l.length ≤ 9223372036854775807) :
  Calls Tryz.prog 102 #[S l] w fun e w' => e = .returned (FromV l) ∧ Below w.heap.size w w' := by
 go_enter Tryz.func102, Tryz.ntmps102
 go_wp2_with fail
 go_loop [5, 6, 7] (fun n p i => ∃ (k acc : Nat), k ≤ l.length ∧ k ≤ 5 ∧ acc < 128 ^ k ∧ take l = takeF (5 - k) k acc (l.drop k) ∧ Canon l k acc ∧ i = .int .i64 k ∧ n = .int .i64 acc ∧ p = .int .i64 (128 ^ k : Nat))
  (fun _ _ i => 5 - (intOf i).toNat)
 case atStart => exact ⟨0, 0, by omega, by omega, by omega, rfl, canon_zero l, rfl, rfl, rfl⟩
 case round =>
  obtain ⟨k, acc, hk, hk5, hacc, hx, hcan, rfl, rfl, rfl⟩ := hrel
  have HX := hide hx
  have HC := hide hcan
  clear hx hcan
  obtain ⟨p, hp⟩ : ∃ p, p = 128 ^ k := ⟨_, rfl⟩
  have hpb : p ≤ 34359738368 := by rw [hp]; exact Nat.pow_le_pow_right (by omega) (by omega : k ≤ 5)
  rw [← hp]
  by_cases hlt : k < l.length ∧ k < 5
  ·obtain ⟨hl, h5⟩ := hlt
   obtain ⟨c, hc⟩ : ∃ c, (⟨l.toArray⟩ : ByteArray)[k]'hl = c := ⟨_, rfl⟩
   have hcb := c.toNat_lt
   obtain ⟨r, hr⟩ : ∃ r, r = c.toNat % 128 := ⟨_, rfl⟩
   obtain ⟨acc2, hA⟩ : ∃ acc2, acc2 = acc + c.toNat % 128 * 128 ^ k := ⟨_, rfl⟩
   have hdrop : l.drop k = c :: l.drop (k + 1) := by rw [← hc]; exact List.drop_eq_getElem_cons hl
   have hbd : acc2 < 128 ^ (k + 1) := by
    rw [hA, Nat.pow_succ]
    have : (c.toNat % 128) * 128 ^ k ≤ 127 * 128 ^ k := Nat.mul_le_mul_right _ (by omega)
    omega
   have hbd2 : acc2 < 34359738368 := Nat.lt_of_lt_of_le hbd (Nat.pow_le_pow_right (by omega) (by omega : k + 1 ≤ 5))
   have h5k : 5 - k = (4 - k) + 1 := by omega
   have h6 := unhide HX
   rw [hdrop, h5k, takeF, ← hA] at h6
   have hacp : acc < p := by rw [hp]; exact hacc
   obtain ⟨t, htt⟩ : ∃ t, t = p * r := ⟨_, rfl⟩
   have hmul : (p : Int) * (r : Int) = (t : Int) := by rw [htt, Int.natCast_mul]
   have hadd : (acc : Int) + (t : Int) = (acc2 : Int) := by
    rw [hA, htt, ← hr, ← hp, Int.natCast_add, Nat.mul_comm]
   clear htt
   have hp1 : 128 ^ (k + 1) = p * 128 := by rw [hp, Nat.pow_succ]
   have hce := canon_end (unhide HC) hdrop
   have hcs := canon_step (unhide HC) hdrop
   rw [← hA] at hce hcs
   have hrr : (c.toNat : Int) % 128 = (r : Int) := by omega
   have hr1 : r < 128 := by omega
   have HA := hide hA
   have HD := hide hdrop
   have HK := hide h5k
   have HX6 := hide h6
   have HP := hide hp
   have HP1 := hide hp1
   have HR := hide hr
   have HCE := hide hce
   have HCS := hide hcs
   have hgt : acc ≤ acc2 := by omega
   clear hA hdrop h5k h6 HX hp hp1 hr hce hcs HC
   by_cases hge : 128 ≤ c.toNat
   ·go_wp2_with fail
    go_round
    case rel =>
     have h6 := unhide HX6
     rw [if_pos hge] at h6
     exact ⟨k + 1, acc2, by omega, by omega, hbd, by rw [h6, show 5 - (k + 1) = 4 - k from by omega], unhide HCS hge, by go_num, by go_num, by rw [unhide HP1]; go_num⟩
    case measure => simp [intOf]; omega
   ·have hge2 : c.toNat < 128 := by omega
    have hce := unhide HCE hge2 hacc
    have h6 := unhide HX6
    rw [if_neg hge] at h6
    clear HX6 HCE HCS
    by_cases hm : 2147483647 < acc2
    ·rw [if_pos (.inr (by unfold maxNum; exact hm))] at h6
     have H6 := hide h6
     clear h6 hce
     have hd : decide ((2147483647 : Int) < (acc2 : Int)) = true := by simp; omega
     go_wp2_with fail
     go_quiet (fail)
     go_wp2_with fail
     go_ret3
     unfold FromV
     rw [unhide H6]
     exact ⟨rfl, _root_.Go.below_drewN (Below.refl _ _) _⟩
    ·have hd : decide ((2147483647 : Int) < (acc2 : Int)) = false := by simp; omega
     have c1 := fun (W : World) => numBytes_k acc2 (acc2 : Int) W (by omega) (by omega) (by omega)
     have C1 := hide c1
     have hk1 : IntKind.i64.wrap ((k : Int) + 1) = (k : Int) + 1 := IntWalk.i64_in _ ⟨by omega, by omega⟩
     have hk2 : (0 : Int) ≤ (k : Int) + 1 := by omega
     have hk3 : ((k : Int) + 1).toNat = k + 1 := by omega
     have hk4 : (k : Int) + 1 ≤ (l.length : Int) := by omega
     by_cases hz : 0 < k ∧ c.toNat = 0
     ·rw [if_pos (.inl hz)] at h6
      have hq : (nb acc2 == slice l 0 (k + 1)) = false := by
       rw [slice_head, beq_eq_false_iff_ne]; intro h; exact (hce.1 h) hz
      have H6 := hide h6
      clear c1 h6 hce hz
      go_wp2_with fail
      go_region_held3 (fun _ => True) (first | exact trivial) ((first | (refine (unhide C1 _).mono ?_; rintro e w1 ⟨rfl, hb⟩)))
      clear hk1 hk2 hk3 hk4
      go_wp2_with fail
      go_ret3
      unfold FromV
      rw [unhide H6]
      exact ⟨rfl, (Below.refl _ _).drew.trans hb⟩
     ·rw [if_neg (by unfold maxNum; omega)] at h6
      have hq : (nb acc2 == slice l 0 (k + 1)) = true := by
       rw [slice_head, beq_iff_eq]; exact hce.2 hz
      have H6 := hide h6
      clear c1 h6 hce hz
      go_wp2_with fail
      go_region_held3 (fun _ => True) (first | exact trivial) ((first | (refine (unhide C1 _).mono ?_; rintro e w1 ⟨rfl, hb⟩)))
      clear hk1 hk2 hk3 hk4
      go_wp2_with fail
      go_quiet (fail)
      go_wp2_with fail
      go_ret3
      unfold FromV
      rw [unhide H6, ← slice_end]
      exact ⟨rfl, _root_.Go.below_drewN ((Below.refl _ _).drew.trans hb) _⟩
  ·have h9 : ¬ (k < l.length ∧ k < 5) := hlt
   have h6 := unhide HX
   have h7 : take l = none := by
    rw [h6]
    by_cases h8 : k < l.length
    ·rw [show 5 - k = 0 from by omega]; rfl
    ·rw [List.drop_of_length_le (by omega)]
     cases 5 - k <;> rfl
   have H7 := hide h7
   clear h6 h7 HX
   by_cases h8 : k < l.length
   all_goals
    go_wp2_with fail
    go_ret3
    unfold FromV
    rw [unhide H7]
    exact ⟨rfl, Below.refl _ _⟩
end Go.Proofs.YtjpgoeimclipjaaGreat
namespace Go.Proofs.YtjpgoeimclipjaaGreat
open Go.RowKit Pl
attribute [local go_sem] ext_list app_list
theorem take_ok {l : Bytes} {n : Nat} {r : Bytes} (h : take l = some (n, r)) (w : World) (hs : l.length ≤ 9223372036854775807) :
  Calls Tryz.prog 101 #[S l] w fun e w' => e = .returned (.tuple #[I n, S r, I 0]) ∧ Below w.heap.size w w' :=
 (take_any l w hs).mono fun e w' ⟨he, k, hk⟩ => ⟨by rw [he]; unfold TakeV; rw [h], by rw [hk]; exact _root_.Go.below_drewN (Below.refl _ _) _⟩
theorem take_no {l : Bytes} (h : take l = none) (w : World) (hs : l.length ≤ 9223372036854775807) :
  Calls Tryz.prog 101 #[S l] w fun e w' => e = .returned (.tuple #[I 0, S [], I 1]) ∧ Below w.heap.size w w' :=
 (take_any l w hs).mono fun e w' ⟨he, k, hk⟩ => ⟨by rw [he]; unfold TakeV; rw [h], by rw [hk]; exact _root_.Go.below_drewN (Below.refl _ _) _⟩
theorem numFrom_ok {l : Bytes} {n : Nat} {r : Bytes} (h : take l = some (n, r)) (w : World) (hs : l.length ≤ 9223372036854775807) :
  Calls Tryz.prog 102 #[S l] w fun e w' => e = .returned (.tuple #[I n, S r, .bool true]) ∧ Below w.heap.size w w' :=
 (numFrom_any l w hs).mono fun e w' ⟨he, hk⟩ => ⟨by rw [he]; unfold FromV; rw [h], hk⟩
theorem numFrom_no {l : Bytes} (h : take l = none) (w : World) (hs : l.length ≤ 9223372036854775807) :
  Calls Tryz.prog 102 #[S l] w fun e w' => e = .returned (.tuple #[I 0, S [], .bool false]) ∧ Below w.heap.size w w' :=
 (numFrom_any l w hs).mono fun e w' ⟨he, hk⟩ => ⟨by rw [he]; unfold FromV; rw [h], hk⟩
theorem numBytes_any (n : Nat) (w : World) (h : n ≤ 9223372036854775807) :
  Calls Tryz.prog 95 #[I n] w fun e w' => e = .returned (S (nb n)) ∧ Below w.heap.size w w' :=
 (numBytes_k n (n : Int) w (by omega) (by omega) (by omega)).mono fun e w' ⟨he, hk⟩ => ⟨by rw [he, Int.toNat_natCast], hk⟩
theorem put_ok (n : Nat) (w : World) (h : n ≤ 2147483647) :
  Calls Tryz.prog 92 #[I n] w fun e w' => e = .returned (.tuple #[S (nb n), I 0]) ∧ Below w.heap.size w w' :=
 (put_good (n : Int) w (by omega) (by omega)).mono fun e w' ⟨he, hk⟩ => ⟨by rw [he, Int.toNat_natCast], hk⟩
theorem take_len {l : Bytes} {n : Nat} {r : Bytes} (h : take l = some (n, r)) : r.length ≤ l.length ∧ n ≤ 2147483647 := by
 obtain ⟨h1, h2⟩ := take_some h
 rw [h1, List.length_append]; unfold maxNum at h2; omega
end Go.Proofs.YtjpgoeimclipjaaGreat
namespace Go.Proofs.YtjpgoeimclipjaaGreat
open Go.RowKit Pl
attribute [local go_sem] ext_list app_list
theorem sumF_snoc : ∀ (xs : Bytes) (i : Nat) (c : UInt8), sumF i (xs ++ [c]) = sumF i xs + (i + xs.length + 1) * c.toNat
 | [], i, c => by simp [sumF]
 | x :: xs, i, c => by
  rw [List.cons_append, sumF, sumF, sumF_snoc xs (i + 1) c, List.length_cons]
  have : i + 1 + xs.length + 1 = i + (xs.length + 1) + 1 := by omega
  rw [this]; omega
theorem sum_step {l : Bytes} {k : Nat} {c : UInt8} {s : Nat} (hk : k < l.length) (hc : (⟨l.toArray⟩ : ByteArray)[k]'hk = c) (hs : s = sumOf (l.take k)) :
  sumOf (l.take (k + 1)) = (s + (k + 1) * c.toNat) % 65536 := by
 have h : l.take (k + 1) = l.take k ++ [c] := by
  rw [List.take_succ_eq_append_getElem hk]; congr 2
 have hl : (l.take k).length = k := by simp; omega
 rw [h, hs]
 unfold sumOf
 rw [sumF_snoc, hl, Nat.zero_add, Nat.mod_add_mod]
theorem sum_u16 (s k c : Nat) : IntKind.u16.wrap ((s : Int) + IntKind.u16.wrap (IntKind.u16.wrap ((k : Int) + 1) * (c : Int))) = (((s + (k + 1) * c) % 65536 : Nat) : Int) := by
 simp only [IntKind.wrap_u16]
 have e : ((((s + (k + 1) * c) % 65536 : Nat)) : Int) = ((s : Int) + ((k : Int) + 1) * (c : Int)) % 65536 := by
  rw [Int.natCast_emod, Int.natCast_add, Int.natCast_mul, Int.natCast_add]; rfl
 rw [e, Int.add_emod_emod]
 rw [Int.add_emod, Int.mul_emod, Int.emod_emod, ← Int.mul_emod, ← Int.add_emod]
theorem sum_i64 (s k c : Nat) (hs : s < 65536) (hc : c < 256) : (wrap64 ((s : Int) + wrap64 (((k : Int) % 65536 + 1) * (c : Int)))).tmod 65536 = (((s + (k + 1) * c) % 65536 : Nat) : Int) := by
 have h1 : ((k : Int) % 65536 + 1) * (c : Int) = (((k % 65536 + 1) * c : Nat) : Int) := by
  rw [Int.natCast_mul, Int.natCast_add, Int.natCast_emod]; rfl
 have h2 : (k % 65536 + 1) * c ≤ 65536 * 255 := Nat.mul_le_mul (by omega) (by omega)
 have w1 : wrap64 (((k % 65536 + 1) * c : Nat) : Int) = (((k % 65536 + 1) * c : Nat) : Int) := IntWalk.wrap64_in _ ⟨by omega, by omega⟩
 have w2 : wrap64 ((s + (k % 65536 + 1) * c : Nat) : Int) = ((s + (k % 65536 + 1) * c : Nat) : Int) := IntWalk.wrap64_in _ ⟨by omega, by omega⟩
 rw [h1, w1, ← Int.natCast_add, w2, Int.tmod_eq_emod_of_nonneg (by omega)]
 have h3 : (s + (k % 65536 + 1) * c) % 65536 = (s + (k + 1) * c) % 65536 := by
  rw [Nat.add_mod, Nat.mul_mod, Nat.add_mod (k % 65536), Nat.mod_mod, ← Nat.add_mod k, ← Nat.mul_mod, ← Nat.add_mod]
 rw [← h3, Int.natCast_emod]; rfl
set_option maxHeartbeats 400000 in
set_option maxRecDepth 100000 in
theorem sum_any (l : Bytes) (w : World) (hs : l.length ≤ 9223372036854775807) :
  Calls Tryz.prog 107 #[S l] w fun e w' => e = .returned (I (sumOf l)) ∧ w = w' := by
 go_enter Tryz.func107, Tryz.ntmps107
 go_wp2_with fail
 go_loop [3, 7, 4] (fun n i _ => ∃ (k : Nat), k ≤ l.length ∧ i = .int .i64 k ∧ n = .int .u16 (sumOf (l.take k) : Nat))
  (fun _ i _ => l.length - (intOf i).toNat)
 case atStart => exact ⟨0, by omega, rfl, rfl⟩
 case round =>
  obtain ⟨k, hk, rfl, rfl⟩ := hrel
  obtain ⟨s, hs1⟩ : ∃ s, s = sumOf (l.take k) := ⟨_, rfl⟩
  have hsb : s < 65536 := by rw [hs1]; exact Nat.mod_lt _ (by omega)
  rw [← hs1]
  have HS := hide hs1
  clear hs1
  by_cases hl : k < l.length
  ·obtain ⟨c, hc⟩ : ∃ c, (⟨l.toArray⟩ : ByteArray)[k]'hl = c := ⟨_, rfl⟩
   have hcb := c.toNat_lt
   go_wp2_with fail
   go_round
   case rel => exact ⟨k + 1, by omega, by go_num, by rw [sum_step hl hc (unhide HS), sum_u16]⟩
   case measure => simp [intOf]; omega
  ·go_wp2_with fail
   go_ret
   have hk2 : k = l.length := by omega
   have h3 := unhide HS
   rw [hk2, List.take_length] at h3
   exact ⟨by rw [← h3]; rfl, rfl⟩
set_option maxHeartbeats 400000 in
set_option maxRecDepth 100000 in
theorem sumOf_any (l : Bytes) (w : World) (hs : l.length ≤ 9223372036854775807) :
  Calls Tryz.prog 86 #[S l] w fun e w' => e = .returned (I (sumOf l)) ∧ w = w' := by
 go_enter Tryz.func86, Tryz.ntmps86
 go_wp2_with fail
 go_loop [3, 4] (fun n i => ∃ (k : Nat), k ≤ l.length ∧ i = .int .i64 k ∧ n = .int .i64 (sumOf (l.take k) : Nat))
  (fun _ i => l.length - (intOf i).toNat)
 case atStart => exact ⟨0, by omega, rfl, rfl⟩
 case round =>
  obtain ⟨k, hk, rfl, rfl⟩ := hrel
  obtain ⟨s, hs1⟩ : ∃ s, s = sumOf (l.take k) := ⟨_, rfl⟩
  have hsb : s < 65536 := by rw [hs1]; exact Nat.mod_lt _ (by omega)
  rw [← hs1]
  have HS := hide hs1
  clear hs1
  by_cases hl : k < l.length
  ·obtain ⟨c, hc⟩ : ∃ c, (⟨l.toArray⟩ : ByteArray)[k]'hl = c := ⟨_, rfl⟩
   have hcb := c.toNat_lt
   go_wp2_with fail
   go_round
   case rel => exact ⟨k + 1, by omega, by go_num, by rw [sum_step hl hc (unhide HS), sum_i64 s k _ hsb hcb]⟩
   case measure => simp [intOf]; omega
  ·go_wp2_with fail
   go_ret
   have hk2 : k = l.length := by omega
   have h3 := unhide HS
   rw [hk2, List.take_length] at h3
   exact ⟨by rw [← h3]; rfl, rfl⟩
end Go.Proofs.YtjpgoeimclipjaaGreat
namespace Go.Proofs.YtjpgoeimclipjaaGreat
open Go.RowKit Go.Lib Pl
attribute [local go_sem] ext_list app_list
abbrev arcV (A : Option Addr) (n cap : Nat) (A2 : Option Addr) (n2 cap2 : Nat) : Value := .agg #[.slice A n cap, .slice A2 n2 cap2]
structure ArcIn (w : World) (A : Option Addr) (n : Nat) (A2 : Option Addr) (n2 : Nat) (a : Arc) : Prop where
 s : StrsAt w w.heap.size A n a.ds
 f : filsAt w w.heap.size A2 n2 a.fs
theorem ArcIn.up {w w' : World} {A A2 : Option Addr} {n n2 : Nat} {a : Arc} (h : ArcIn w A n A2 n2 a) (hb : Below w.heap.size w w') : ArcIn w' A n A2 n2 a := ⟨h.s.up hb, h.f.up hb⟩
theorem ArcIn.alloc {w : World} {A A2 : Option Addr} {n n2 : Nat} {a : Arc} (h : ArcIn w A n A2 n2 a) (o : Obj) : ArcIn (w.alloc o) A n A2 n2 a := h.up ((Below.refl _ _).alloc (Nat.le_refl _) _)
structure FilSz (f : Fil) : Prop where
 nm : f.name.length ≤ 140737488355328
 bl : f.block.length ≤ 140737488355328
 d0 : -9223372036854775808 ≤ f.dict
 d1 : f.dict ≤ 9223372036854775807
 z0 : -9223372036854775808 ≤ f.size
 z1 : f.size ≤ 9223372036854775807
 u0 : -9223372036854775808 ≤ f.sum
 u1 : f.sum ≤ 9223372036854775807
structure ArcSz (a : Arc) : Prop where
 nd : a.ds.length ≤ 4611686018427387904
 nf : a.fs.length ≤ 4611686018427387904
 ds : ∀ d ∈ a.ds, d.length ≤ 140737488355328
 fs : ∀ f ∈ a.fs, FilSz f
structure ABox (A : Option Addr) (n cap : Nat) (A2 : Option Addr) (n2 cap2 : Nat) (a : Arc) (w wr : World) (B : Nat) : Prop where
 o : wr.heap[B]? = some (.cells #[.slice A n cap, .slice A2 n2 cap2] 33 (0, 0))
 i : ArcIn wr A n A2 n2 a
 bel : Below B w wr
theorem ABox.lt {A A2 : Option Addr} {n cap n2 cap2 : Nat} {a : Arc} {w wr : World} {B : Nat} (h : ABox A n cap A2 n2 cap2 a w wr B) : B < wr.heap.size := (Array.getElem?_eq_some_iff.1 h.o).1
theorem ABox.below {A A2 : Option Addr} {n cap n2 cap2 : Nat} {a : Arc} {w wr w1 : World} {B : Nat} (h : ABox A n cap A2 n2 cap2 a w wr B) (hb : Below wr.heap.size wr w1) : ABox A n cap A2 n2 cap2 a w w1 B :=
 ⟨(hb.block _ h.lt).trans h.o, h.i.up hb, h.bel.trans (hb.mono (Nat.le_of_lt h.lt))⟩
theorem ABox.c {A A2 : Option Addr} {n cap n2 cap2 : Nat} {a : Arc} {w wr : World} {B : Nat} (h : ABox A n cap A2 n2 cap2 a w wr B) : wr.cell? ⟨B, 0, none⟩ = some (.slice A n cap) ∧ wr.cell? ⟨B, 1, none⟩ = some (.slice A2 n2 cap2) := by
 refine ⟨?_, ?_⟩ <;> (rw [cell_of_row _ _ _ _ _ _ h.o]; rfl)
theorem ABox.new {A A2 : Option Addr} {n n2 : Nat} {a : Arc} {w : World} (h : ArcIn w A n A2 n2 a) (cap cap2 : Nat) : ABox A n cap A2 n2 cap2 a w (w.alloc (.cells #[.slice A n cap, .slice A2 n2 cap2] 33)) w.heap.size :=
 ⟨heap_alloc_new _ _, h.alloc _, (Below.refl _ _).alloc (Nat.le_refl _) _⟩
theorem dictO_zero (ds : List Bytes) : dictO ds 0 = some [] := by unfold dictO; rw [if_pos rfl]
theorem dictO_bad {ds : List Bytes} {k : Int} (h : k < 0 ∨ (ds.length : Int) < k) : dictO ds k = none := by
 unfold dictO; rw [if_neg (by omega), if_pos (by omega)]
theorem dictO_at {ds : List Bytes} {j : Nat} {t : Bytes} (h : ds[j]? = some t) : dictO ds ((j : Int) + 1) = some t := by
 have hl := (List.getElem?_eq_some_iff.1 h).1
 unfold dictO
 rw [if_neg (by omega), if_neg (by omega), List.getD_eq_getElem?_getD, show ((j : Int) + 1).toNat - 1 = j from by omega, h]
 rfl
attribute [local go_sem] World.cell?_alloc_some in
set_option maxHeartbeats 1000000 in
set_option maxRecDepth 100000 in
theorem dict_any (A : Option Addr) (n cap : Nat) (A2 : Option Addr) (n2 cap2 : Nat) (a : Arc) (k : Int) (w : World) (h : ArcIn w A n A2 n2 a) (_hn : n ≤ 4611686018427387904) (h0 : -9223372036854775808 ≤ k) (h1 : k ≤ 9223372036854775807) :
  Calls Tryz.prog 70 #[arcV A n cap A2 n2 cap2, I k] w fun e w' => e = .returned (.tuple #[S ((dictO a.ds k).getD []), .bool (dictO a.ds k).isSome]) ∧ Below w.heap.size w w' := by
 have hl := h.s.1
 have HB := hide (fun (o : Obj) => (Below.refl w.heap.size w).alloc (Nat.le_refl _) o)
 by_cases k0 : k = 0
 ·subst k0
  rw [dictO_zero]
  clear h
  go_enter Tryz.func70, Tryz.ntmps70
  go_wp2_with fail
  go_ret2
  exact ⟨rfl, unhide HB _⟩
 ·have z0 : (k == 0) = false := by rw [beq_eq_false_iff_ne]; exact k0
  by_cases kb : k < 0 ∨ (n : Int) < k
  ·rw [dictO_bad (by rw [hl]; exact kb)]
   have hc : (k < 1) ∨ (¬ k < 1 ∧ (n : Int) < k) := by omega
   clear h kb k0
   rcases hc with d1 | ⟨d1, d2⟩
   ·go_enter Tryz.func70, Tryz.ntmps70
    go_wp2_with fail
    go_ret2
    exact ⟨rfl, unhide HB _⟩
   ·go_enter Tryz.func70, Tryz.ntmps70
    go_wp2_with fail
    go_ret2
    exact ⟨rfl, unhide HB _⟩
  ·obtain ⟨j, rfl⟩ : ∃ j : Nat, k = (j : Int) + 1 := ⟨k.toNat - 1, by omega⟩
   obtain ⟨b, off, t, rfl, hb, ht, hc⟩ := h.s.at_ (k := j) (by omega)
   rw [dictO_at ht]
   have w1 : IntKind.i64.wrap ((j : Int) + 1 - 1) = (j : Int) := by rw [show (j : Int) + 1 - 1 = (j : Int) from by omega]; exact IntWalk.i64_in _ ⟨by omega, by omega⟩
   have w2 : wrap64 ((j : Int) + 1 - 1) = (j : Int) := by rw [show (j : Int) + 1 - 1 = (j : Int) from by omega]; exact IntWalk.wrap64_in _ ⟨by omega, by omega⟩
   have w3 : IntKind.i64.wrap (j : Int) = (j : Int) := IntWalk.i64_in _ ⟨by omega, by omega⟩
   have d1 : ¬ (j : Int) + 1 < 1 := by omega
   have d2 : ¬ (n : Int) < (j : Int) + 1 := by omega
   have d3 : (j : Int) < (n : Int) := by omega
   clear h kb ht
   go_enter Tryz.func70, Tryz.ntmps70
   go_wp2_with fail
   go_ret2
   exact ⟨rfl, unhide HB _⟩
attribute [local go_sem] World.cell?_alloc_some in
set_option maxHeartbeats 1000000 in
set_option maxRecDepth 100000 in
theorem dictOf_any (A : Option Addr) (n cap : Nat) (A2 : Option Addr) (n2 cap2 : Nat) (a : Arc) (k : Int) (w : World) (h : ArcIn w A n A2 n2 a) (hn : n ≤ 4611686018427387904) (hk : (dictO a.ds k).isSome = true) :
  Calls Tryz.prog 85 #[arcV A n cap A2 n2 cap2, I k] w fun e w' => e = .returned (S ((dictO a.ds k).getD [])) ∧ Below w.heap.size w w' := by
 have hl := h.s.1
 have HB := hide (fun (o : Obj) => (Below.refl w.heap.size w).alloc (Nat.le_refl _) o)
 by_cases k0 : k = 0
 ·subst k0
  rw [dictO_zero]
  clear h hk
  go_enter Tryz.func85, Tryz.ntmps85
  go_wp2_with fail
  go_ret
  exact ⟨rfl, unhide HB _⟩
 ·have z0 : (k == 0) = false := by rw [beq_eq_false_iff_ne]; exact k0
  by_cases kb : k < 0 ∨ (n : Int) < k
  ·rw [dictO_bad (by rw [hl]; exact kb)] at hk
   cases hk
  ·obtain ⟨j, rfl⟩ : ∃ j : Nat, k = (j : Int) + 1 := ⟨k.toNat - 1, by omega⟩
   obtain ⟨b, off, t, rfl, hb, ht, hc⟩ := h.s.at_ (k := j) (by omega)
   rw [dictO_at ht]
   have w1 : IntKind.i64.wrap ((j : Int) + 1 - 1) = (j : Int) := by rw [show (j : Int) + 1 - 1 = (j : Int) from by omega]; exact IntWalk.i64_in _ ⟨by omega, by omega⟩
   have w2 : wrap64 ((j : Int) + 1 - 1) = (j : Int) := by rw [show (j : Int) + 1 - 1 = (j : Int) from by omega]; exact IntWalk.wrap64_in _ ⟨by omega, by omega⟩
   have w3 : IntKind.i64.wrap (j : Int) = (j : Int) := IntWalk.i64_in _ ⟨by omega, by omega⟩
   have d3 : (j : Int) < (n : Int) := by omega
   clear h kb ht hk
   go_enter Tryz.func85, Tryz.ntmps85
   go_wp2_with fail
   go_ret
   exact ⟨rfl, unhide HB _⟩
end Go.Proofs.YtjpgoeimclipjaaGreat
namespace Go.Proofs.YtjpgoeimclipjaaGreat
open Go.RowKit Go.Lib
theorem results_row_tmp {P : Program} {fn : Func} {p u : Tmp} {ty : TypeId} (h : fn.results = #[.cell p ty, .tmp u]) (tmps : Array Value) (w : World) (g : Nat) (t : TypeId) (cs : Array Value) (fr : Nat × Nat) (d : TypeDesc)
  (hp : tmps.getD p undef = .pointer (some ⟨g, 0, none⟩)) (hg : w.heap[g]? = some (.cells cs t fr))
  (hu : P.underlying ty = some d) (hd : (match d with | .struct _ | .array _ _ => true | _ => false) = true) (hi : (P.info? ty).map (·.size) = some cs.size) :
  (results fn tmps).run P w = .ok (.tuple #[.agg cs, tmps.getD u undef]) w := by
 rw [results_cell_tmp h tmps P w, hp]
 simp [asAddr, run_loadVar_row w g t ty cs fr d hg hu hd hi, Result.andThen]
end Go.Proofs.YtjpgoeimclipjaaGreat
namespace Go.Proofs.YtjpgoeimclipjaaGreat
open Go.RowKit Go.Lib Pl
attribute [local go_sem] ext_list app_list
set_option maxHeartbeats 1000000 in
set_option maxRecDepth 100000 in
theorem cloneFil_any (A : Option Addr) (n cap : Nat) (l : List Fil) (w : World) (hl : filsAt w w.heap.size A n l) (hn : n ≤ 1000000) :
  Calls Tryz.prog 89 #[.slice A n cap] w fun e w' => ∃ v, e = .returned v ∧ w'.ownsRow w.heap.size 61 5 v n (filsCells l) ∧ Below w.heap.size w w' := by
 have qn : ∀ (w : World) (a : Option Addr) (n c n' c' : Nat), (binOp .eql 31 (.slice a n c) (.slice none n' c')).run Tryz.prog w = .ok (.bool a.isNone) w := fun w a n c n' c' => Lib.run_eql_slice_nil w _ _ a n c n' c' Tryz.underlying31
 cases A with
 | none =>
  have h0 : n = 0 := by
   rcases Nat.eq_zero_or_pos n with h | h
   ·exact h
   ·obtain ⟨b, off, e, _⟩ := hl.2 h; cases e
  subst h0
  have hl0 : l = [] := List.eq_nil_of_length_eq_zero hl.1
  subst hl0
  clear hl
  go_enter Tryz.func89, Tryz.ntmps89
  go_wp2_with fail
  go_ret
  exact ⟨_, rfl, World.ownsRow_nil _ _ _ _, Below.refl _ _⟩
 | some ad =>
  obtain ⟨i0, hi, hz0, hz1, hz2⟩ := info_parts info_fil
  have hnews : ∀ j u, (filsCells l)[j]? = some u → w.cell? (ad.add j) = some u := by
   intro j u hj
   have hlen := filsCells_len l
   have hj2 := (List.getElem?_eq_some_iff.1 hj).1
   obtain ⟨b, off, e, hb, hc⟩ := hl.2 (by have := hl.1; omega)
   cases e
   have e : (⟨b, off, none⟩ : Addr).add j = ⟨b, off + j, none⟩ := by unfold Addr.add; split <;> simp_all
   rw [e]
   obtain ⟨q, r, hq, hr⟩ : ∃ q r, j = q * 5 + r ∧ r < 5 := ⟨j / 5, j % 5, by omega, by omega⟩
   have hql : q < l.length := by omega
   obtain ⟨c0, c1, c2, c3, c4⟩ := hc q _ (List.getElem?_eq_getElem hql)
   obtain ⟨d0, d1, d2, d3, d4⟩ := filsCells_get l q _ (List.getElem?_eq_getElem hql)
   rcases (show r = 0 ∨ r = 1 ∨ r = 2 ∨ r = 3 ∨ r = 4 by omega) with h | h | h | h | h
   all_goals
    subst h
    rw [hq] at hj ⊢
   ·rw [Nat.add_zero] at hj ⊢; rw [c0, ← hj, d0]
   ·rw [← Nat.add_assoc, c1, ← hj, d1]
   ·rw [← Nat.add_assoc, c2, ← hj, d2]
   ·rw [← Nat.add_assoc, c3, ← hj, d3]
   ·rw [← Nat.add_assoc, c4, ← hj, d4]
  have hone : ∀ y ∈ filsCells l, y.oneCell' = true := by
   intro y hy
   obtain ⟨t, _, ht⟩ := List.mem_flatMap.1 hy
   exact fil_one t y ht
  have hlen : (filsCells l).length = n * 5 := by rw [filsCells_len, hl.1]
  have hlt : ∀ j, j < (filsCells l).length → ad.block < w.heap.size := fun j hj => by
   obtain ⟨b, off, e, hb, _⟩ := hl.2 (by have := hl.1; rw [filsCells_len] at hj; omega)
   cases e; exact hb
  have HN := hide hnews
  have HO := hide hone
  have HL := hide hlen
  have HLT := hide hlt
  obtain ⟨cs, hcs⟩ : ∃ cs, cs = filsCells l := ⟨_, rfl⟩
  rw [← hcs] at HN HO HL HLT ⊢
  clear hl hnews hone hlen hlt hcs
  go_enter Tryz.func89, Tryz.ntmps89
  go_wp2_with (at_builtin; refine wpList_append_own _ rfl _ _ 31 rfl w.heap.size 61 i0 _ 5 56 Tryz.underlying31 hi hz0 hz1 hz2 rfl (by decide) _ _ _ rfl (World.ownsRow_made w #[] 0 (Nat.le_refl _) (Nat.zero_le _) (by simp)) ad n cap cs rfl ?qc1 ?qc2 ?qc3 ?qc4 ?qc5 ?qc6 ?_)
  case qc1 => exact unhide HL
  case qc2 =>
   intro j u hj
   have e := unhide HN j u hj
   have hb := unhide HLT j (List.getElem?_eq_some_iff.1 hj).1
   exact (Below.cell ((Below.refl w.heap.size w).alloc (Nat.le_refl _) _) (p := ad.add j) (by rw [show (ad.add j).block = ad.block from by unfold Addr.add; split <;> rfl]; exact hb)).trans e
  case qc3 => exact unhide HO
  case qc4 => unfold maxLen; omega
  case qc5 => omega
  case qc6 => simp
  intro v' w1 hown hgrow hnil
  have HOWN := hide hown
  have HG := hide hgrow
  clear hown hgrow
  go_wp2_with fail
  go_ret
  refine ⟨v', rfl, by simpa using unhide HOWN, ?_⟩
  exact ((Below.refl _ w).alloc (Nat.le_refl _) _).grown (unhide HG) (by simp) (by intro k hk; simp [Value.ownBlock] at hk; omega)
end Go.Proofs.YtjpgoeimclipjaaGreat
namespace Go.Proofs.YtjpgoeimclipjaaGreat
namespace Pl
abbrev Asc (fs : List Fil) : Prop := fs.Pairwise fun f g => lessB f.name g.name = true
def posF (name : Bytes) : List Fil → Nat
 | [] => 0
 | g :: r => if lessB g.name name = true then posF name r + 1 else 0
def thereB (name : Bytes) : List Fil → Bool
 | [] => false
 | g :: r => if lessB g.name name = true then thereB name r else decide (g.name = name)
theorem posF_le (name : Bytes) : ∀ fs : List Fil, posF name fs ≤ fs.length
 | [] => Nat.le_refl _
 | g :: r => by
  rw [posF]
  split
  ·have := posF_le name r; simp; omega
  ·simp
theorem posF_eq {name : Bytes} : ∀ {fs : List Fil} {i : Nat}, i ≤ fs.length → (∀ j f, j < i → fs[j]? = some f → lessB f.name name = true) → (∀ f, fs[i]? = some f → lessB f.name name = false) → posF name fs = i
 | [], i, h, _, _ => by simp at h; subst h; rfl
 | g :: r, 0, _, _, h2 => by
  rw [posF, if_neg (by rw [h2 g rfl]; simp)]
 | g :: r, i + 1, h, h1, h2 => by
  rw [posF, if_pos (h1 0 g (by omega) rfl), posF_eq (fs := r) (i := i) (by simpa using h) (fun j f hj hf => h1 (j + 1) f (by omega) (by simpa using hf)) (fun f hf => h2 f (by simpa using hf))]
theorem there_pos (name : Bytes) : ∀ fs : List Fil, thereB name fs = match fs[posF name fs]? with | some f => decide (f.name = name) | none => false
 | [] => rfl
 | g :: r => by
  rw [posF, thereB]
  split
  ·rw [there_pos name r]; simp
  ·simp
theorem there_at {name : Bytes} {fs : List Fil} (h : thereB name fs = true) : ∃ f, fs[posF name fs]? = some f ∧ f.name = name := by
 rw [there_pos] at h
 cases hf : fs[posF name fs]? with
 | none => rw [hf] at h; cases h
 | some f => rw [hf] at h; exact ⟨f, rfl, by simpa using h⟩
theorem there_lt {name : Bytes} {fs : List Fil} (h : thereB name fs = true) : posF name fs < fs.length := by
 obtain ⟨f, hf, _⟩ := there_at h
 exact (List.getElem?_eq_some_iff.1 hf).1
theorem insF_there {f : Fil} : ∀ {fs : List Fil}, thereB f.name fs = true → insF f fs = fs.set (posF f.name fs) f
 | [], h => by cases h
 | g :: r, h => by
  rw [thereB] at h
  rw [insF, posF]
  split at h
  ·rename_i h1
   rw [if_pos h1, if_pos h1, insF_there h]; rfl
  ·rename_i h1
   rw [if_neg h1, if_neg h1, if_pos (by simpa using h)]; rfl
theorem insF_new {f : Fil} : ∀ {fs : List Fil}, thereB f.name fs = false → insF f fs = fs.take (posF f.name fs) ++ f :: fs.drop (posF f.name fs)
 | [], _ => rfl
 | g :: r, h => by
  rw [thereB] at h
  rw [insF, posF]
  split at h
  ·rename_i h1
   rw [if_pos h1, if_pos h1, insF_new h]; simp
  ·rename_i h1
   rw [if_neg h1, if_neg h1, if_neg (by simpa using h)]; rfl
theorem insF_len {f : Fil} {fs : List Fil} : (insF f fs).length = if thereB f.name fs = true then fs.length else fs.length + 1 := by
 have := posF_le f.name fs
 split
 ·rename_i h; rw [insF_there h]; simp
 ·rename_i h; rw [insF_new (by simpa using h)]; simp; omega
theorem find_later {name : Bytes} {g : Fil} {r : List Fil} (h : ∀ f ∈ r, lessB g.name f.name = true) (hn : lessB g.name name = false) : ∀ f ∈ r, f.name ≠ name := by
 intro f hf e
 have := h f hf
 rw [e, hn] at this
 cases this
theorem find_pos {name : Bytes} : ∀ {fs : List Fil}, Asc fs → findF name fs = if thereB name fs = true then fs[posF name fs]? else none
 | [], _ => rfl
 | g :: r, h => by
  have hp := List.pairwise_cons.1 h
  rw [thereB, posF]
  by_cases h1 : lessB g.name name = true
  ·rw [if_pos h1, if_pos h1, List.getElem?_cons_succ, ← find_pos hp.2]
   unfold findF
   rw [List.find?_cons_of_neg]
   simp only [decide_eq_true_eq]
   intro e; rw [e, lessB_irrefl] at h1; cases h1
  ·rw [if_neg h1, if_neg h1]
   by_cases h2 : g.name = name
   ·simp [findF, h2]
   ·rw [if_neg (by simpa using h2)]
    unfold findF
    rw [List.find?_eq_none]
    intro f hf
    simp only [decide_eq_true_eq]
    rcases List.mem_cons.1 hf with rfl | hf
    ·exact h2
    ·exact find_later hp.1 (by simpa using h1) f hf
theorem filter_pos {name : Bytes} : ∀ {fs : List Fil}, Asc fs → thereB name fs = true → (fs.filter fun f => decide (f.name ≠ name)) = fs.take (posF name fs) ++ fs.drop (posF name fs + 1)
 | [], _, h => by cases h
 | g :: r, h, ht => by
  have hp := List.pairwise_cons.1 h
  rw [thereB] at ht
  rw [posF]
  by_cases h1 : lessB g.name name = true
  ·rw [if_pos h1] at ht ⊢
   have hg : g.name ≠ name := by intro e; rw [e, lessB_irrefl] at h1; cases h1
   rw [List.filter_cons_of_pos (by simpa using hg), filter_pos hp.2 ht]; simp
  ·rw [if_neg h1] at ht ⊢
   have hg : g.name = name := by simpa using ht
   rw [List.filter_cons_of_neg (by simpa using hg)]
   simp only [List.take_zero, List.nil_append, Nat.zero_add, List.drop_one, List.tail_cons]
   rw [List.filter_eq_self]
   intro f hf
   simpa using find_later hp.1 (by simpa using h1) f hf
theorem keepD_snoc (fs : List Fil) : ∀ (l : List Bytes) (i : Nat) (d : Bytes), keepD fs i (l ++ [d]) = keepD fs i l ++ if usedB fs (i + l.length + 1) = true then [d] else []
 | [], i, d => by
  rw [List.nil_append, keepD, keepD, keepD]
  split <;> simp_all
 | x :: l, i, d => by
  rw [List.cons_append, keepD, keepD, keepD_snoc fs l (i + 1) d]
  have e : i + 1 + l.length + 1 = i + (x :: l).length + 1 := by simp; omega
  rw [e]
  split <;> simp
theorem keepD_take {fs : List Fil} {ds : List Bytes} {n : Nat} {d : Bytes} (h : ds[n]? = some d) : keepD fs 0 (ds.take (n + 1)) = keepD fs 0 (ds.take n) ++ if usedB fs (n + 1) = true then [d] else [] := by
 have hn := (List.getElem?_eq_some_iff.1 h).1
 rw [List.take_add_one, h]
 show keepD fs 0 (ds.take n ++ [d]) = _
 rw [keepD_snoc, List.length_take, Nat.min_eq_left (by omega), Nat.zero_add]
theorem keepD_takeLen {fs : List Fil} {ds : List Bytes} {n : Nat} (h : n ≤ ds.length) : (keepD fs 0 (ds.take n)).length = movedN fs n := by
 have := keepD_len fs (ds.take n) 0
 rw [List.length_take, Nat.min_eq_left h, Nat.zero_add] at this
 have e : movedN fs 0 = 0 := rfl
 rw [e] at this
 omega
theorem dictO_range {ds : List Bytes} {k : Int} (h : dictO ds k ≠ none) : 0 ≤ k ∧ k ≤ (ds.length : Int) := by
 unfold dictO at h
 by_cases h0 : k = 0
 ·omega
 ·rw [if_neg h0] at h
  by_cases h1 : k < 1 ∨ (ds.length : Int) < k
  ·rw [if_pos h1] at h; exact absurd rfl h
  ·omega
theorem fileB_dict {ds : List Bytes} {f : Fil} (h : fileB ds f = true) : 0 ≤ f.dict ∧ f.dict ≤ (ds.length : Int) := by
 have := fileB_text h
 refine dictO_range fun e => ?_
 unfold textO at this
 rw [e] at this
 cases this
def usedN (fs : List Fil) (k : Int) : Nat := (fs.filter fun f => decide (f.dict = k)).length
theorem usedN_le (fs : List Fil) (k : Int) : usedN fs k ≤ fs.length := List.length_filter_le _ _
theorem usedN_take {fs : List Fil} {k : Nat} {f : Fil} (h : fs[k]? = some f) (x : Int) : usedN (fs.take (k + 1)) x = if x = f.dict then usedN (fs.take k) x + 1 else usedN (fs.take k) x := by
 unfold usedN
 rw [List.take_add_one, h, List.filter_append, List.length_append]
 by_cases e : x = f.dict
 ·simp [e]
 ·simp [e, Ne.symm e]
theorem usedN_pos {fs : List Fil} {n : Nat} : 0 < usedN fs (n : Int) ↔ usedB fs n = true := by
 unfold usedN usedB
 rw [List.length_pos_iff_exists_mem, List.any_eq_true]
 simp only [List.mem_filter]
def movedF (fs : List Fil) (n : Nat) (k : Int) : Nat := if 1 ≤ k ∧ k ≤ (n : Int) ∧ usedB fs k.toNat = true then movedN fs k.toNat else 0
theorem movedF_yes {fs : List Fil} {n : Nat} (h : usedB fs (n + 1) = true) : movedF fs (n + 1) = fun k => if k = ((n + 1 : Nat) : Int) then movedN fs (n + 1) else movedF fs n k := by
 funext k
 unfold movedF
 by_cases e : k = ((n + 1 : Nat) : Int)
 ·subst e
  rw [if_pos ⟨by omega, by omega, by rw [Int.toNat_natCast]; exact h⟩, if_pos rfl, Int.toNat_natCast]
 ·rw [if_neg e]
  by_cases h2 : 1 ≤ k ∧ k ≤ (n : Int) ∧ usedB fs k.toNat = true
  ·rw [if_pos h2, if_pos ⟨h2.1, by omega, h2.2.2⟩]
  ·rw [if_neg h2, if_neg (fun h3 => h2 ⟨h3.1, by omega, h3.2.2⟩)]
theorem movedF_no {fs : List Fil} {n : Nat} (h : usedB fs (n + 1) = false) : movedF fs (n + 1) = movedF fs n := by
 funext k
 unfold movedF
 by_cases h2 : 1 ≤ k ∧ k ≤ (n : Int) ∧ usedB fs k.toNat = true
 ·rw [if_pos h2, if_pos ⟨h2.1, by omega, h2.2.2⟩]
 ·rw [if_neg h2, if_neg]
  intro h3
  by_cases e : k = ((n + 1 : Nat) : Int)
  ·subst e
   have := h3.2.2
   rw [Int.toNat_natCast, h] at this
   cases this
  ·exact h2 ⟨h3.1, by omega, h3.2.2⟩
theorem movedF_file {a : Arc} (h : RightA a) {f : Fil} (hf : f ∈ a.fs) : movedF a.fs a.ds.length f.dict = movedN a.fs f.dict.toNat := by
 obtain ⟨h0, h1⟩ := fileB_dict (h.fr.each f hf)
 unfold movedF
 by_cases e : f.dict = 0
 ·rw [if_neg (by omega), e]; rfl
 ·have hu : usedB a.fs f.dict.toNat = true := used_iff.2 ⟨f, hf, by omega⟩
  rw [if_pos ⟨by omega, h1, hu⟩]
end Pl
end Go.Proofs.YtjpgoeimclipjaaGreat
namespace Go.Proofs.YtjpgoeimclipjaaGreat
open Go.RowKit Go.Lib Pl
theorem filsCells_take {l : List Fil} {i : Nat} (h : i ≤ l.length) : (filsCells l).take (i * 5) = filsCells (l.take i) := by
 have e : filsCells l = filsCells (l.take i) ++ filsCells (l.drop i) := by rw [← filsCells_app, List.take_append_drop]
 rw [e, List.take_left' (by rw [filsCells_len, List.length_take]; omega)]
theorem filsCells_drop {l : List Fil} {i : Nat} (h : i ≤ l.length) : (filsCells l).drop (i * 5) = filsCells (l.drop i) := by
 have e : filsCells l = filsCells (l.take i) ++ filsCells (l.drop i) := by rw [← filsCells_app, List.take_append_drop]
 rw [e, List.drop_left' (by rw [filsCells_len, List.length_take]; omega)]
theorem filsCells_one (l : List Fil) : ∀ y ∈ filsCells l, y.oneCell' = true := by
 intro y hy
 obtain ⟨t, _, ht⟩ := List.mem_flatMap.1 hy
 exact fil_one t y ht
theorem filCells_len (f : Fil) : (filCells f).length = 5 := rfl
theorem filsCells_cons (f : Fil) (l : List Fil) : filsCells (f :: l) = filCells f ++ filsCells l := by simp [filsCells]
theorem filsCells_set {l : List Fil} {i : Nat} {f : Fil} (h : i < l.length) : filsCells (l.set i f) = filsCells (l.take i) ++ (filCells f ++ filsCells (l.drop (i + 1))) := by
 rw [List.set_eq_take_append_cons_drop, if_pos h, filsCells_app, filsCells_cons]
theorem ownsFil_row {w : World} {base n g cap : Nat} {l : List Fil} (h : w.ownsRow base 61 5 (.slice (some ⟨g, 0, none⟩) n cap) n (filsCells l)) :
  ∃ cur, base ≤ g ∧ w.heap[g]? = some (.cells cur 61 (0, 0)) ∧ n ≤ cap ∧ cap ≤ maxLen ∧ cur.size = cap * 5 ∧ cur.toList.take (n * 5) = filsCells l := by
 rcases h.2 with ⟨hv, _⟩ | ⟨g', cap', cur, hv, hb, hg, hn, hc, hs, ht⟩
 ·cases hv
 ·injection hv with ha _ hcap
  injection ha with ha
  injection ha with ha
  subst ha
  subst hcap
  exact ⟨cur, hb, hg, hn, hc, hs, ht⟩
theorem ownsFil_len {w : World} {base n : Nat} {v : Value} {l : List Fil} (h : w.ownsRow base 61 5 v n (filsCells l)) : l.length = n := by
 have := h.1; rw [filsCells_len] at this; omega
theorem ownsFil_form {w : World} {base n : Nat} {v : Value} {l : List Fil} (h : w.ownsRow base 61 5 v n (filsCells l)) : (v = .slice none 0 0 ∧ n = 0 ∧ l = []) ∨ ∃ g cap, v = .slice (some ⟨g, 0, none⟩) n cap := by
 have hl := ownsFil_len h
 rcases h.2 with ⟨hv, h0⟩ | ⟨g', cap', cur, hv, _⟩
 ·exact .inl ⟨hv, h0, List.eq_nil_of_length_eq_zero (by omega)⟩
 ·exact .inr ⟨_, _, hv⟩
theorem ownsFil_mk {w : World} {base n g cap : Nat} {l : List Fil} {cur : Array Value} (hb : base ≤ g) (hg : w.heap[g]? = some (.cells cur 61 (0, 0))) (hn : n ≤ cap) (hc : cap ≤ maxLen) (hs : cur.size = cap * 5) (hl : l.length = n) (ht : cur.toList.take (n * 5) = filsCells l) :
  w.ownsRow base 61 5 (.slice (some ⟨g, 0, none⟩) n cap) n (filsCells l) :=
 ⟨by rw [filsCells_len, hl], .inr ⟨g, cap, cur, rfl, hb, hg, hn, hc, hs, ht⟩⟩
theorem run_copyF {w : World} (dT sT ty : TypeId) (hT : Tryz.prog.underlying dT = some (.slice 61)) (g o dLen dCap : Nat) (a : Addr) (sLen sCap : Nat) (cs : List Value) (cur : Array Value) (hn : cs.length = Nat.min sLen dLen * 5)
  (hsrc : ∀ j v, cs[j]? = some v → w.cell? (a.add j) = some v) (hg : w.heap[g]? = some (.cells cur 61 (0, 0))) (hfit : o + cs.length ≤ cur.size) (h1 : ∀ v ∈ cs, v.oneCell' = true) :
  (Builtin.copy_ #[dT, sT] ty #[.slice (some ⟨g, o, none⟩) dLen dCap, .slice (some a) sLen sCap]).run Tryz.prog w = .ok (goInt (Nat.min sLen dLen)) (w.setRow g (cur.toList.take o ++ cs ++ cur.toList.drop (o + cs.length)).toArray) := by
 obtain ⟨i0, hi, hz0, hz1, hz2⟩ := info_parts info_fil
 have hf := run_firstCells_some (P := Tryz.prog) w 5 (Nat.min sLen dLen) a sLen sCap cs hn hsrc
 have hst := run_storeCells_at Tryz.prog g o 61 cs 0 cur w hg (by simpa using hfit) h1
 simp only [Nat.add_zero] at hst
 simp [Builtin.copy_, run_underlying hT, Builtin.lenOf, sizeOf, typeInfo, hi, hz1, hf, hst]
theorem wpList_copy_runF (w : World) {ops : Array Oper} {rest : List Oper} {o : Oper} {a : Act} {Q : Exit → Act → World → Prop} (hgd : o.guard = none) (d s : Operand) (t t' : TypeId)
  (ho : o.op = .call { callee := .builtin .copy, args := #[d, s], argTypes := #[t, t'] }) (v u : Value) (hd : a.eval d = v) (hs : a.eval s = u) {v' : Value} {w' : World}
  (hr : (Builtin.copy_ #[t, t'] o.type #[v, u]).run Tryz.prog w = .ok v' w') (h : wpList Tryz.prog ops Q rest (a.put o.dst v') w') : wpList Tryz.prog ops Q (o :: rest) a w :=
 wpList_plain hgd fun _ hK => by
  unfold Oper.wp execOp
  simp only [ho, resolve, invoke, builtin, Sem.run_bind, Sem.run_pure, Result.andThen_ok, List.map_toArray, List.map_cons, List.map_nil, hd, hs, hr]
  exact hK _ _ h
theorem step_copy_runF {ops : Array Oper} {o : Oper} {a : Act} {w : World} {K : Act → World → Prop} {Q : Exit → Act → World → Prop} {E : Prop}
  (hg : o.guard = none) (d x : Operand) (dT sT : TypeId) (hop : o.op = Op.call { callee := Callee.builtin Builtin.copy, args := #[d, x], argTypes := #[dT, sT] })
  (v u : Value) (hd : a.eval d = v) (hx : a.eval x = u) {v' : Value} {w' : World} (hr : (Builtin.copy_ #[dT, sT] o.type #[v, u]).run Tryz.prog w = .ok v' w') (hK : K (a.put o.dst v') w') :
  if Region.wanted o (yielded ops a.tmps) = true then Oper.wp Tryz.prog o a w K Q else E := by
 have hw : Region.wanted o (yielded ops a.tmps) = true := by simp [Region.wanted, hg]
 rw [if_pos hw]
 unfold Oper.wp
 simp [execOp, hop, resolve, invoke, builtin, hd, hx, hr, Result.andThen]
 exact hK
theorem run_clearF {w : World} (tT ty : TypeId) (hT : Tryz.prog.underlying tT = some (.slice 61)) (g o cap : Nat) (cur : Array Value) (hg : w.heap[g]? = some (.cells cur 61 (0, 0))) (hfit : o + 5 ≤ cur.size) :
  (Builtin.clear_ #[tT] ty #[.slice (some ⟨g, o, none⟩) 1 cap]).run Tryz.prog w = .ok (.tuple #[]) (w.setRow g (cur.toList.take o ++ filCells ⟨[], 0, 0, 0, []⟩ ++ cur.toList.drop (o + 5)).toArray) := by
 have hz : ∀ w, (zeroValue 61).run Tryz.prog w = .ok (.agg #[.string ByteArray.empty, .int .i64 0, .int .i64 0, .int .i64 0, .string ByteArray.empty]) w := by
  intro w
  obtain ⟨i0, hi, hz0, hz1, hz2⟩ := info_parts info_fil
  simp [zeroValue, typeInfo, hi, hz0]
 have hzc : (Builtin.zeroCells (Value.agg #[.string ByteArray.empty, .int .i64 0, .int .i64 0, .int .i64 0, .string ByteArray.empty]).cells 1).toList = filCells ⟨[], 0, 0, 0, []⟩ := by kernel_rfl
 have hst := run_storeCells_at Tryz.prog g o 61 (filCells ⟨[], 0, 0, 0, []⟩) 0 cur w hg (by simpa [filCells_len] using hfit) (fil_one _)
 simp only [Nat.add_zero, filCells_len] at hst
 simp [Builtin.clear_, run_underlying hT, hz, hzc, hst]
end Go.Proofs.YtjpgoeimclipjaaGreat
