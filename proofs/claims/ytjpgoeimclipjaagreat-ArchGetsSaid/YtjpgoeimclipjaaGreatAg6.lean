/- Parts of a proof. -/
import Derived.Test.YtjpgoeimclipjaaGreatAg5
import Derived.Deep.RegionHeld3
import Derived.Deep.WholeRow
import Derived.Laws.CopyOwn
import Derived.OneCell
import Derived.Lib.AppendZeros
namespace Go.Proofs.YtjpgoeimclipjaaGreat
open Go.RowKit Go.Lib Pl Go.Sort
/-- a tree of the program: its weight, its signs and where these lie -/
structure El where
  w : Nat
  g : Nat
  cap : Nat
  s : List Nat
instance : Inhabited El := ⟨⟨0, 0, 0, []⟩⟩
def El.tr (e : El) : Tr := (e.w, e.s)
abbrev SgV (e : El) : Value := .slice (some ⟨e.g, 0, none⟩) e.s.length e.cap
def elCells (e : El) : List Value := [I (e.w : Int), SgV e]
def natI (i : Nat) : Value := I (i : Int)
def SgOK (w : World) (base : Nat) (e : El) : Prop := w.ownsRow base 3 1 (SgV e) e.s.length (e.s.map natI)
theorem elsLen (l : List El) : (l.flatMap elCells).length = l.length * 2 := by
  induction l with
  | nil => rfl
  | cons x l ih => simp [elCells] at ih ⊢; omega
theorem els_get : ∀ (l : List El) (i : Nat) (x : El), l[i]? = some x → (l.flatMap elCells)[i * 2]? = some (I (x.w : Int)) ∧ (l.flatMap elCells)[i * 2 + 1]? = some (SgV x)
  | [], i, x, h => by simp at h
  | u :: l, 0, x, h => by simp at h; subst h; simp [elCells]
  | u :: l, i + 1, x, h => by
    have h' : l[i]? = some x := by simpa using h
    obtain ⟨a, b⟩ := els_get l i x h'
    have e : (u :: l).flatMap elCells = elCells u ++ l.flatMap elCells := by simp
    have hl : (elCells u).length = 2 := rfl
    rw [e]
    refine ⟨?_, ?_⟩
    · rw [List.getElem?_append_right (by omega), hl, show (i + 1) * 2 - 2 = i * 2 from by omega]; exact a
    · rw [List.getElem?_append_right (by omega), hl, show (i + 1) * 2 + 1 - 2 = i * 2 + 1 from by omega]; exact b
/-- a row of trees that begins at a place of its block -/
def QAt (w : World) (base g off cap : Nat) (l : List El) : Prop :=
  base ≤ g ∧ ∃ cur, w.heap[g]? = some (.cells cur 207 (0, 0)) ∧ l.length ≤ cap ∧ cap ≤ maxLen ∧ off + cap * 2 ≤ cur.size ∧ (cur.toList.drop off).take (l.length * 2) = l.flatMap elCells
theorem QAt.kept {w w' : World} {base g off cap : Nat} {l : List El} (h : QAt w base g off cap l) (hg : w'.heap[g]? = w.heap[g]?) : QAt w' base g off cap l := by
  obtain ⟨hb, cur, h1, h2⟩ := h
  exact ⟨hb, cur, hg.trans h1, h2⟩
theorem QAt.lt {w : World} {base g off cap : Nat} {l : List El} (h : QAt w base g off cap l) : g < w.heap.size := by
  obtain ⟨hb, cur, h1, h2⟩ := h
  exact (Array.getElem?_eq_some_iff.1 h1).1
theorem QAt.of_own {w : World} {base g n cap : Nat} {l : List El} (h : w.ownsRow base 207 2 (.slice (some ⟨g, 0, none⟩) n cap) n (l.flatMap elCells)) : QAt w base g 0 cap l ∧ l.length = n := by
  have hl : l.length = n := by have := h.1; rw [elsLen] at this; omega
  rcases h.2 with ⟨hv, _⟩ | ⟨g', cap', cur, hv, hb, hg, hn, hc, hs, ht⟩
  · cases hv
  · injection hv with ha _ hcap
    injection ha with ha
    injection ha with ha
    subst ha
    subst hcap
    exact ⟨⟨hb, cur, hg, by omega, hc, by omega, by rw [List.drop_zero, hl]; exact ht⟩, hl⟩
theorem QAt.row {w : World} {base g off cap : Nat} {l : List El} (h : QAt w base g off cap l) {j : Nat} {u : Value} (hu : (l.flatMap elCells)[j]? = some u) : w.cell? ⟨g, off + j, none⟩ = some u ∧ w.frozen? ⟨g, off + j, none⟩ = false := by
  obtain ⟨hb, cur, h1, h2, h3, h4, h5⟩ := h
  refine ⟨?_, by simp [World.frozen?, h1]⟩
  rw [cell_of_row w g (off + j) cur _ _ h1]
  rw [← h5, List.getElem?_take] at hu
  split at hu
  · rw [List.getElem?_drop] at hu; simpa using hu
  · cases hu
theorem QAt.get {w : World} {base g off cap : Nat} {l : List El} (h : QAt w base g off cap l) {k : Nat} {x : El} (hx : l[k]? = some x) : w.cell? ⟨g, off + k * 2, none⟩ = some (I (x.w : Int)) ∧ w.cell? ⟨g, off + (k * 2 + 1), none⟩ = some (SgV x) := by
  obtain ⟨h1, h2⟩ := els_get l k x hx
  exact ⟨(h.row h1).1, (h.row h2).1⟩
theorem QAt.cut {w : World} {base g off cap : Nat} {a b : El} {l : List El} (h : QAt w base g off cap (a :: b :: l)) : QAt w base g (off + 4) (cap - 2) l ∧ 2 ≤ cap := by
  obtain ⟨hb, cur, h1, h2, h3, h4, h5⟩ := h
  simp only [List.length_cons] at h2 h5
  refine ⟨⟨hb, cur, h1, by omega, by omega, by omega, ?_⟩, by omega⟩
  have e := congrArg (List.drop 4) h5
  rw [List.drop_take, List.drop_drop] at e
  have e2 : (a :: b :: l).flatMap elCells = [I (a.w : Int), SgV a, I (b.w : Int), SgV b] ++ l.flatMap elCells := by simp [elCells]
  rw [e2] at e
  have e3 : (l.length + 1 + 1) * 2 - 4 = l.length * 2 := by omega
  rw [e3] at e
  rw [e]
  rfl
theorem QAt.holdsK {w : World} {base g off cap : Nat} {l : List El} (h : QAt w base g off cap l) {α : Type} [Inhabited α] (enc : α → List Value) (d : Array α) (hd : (Go.Sort.flatK enc 2 d).toList = l.flatMap elCells) : Go.Sort.HoldsK enc 2 w g off d := by
  intro j hj
  have hu : (l.flatMap elCells)[j]? = some (Go.Sort.flatK enc 2 d)[j]! := by
    rw [← hd, Array.getElem?_toList, Array.getElem?_eq_getElem hj, getElem!_pos _ j hj]
  exact h.row hu
/-- what the library's sort leaves -/
theorem QAt.sorted {w : World} {base g off cap m : Nat} {l l' : List El} {os : Array Obj} (h : QAt w base g off cap l) {α : Type} [Inhabited α] (enc : α → List Value) (d : Array α) (hd : (Go.Sort.flatK enc 2 d).toList = l'.flatMap elCells) (hp : l'.length = l.length) :
    QAt (Go.Proofs.sortWorldK enc 2 w g off m d os) base g off cap l' ∧ w.grownBy (Go.Proofs.sortWorldK enc 2 w g off m d os) (some g) := by
  have hgl := h.lt
  obtain ⟨hb, cur, h1, h2, h3, h4, h5⟩ := h
  have hsz : (Go.Sort.flatK enc 2 d).size = l.length * 2 := by
    rw [← Array.length_toList, hd, elsLen, hp]
  have hcur : off + l.length * 2 ≤ cur.size := by omega
  have hh : (Go.Proofs.sortWorldK enc 2 w g off m d os).heap[g]? = some (.cells (Go.Sort.putCells id off (Go.Sort.flatK enc 2 d) cur) 207 (0, 0)) := by
    unfold Go.Proofs.sortWorldK Go.Sort.putRowK Go.Sort.putRow
    have hg2 : (Go.Sort.ahead w m).heap[g]? = some (.cells cur 207 (0, 0)) := h1
    rw [heap_grow_old _ _ (by show g < (mapBlock _ _ _).heap.size; unfold mapBlock; simpa using hgl)]
    unfold mapBlock
    simp only [Array.getElem?_modify]
    rw [if_pos trivial, hg2]
    rfl
  refine ⟨⟨hb, _, hh, by omega, h3, ?_, ?_⟩, rfl, rfl, rfl, ?_, fun i hi hne => ?_⟩
  · unfold putCells; simpa using h4
  · rw [hp, ← hd]
    apply List.ext_getElem?
    intro t
    rw [List.getElem?_take]
    by_cases htn : t < l.length * 2
    · rw [if_pos htn, List.getElem?_drop, Array.getElem?_toList, Array.getElem?_toList]
      unfold putCells
      rw [Array.getElem?_mapIdx, Array.getElem?_eq_getElem (by omega)]
      simp only [Option.map_some]
      rw [if_pos (by omega), show off + t - off = t from by omega, Array.getElem?_eq_getElem (by omega), getElem!_pos _ t (by omega)]
      rfl
    · rw [if_neg htn, List.getElem?_eq_none (by rw [Array.length_toList, hsz]; omega)]
  · unfold sortWorldK putRowK putRow mapBlock; simp [Sort.ahead]
  · unfold sortWorldK putRowK putRow
    rw [heap_grow_old _ _ (by show i < (mapBlock _ _ _).heap.size; unfold mapBlock; simp [Sort.ahead]; omega)]
    unfold mapBlock
    simp only [Array.getElem?_modify]
    rw [if_neg (by intro e; exact hne (by rw [e]))]
    rfl
theorem info_tree : (Tryz.prog.info? 207).map (fun i => (i.zero, i.size, i.bytes)) = some (some (.agg #[.int .i64 0, .slice none 0 0]), 2, 32) := by kernel_rfl
/-- append(l, tree{..}) where l may begin anywhere in its block -/
theorem run_append_Q {w : World} {base g off cap : Nat} {l : List El} (ty : TypeId) (hq : QAt w base g off cap l) (x : El) (a : Addr) (c : Nat) (hx : ∀ j u, (elCells x)[j]? = some u → w.cell? (a.add j) = some u) (hn : l.length ≤ 1000) (hbase : base ≤ w.heap.size) :
    ∃ g' off' cap' w', (Builtin.append_ #[205, 205] ty #[.slice (some ⟨g, off, none⟩) l.length cap, .slice (some a) 1 c]).run Tryz.prog w = .ok (.slice (some ⟨g', off', none⟩) (l.length + 1) cap') w' ∧
      QAt w' base g' off' cap' (l ++ [x]) ∧ w.grownBy w' (some g) ∧ (g' = g ∨ g' = w.heap.size) := by
  obtain ⟨i0, hi, hz0, hz1, hz2⟩ := info_parts info_tree
  have ht := Tryz.underlying205
  have hgl := hq.lt
  have hq0 := hq
  obtain ⟨hb, cur, h1, h2, h3, h4, h5⟩ := hq
  have hlen : ((l ++ [x]).flatMap elCells).length = (l.length + 1) * 2 := by rw [elsLen]; simp
  have h1c : ∀ u ∈ elCells x, u.oneCell' = true := by
    intro u hu
    simp [elCells] at hu
    rcases hu with rfl | rfl <;> rfl
  by_cases hroom : l.length + 1 ≤ cap
  · have hf := run_firstCells_some (P := Tryz.prog) w i0.size 1 a 1 c (elCells x) (by rw [hz1]; rfl) hx
    have hst := run_storeCells_at Tryz.prog g (off + l.length * 2) 207 (elCells x) 0 cur w h1 (by simp [elCells]; omega) h1c
    simp only [Nat.add_zero] at hst
    refine ⟨g, off, cap, w.setRow g (cur.toList.take (off + l.length * 2) ++ elCells x ++ cur.toList.drop (off + l.length * 2 + (elCells x).length)).toArray, ?_, ⟨hb, _, setRow_heap w g cur _ _ _ h1, by simp; omega, h3, ?_, ?_⟩, ⟨rfl, rfl, rfl, by simp, fun k _ hk => setRow_other w g k _ (fun e => hk (by simp [e]))⟩, .inl rfl⟩
    · rw [hz1] at hf
      simp [Builtin.append_, run_underlying ht, sizeOf, typeInfo, hi, hz1, Builtin.lenOf, hroom, hf, Addr.add_lit, hst]
    · simp only [List.size_toArray, List.length_append, List.length_take, List.length_drop, Array.length_toList]
      simp [elCells]; omega
    · simp only [List.toList_toArray]
      have e1 : (cur.toList.take (off + l.length * 2) ++ elCells x ++ cur.toList.drop (off + l.length * 2 + (elCells x).length)).drop off = l.flatMap elCells ++ elCells x ++ cur.toList.drop (off + l.length * 2 + (elCells x).length) := by
        have e0 : (cur.toList.take (off + l.length * 2)).drop off = l.flatMap elCells := by
          rw [List.drop_take, ← h5, show off + l.length * 2 - off = l.length * 2 from by omega]
        rw [List.append_assoc, List.drop_append_of_le_length (by simp; omega), e0, List.append_assoc]
      rw [e1, List.flatMap_append, List.take_append_of_le_length (by simp only [List.length_append, elsLen]; simp [elCells]; try omega)]
      rw [List.take_of_length_le (by simp only [List.length_append, elsLen]; simp [elCells]; try omega)]
      simp
  · have hfit := growslice_fits (need := l.length + 1) (old := cap) (bytes := 32) (by omega) (by omega)
    have hr := run_append_grow (P := Tryz.prog) w 205 ty 207 i0 _ ht hi hz0 ⟨g, off, none⟩ l.length cap (l.flatMap elCells) (by rw [elsLen, hz1]) (fun j u hu => by rw [Addr.add_lit]; exact (hq0.row hu).1) a 1 c (elCells x) (by rw [hz1]; rfl) hx (by omega) (by omega) (by rw [hz2]; exact hfit)
    have hge := grownCap_ge w (l.length + 1) cap 207
    refine ⟨w.heap.size, 0, grownCap w (l.length + 1) cap 207, _, hr, ⟨hbase, _, heap_alloc_new w.drew _, by simpa using hge, grownCap_le_maxLen w _ _ _ (by unfold maxLen; omega), ?_, ?_⟩, ⟨rfl, rfl, rfl, by simp, fun k hk _ => Below.heap_alloc w.drew _ k hk⟩, .inr rfl⟩
    · have hz : (Value.agg #[Value.int IntKind.i64 0, Value.slice none 0 0]).cells.size = 2 := rfl
      simp only [Array.size_append, List.size_toArray, size_zeroCells, elsLen, hz]
      have : (elCells x).length = 2 := rfl
      have h9 : (grownCap w (l.length + 1) cap 207 - (l.length + 1)) * 2 + (l.length + 1) * 2 = grownCap w (l.length + 1) cap 207 * 2 := by omega
      omega
    · simp only [Array.toList_append, List.drop_zero, List.toList_toArray]
      rw [List.flatMap_append, List.take_append_of_le_length (by simp only [List.length_append, elsLen]; simp [elCells]; try omega)]
      rw [List.take_of_length_le (by simp only [List.length_append, elsLen]; simp [elCells]; try omega)]
      simp
/-- .. at a step of a region that draws its order -/
theorem step_push_Q {w : World} {ops : Array Oper} {o : Oper} {a : Act} {K : Act → World → Prop} {Q : Exit → Act → World → Prop} {E : Prop} (hgd : o.guard = none) (s x : Operand)
    (ho : o.op = .call { callee := .builtin .append, args := #[s, x], argTypes := #[205, 205] })
    (base g off cap n : Nat) (l : List El) (hln : l.length = n) (hs : a.eval s = .slice (some ⟨g, off, none⟩) n cap) (hq : QAt w base g off cap l) (e : El)
    (H : Nat) (hx : a.eval x = .slice (some ⟨H, 0, none⟩) 1 1) (c0 : w.cell? ⟨H, 0, none⟩ = some (I (e.w : Int))) (c1 : w.cell? ⟨H, 1, none⟩ = some (SgV e))
    (hn : n ≤ 1000) (hbase : base ≤ w.heap.size)
    (h : ∀ g' off' cap' w', QAt w' base g' off' cap' (l ++ [e]) → w.grownBy w' (some g) → (g' = g ∨ g' = w.heap.size) → K (a.put o.dst (.slice (some ⟨g', off', none⟩) (n + 1) cap')) w') :
    if Region.wanted o (yielded ops a.tmps) = true then Oper.wp Tryz.prog o a w K Q else E := by
  have hw : Region.wanted o (yielded ops a.tmps) = true := by simp [Region.wanted, hgd]
  rw [if_pos hw]
  subst hln
  obtain ⟨g', off', cap', w', hr, h2, h3, h4⟩ := run_append_Q (w := w) o.type hq e ⟨H, 0, none⟩ 1 (by
    intro j u hu
    match j, hu with
    | 0, hu => simp [elCells] at hu; subst hu; rw [Addr.add_lit]; exact c0
    | 1, hu => simp [elCells] at hu; subst hu; rw [Addr.add_lit]; exact c1
    | j + 2, hu => simp [elCells] at hu) hn hbase
  unfold Oper.wp execOp
  simp only [ho, resolve, invoke, builtin, Sem.run_bind, Sem.run_pure, Result.andThen_ok, List.map_toArray, List.map_cons, List.map_nil, hs, hx, hr]
  exact h _ _ _ _ h2 h3 h4
end Go.Proofs.YtjpgoeimclipjaaGreat
namespace Go.Proofs.YtjpgoeimclipjaaGreat
open Go.RowKit Go.Lib Pl Go.Sort
/-- what order reads -/
structure OrdAt (W : World) (B : Nat) (wx wy hx hy : Int) (gx cx nx gy cy ny : Nat) : Prop where
  a : W.cell? ⟨B, 0, none⟩ = some (I wx)
  b : W.cell? ⟨B, 1, none⟩ = some (.slice (some ⟨gx, 0, none⟩) nx cx)
  c : W.cell? ⟨B + 1, 0, none⟩ = some (I wy)
  d : W.cell? ⟨B + 1, 1, none⟩ = some (.slice (some ⟨gy, 0, none⟩) ny cy)
  e : W.cell? ⟨gx, 0, none⟩ = some (.int .i64 hx)
  f : W.cell? ⟨gy, 0, none⟩ = some (.int .i64 hy)
section
variable {W : World} {B : Nat} {wx wy hx hy : Int} {gx cx nx gy cy ny : Nat}
theorem OrdAt.drew (h : OrdAt W B wx wy hx hy gx cx nx gy cy ny) : OrdAt W.drew B wx wy hx hy gx cx nx gy cy ny := ⟨h.a, h.b, h.c, h.d, h.e, h.f⟩
theorem cell_alloc {p : Addr} {v : Value} (o : Obj) (h : W.cell? p = some v) : (W.alloc o).cell? p = some v := (((Below.refl W.heap.size W).alloc (Nat.le_refl _) o).cell (block_lt_of_cell h)).trans h
theorem OrdAt.alloc (h : OrdAt W B wx wy hx hy gx cx nx gy cy ny) (o : Obj) : OrdAt (W.alloc o) B wx wy hx hy gx cx nx gy cy ny := ⟨cell_alloc o h.a, cell_alloc o h.b, cell_alloc o h.c, cell_alloc o h.d, cell_alloc o h.e, cell_alloc o h.f⟩
end
set_option maxHeartbeats 2000000 in
set_option maxRecDepth 100000 in
theorem order_raw (wx wy hx hy : Int) (gx cx nx gy cy ny : Nat) (w : World) (h1 : w.cell? ⟨gx, 0, none⟩ = some (.int .i64 hx)) (h2 : w.cell? ⟨gy, 0, none⟩ = some (.int .i64 hy)) (p1 : 0 < nx) (p2 : 0 < ny) :
    Calls Tryz.prog 172 #[.agg #[I wx, .slice (some ⟨gx, 0, none⟩) nx cx], .agg #[I wy, .slice (some ⟨gy, 0, none⟩) ny cy]] w fun e w' => e = .returned (.int .i64 (orI (Lib.compareInt wx wy) (Lib.compareInt hx hy))) ∧ ∃ q os', w' = grow (w.drewN q) os' := by
  obtain ⟨c1, hc1⟩ : ∃ c, c = Lib.compareInt wx wy := ⟨_, rfl⟩
  obtain ⟨c2, hc2⟩ : ∃ c, c = Lib.compareInt hx hy := ⟨_, rfl⟩
  have K1 := fun (W : World) => Tryz.cmp_Compare_int wx wy W
  have K2 := fun (W : World) => Tryz.cmp_Compare_int hx hy W
  rw [← hc1, ← hc2]
  rw [← hc1] at K1
  rw [← hc2] at K2
  have K1 := hide K1
  have K2 := hide K2
  have K3 := hide (fun (g : Nat) (W : World) => cmpOr2_any g c1 c2 W)
  clear hc1 hc2
  obtain ⟨B, hB⟩ : ∃ B, B = w.heap.size := ⟨_, rfl⟩
  obtain ⟨w0, hw0⟩ : ∃ w0, w0 = (w.alloc (.cells #[I wx, .slice (some ⟨gx, 0, none⟩) nx cx] 207)).alloc (.cells #[I wy, .slice (some ⟨gy, 0, none⟩) ny cy] 207) := ⟨_, rfl⟩
  have h0 : OrdAt w0 B wx wy hx hy gx cx nx gy cy ny := by
    have e1 : (w.alloc (.cells #[I wx, .slice (some ⟨gx, 0, none⟩) nx cx] 207)).heap.size = w.heap.size + 1 := by simp
    rw [hw0, hB]
    refine ⟨cell_alloc _ (World.cell?_alloc_new _ _ _ _), cell_alloc _ (World.cell?_alloc_new _ _ _ _), ?_, ?_, cell_alloc _ (cell_alloc _ h1), cell_alloc _ (cell_alloc _ h2)⟩
    · rw [← e1]; exact World.cell?_alloc_new _ _ _ _
    · rw [← e1]; exact World.cell?_alloc_new _ _ _ _
  have hs0 : w0.heap.size = B + 2 := by rw [hw0, hB]; simp
  have H0 := hide h0
  have HS0 := hide hs0
  have HB := hide hB
  have HW0 := hide hw0
  clear h0 h1 h2 hs0 hB
  obtain ⟨r1, r2, r3, r4, r5, r6⟩ : (∀ W : World, OrdAt W B wx wy hx hy gx cx nx gy cy ny → W.cell? ⟨B, 0, none⟩ = some (I wx)) ∧ (∀ W : World, OrdAt W B wx wy hx hy gx cx nx gy cy ny → W.cell? ⟨B, 1, none⟩ = some (.slice (some ⟨gx, 0, none⟩) nx cx)) ∧ (∀ W : World, OrdAt W B wx wy hx hy gx cx nx gy cy ny → W.cell? ⟨B + 1, 0, none⟩ = some (I wy)) ∧ (∀ W : World, OrdAt W B wx wy hx hy gx cx nx gy cy ny → W.cell? ⟨B + 1, 1, none⟩ = some (.slice (some ⟨gy, 0, none⟩) ny cy)) ∧ (∀ W : World, OrdAt W B wx wy hx hy gx cx nx gy cy ny → W.cell? ⟨gx, 0, none⟩ = some (.int .i64 hx)) ∧ (∀ W : World, OrdAt W B wx wy hx hy gx cx nx gy cy ny → W.cell? ⟨gy, 0, none⟩ = some (.int .i64 hy)) := ⟨fun _ h => h.a, fun _ h => h.b, fun _ h => h.c, fun _ h => h.d, fun _ h => h.e, fun _ h => h.f⟩
  go_enter Tryz.func172, Tryz.ntmps172
  go_upto_region 1 with fail
  rw [← hw0, ← unhide HB]
  clear hw0
  go_region_held3 (fun w' => OrdAt w' B wx wy hx hy gx cx nx gy cy ny) (first | exact (unhide H0).drew | assumption | exact OrdAt.drew (by assumption) | exact OrdAt.alloc (by assumption) _ | exact (OrdAt.alloc (by assumption) _).drew)
    ((first
      | (go_at_call 147; (with_reducible refine (unhide K1 _).mono ?_); rintro e w1 ⟨rfl, rfl⟩)
      | (go_at_call 147; (with_reducible refine (unhide K2 _).mono ?_); rintro e w1 ⟨rfl, rfl⟩)
      | (go_at_call 146; refine (unhide K3 _ _ (by exact (cell_new_at 0 (by simp)).trans rfl) (by exact (cell_new_at 1 (by simp)).trans rfl)).mono ?_; rintro e w1 ⟨rfl, rfl⟩)))
  all_goals
    go_wp2_with fail
    go_ret
    refine ⟨rfl, 1, #[.cells #[I wx, .slice (some ⟨gx, 0, none⟩) nx cx] 207, .cells #[I wy, .slice (some ⟨gy, 0, none⟩) ny cy] 207, .cells #[.int .i64 c1, .int .i64 c2] 3], ?_⟩
    rw [unhide HW0, alloc_eq_grow, alloc_eq_grow, alloc_eq_grow, grow_grow, grow_grow]
    rfl
def cmpE (x y : El) : Int := orI (Lib.compareInt x.w y.w) (Lib.compareInt (hd x.tr : Nat) (hd y.tr : Nat))
theorem cmpE_lt (x y : El) : decide (cmpE x y < 0) = keyLt x.tr y.tr := by
  have hk := keyLt_iff x.tr y.tr
  have e1 : x.tr.1 = x.w := rfl
  have e2 : y.tr.1 = y.w := rfl
  rw [e1, e2] at hk
  unfold cmpE orI Lib.compareInt
  rw [Bool.eq_iff_iff, decide_eq_true_eq, hk]
  repeat' split
  all_goals omega
theorem SgOK.head {w : World} {base : Nat} {e : El} (h : SgOK w base e) (hv : VT e.tr) : w.cell? ⟨e.g, 0, none⟩ = some (I (hd e.tr : Int)) ∧ 0 < e.s.length := by
  have hne : e.s ≠ [] := hv.ne
  have hp : 0 < e.s.length := List.length_pos_iff.2 hne
  refine ⟨?_, hp⟩
  have := h.cells (g := e.g) rfl 0 (natI (hd e.tr)) (by
    show (e.s.map natI)[0]? = _
    cases hs : e.s with
    | nil => exact absurd hs hne
    | cons a r => unfold hd El.tr; rw [hs]; rfl)
  rwa [Addr.add_lit] at this
theorem SgOK.kept {w w' : World} {base : Nat} {e : El} (h : SgOK w base e) (hg : w'.heap[e.g]? = w.heap[e.g]?) : SgOK w' base e := by
  refine ⟨h.1, ?_⟩
  rcases h.2 with ⟨hv, _⟩ | ⟨g', cap', cur, hv, hb, hg', rest⟩
  · cases hv
  · refine .inr ⟨g', cap', cur, hv, hb, ?_, rest⟩
    injection hv with ha
    injection ha with ha
    injection ha with ha
    rw [← ha] at hg' ⊢
    exact hg.trans hg'
theorem SgOK.ne {w : World} {base base' g off cap : Nat} {e : El} {l : List El} (h : SgOK w base e) (hq : QAt w base' g off cap l) : e.g ≠ g := by
  intro heq
  rcases h.2 with ⟨hv, _⟩ | ⟨g', cap', cur, hv, hb, hg', rest⟩
  · cases hv
  · injection hv with ha
    injection ha with ha
    injection ha with ha
    obtain ⟨_, cur2, h2, _⟩ := hq
    rw [← ha, heq, h2] at hg'
    injection hg' with hg'
    injection hg' with _ hg'
    exact absurd hg' (by decide)
theorem SgOK.lt {w : World} {base : Nat} {e : El} (h : SgOK w base e) : base ≤ e.g ∧ e.g < w.heap.size := World.ownsRow.lt h e.g rfl
theorem sortTree_any {w : World} {base g off cap : Nat} {l : List El} (hq : QAt w base g off cap l) (hs : ∀ e ∈ l, SgOK w base e) (hf : Forest (l.map El.tr)) (hn : l.length ≤ 1000) (h0 : 0 < l.length) :
    Calls Tryz.prog 171 #[.slice (some ⟨g, off, none⟩) l.length cap, .func (.func 172) #[] #[]] w fun e w' =>
      e = .returned (.tuple #[]) ∧ ∃ l', l'.Perm l ∧ Srt (l'.map El.tr) ∧ QAt w' base g off cap l' ∧ w.grownBy w' (some g) := by
  obtain ⟨n, hnl⟩ : ∃ n, n = l.length := ⟨_, rfl⟩
  have h0' : 0 < n := by omega
  haveI : Inhabited (Fin n) := ⟨⟨0, h0'⟩⟩
  obtain ⟨el, hel⟩ : ∃ el : Fin n → El, el = fun i => l[i.val]'(by have := i.isLt; omega) := ⟨_, rfl⟩
  have hmem : ∀ i, el i ∈ l := fun i => by rw [hel]; exact List.getElem_mem _
  have hmap : (List.finRange n).map el = l := by
    apply List.ext_getElem
    · simp [hnl]
    · intro i h1 h2
      simp [hel]
  have hfl : ∀ d : List (Fin n), (Go.Sort.flatK (fun i => elCells (el i)) 2 d.toArray).toList = (d.map el).flatMap elCells := fun d => by
    rw [flatK_list (fun i => elCells (el i)) 2 (fun _ => rfl) (by omega), List.flatMap_map]
  obtain ⟨d, hd⟩ : ∃ d, d = (List.finRange n).toArray := ⟨_, rfl⟩
  have hdn : d.size = n := by rw [hd]; simp
  have hH : Go.Sort.HoldsK (fun i => elCells (el i)) 2 w g off d := hq.holdsK _ _ (by rw [hd, hfl, hmap])
  have eg : ∀ args w, (callFunc 172 args).run Tryz.prog w = .ok (.enter 172 args) w := enters_of Tryz.func172 (by kernel_rfl) rfl
  have hvt : ∀ i, VT (el i).tr := fun i => hf.vt _ (List.mem_map_of_mem (hmem i))
  have hcmp : Go.Proofs.CmpLays Tryz.prog 172 #[] (fun i => elCells (el i)) 2 (fun i j => cmpE (el i) (el j)) g off d.size w := by
    intro m os dk hdk x y
    have keep : ∀ k, k ≠ g → k < w.heap.size → (Go.Proofs.sortWorldK (fun i => elCells (el i)) 2 w g off m dk os).heap[k]? = w.heap[k]? := by
      intro k hk hlt
      have e : (dk.toList.map el).length = l.length := by simp [hdk, hdn, hnl]
      exact ((hq.sorted (m := m) (os := os) (fun i => elCells (el i)) dk (by rw [← hfl, Array.toArray_toList]) e).2).block k hlt (fun e => hk (by injection e))
    have sx := hs _ (hmem x)
    have sy := hs _ (hmem y)
    obtain ⟨a1, a2⟩ := (sx.kept (keep _ (sx.ne hq) sx.lt.2)).head (hvt x)
    obtain ⟨b1, b2⟩ := (sy.kept (keep _ (sy.ne hq) sy.lt.2)).head (hvt y)
    exact order_raw _ _ _ _ _ _ _ _ _ _ _ a1 b1 a2 b2
  have hlt : ∀ i j : Fin n, Go.Proofs.ltOf (fun i j => cmpE (el i) (el j)) i j = keyLt (el i).tr (el j).tr := fun i j => cmpE_lt (el i) (el j)
  have hO : SWO (Go.Proofs.ltOf fun (i j : Fin n) => cmpE (el i) (el j)) := by
    refine ⟨fun x => ?_, fun x y z h1 h2 => ?_, fun x y z h1 h2 => ?_⟩
    · rw [hlt, Bool.eq_false_iff]; intro h; have := (keyLt_iff _ _).1 h; omega
    · rw [hlt] at *
      rw [keyLt_iff] at *
      omega
    · rw [hlt] at *
      rw [Bool.eq_false_iff] at *
      intro h
      rw [ne_eq, keyLt_iff] at h1 h2
      rw [keyLt_iff] at h
      omega
  have hcon := Go.Proofs.AnyQ.slices_SortFunc Tryz.sortTree 2 Tryz.isAgg207 Tryz.sizeOf207 (fun i => elCells (el i)) (fun _ => rfl) (fun x v hv => by simp [elCells] at hv; rcases hv with rfl | rfl <;> rfl) (fun i j => cmpE (el i) (el j)) hO 172 #[] g off cap d w eg hcmp hH hq.lt (by omega)
  change Calls Tryz.prog 171 _ _ _ at hcon
  rw [hdn] at hcon
  rw [← hnl]
  refine hcon.mono ?_
  rintro e w' ⟨rfl, d', m, os, hp, hss, rfl⟩
  have hp' : PermIn 0 (List.finRange n).toArray.size (List.finRange n).toArray d' := by
    rw [← hd, hdn]; exact hp
  obtain ⟨hp1, hp2⟩ := perm_of hp'
  have hpl : (d'.toList.map el).Perm l := by
    have := hp1.map el
    rwa [hmap] at this
  have hsrt := sorted_of (n := n) (by simpa using hp2) hss
  obtain ⟨r1, r2⟩ := hq.sorted (m := m) (os := os) (fun i => elCells (el i)) d' (l' := d'.toList.map el) (by rw [← hfl, Array.toArray_toList]) hpl.length_eq
  refine ⟨rfl, d'.toList.map el, hpl, ?_, r1, r2⟩
  have hkd : KD ((d'.toList.map el).map El.tr) := hf.kd.perm (hpl.map El.tr).symm
  unfold Srt
  unfold KD at hkd
  rw [List.map_map, List.pairwise_map] at hkd ⊢
  refine (hsrt.and hkd).imp ?_
  rintro a b ⟨h1, h2⟩
  rw [hlt, Bool.eq_false_iff, ne_eq, keyLt_iff] at h1
  rw [keyLt_iff]
  simp only [Function.comp] at h2 ⊢
  omega
end Go.Proofs.YtjpgoeimclipjaaGreat
namespace Go.Proofs.YtjpgoeimclipjaaGreat
open Go.RowKit Go.Lib Pl
attribute [local go_sem] ext_list app_list
theorem concat_list (x y : List UInt8) (h : x.length + y.length ≤ 9223372036854775807) : Op.stringOp .add ⟨x.toArray⟩ ⟨y.toArray⟩ = (pure (S (x ++ y)) : Sem Value) := by
  unfold Op.stringOp
  have hx : (⟨x.toArray⟩ : ByteArray).size = x.length := rfl
  have hy : (⟨y.toArray⟩ : ByteArray).size = y.length := rfl
  have hm : IntKind.i64.max = 9223372036854775807 := rfl
  simp only [hx, hy, hm]
  rw [if_neg (by omega), app_list]
theorem toksB_snoc (l : List Tok) (t : Tok) : toksB (l ++ [t]) = toksB l ++ tokB t := by
  induction l with
  | nil => simp [toksB]
  | cons u l ih => simp [toksB, ih]
theorem toksB_take {l : List Tok} {k : Nat} {t : Tok} (h : l[k]? = some t) : toksB (l.take (k + 1)) = toksB (l.take k) ++ tokB t := by
  rw [List.take_add_one, h]; exact toksB_snoc _ _
/-- a tok of some sizes -/
def Small (t : Tok) : Prop := t.lit.length ≤ 512 ∧ 0 ≤ t.len ∧ t.len ≤ 64 ∧ 0 ≤ t.far ∧ t.far ≤ 1000
theorem nb_len5 {n : Nat} (h : n ≤ 2000) : (nb n).length ≤ 5 := by
  have := nb_len 4 n (by omega)
  omega
theorem tokB_small {t : Tok} (h : Small t) : (tokB t).length ≤ 1000 := by
  obtain ⟨h1, h2, h3, h4, h5⟩ := h
  have a := nb_len5 (n := 2 * t.lit.length) (by omega)
  have b := nb_len5 (n := 2 * t.len.toNat + 1) (by omega)
  have c := nb_len5 (n := t.far.toNat) (by omega)
  unfold tokB
  split <;> simp <;> omega
theorem toksB_small : ∀ (l : List Tok), (∀ t ∈ l, Small t) → (toksB l).length ≤ 1000 * l.length
  | [], _ => by simp [toksB]
  | t :: l, h => by
    have a := tokB_small (h t (by simp))
    have b := toksB_small l (fun u hu => h u (by simp [hu]))
    simp [toksB]; omega
end Go.Proofs.YtjpgoeimclipjaaGreat
namespace Go.Proofs.YtjpgoeimclipjaaGreat
open Go.RowKit Go.Lib Pl
attribute [local go_sem] ext_list app_list
def bch (b : Bool) : UInt8 := if b then 49 else 48
def bstr (l : List Bool) : Bytes := l.map bch
theorem bstr_len (l : List Bool) : (bstr l).length = l.length := List.length_map ..
theorem bstr_app (a b : List Bool) : bstr (a ++ b) = bstr a ++ bstr b := List.map_append ..
theorem bstr_inj {a b : List Bool} (h : bstr a = bstr b) : a = b := by
  induction a generalizing b with
  | nil => cases b with
    | nil => rfl
    | cons y b => simp [bstr] at h
  | cons x a ih => cases b with
    | nil => simp [bstr] at h
    | cons y b =>
      simp only [bstr, List.map_cons, List.cons.injEq] at h
      rw [ih h.2]
      congr 1
      have h1 := h.1
      cases x <;> cases y <;> first | rfl | (exact absurd h1 (by decide))
attribute [local go_sem ↓] concat_list in
set_option maxHeartbeats 1000000 in
set_option maxRecDepth 100000 in
theorem bits_any : ∀ (s n : Nat) (w : World), s ≤ 1000 → n ≤ 9223372036854775807 →
    Calls Tryz.prog 138 #[I n, I s] w fun e w' => e = .returned (S (bstr (bt n s))) ∧ Below w.heap.size w w' := by
  intro s
  induction s with
  | zero =>
    intro n w hs hn
    go_enter Tryz.func138, Tryz.ntmps138
    go_wp2_with fail
    go_ret
    exact ⟨rfl, Below.refl _ _⟩
  | succ s ih =>
    intro n w hs hn
    obtain ⟨r, hr⟩ : ∃ r, r = n % 2 := ⟨_, rfl⟩
    obtain ⟨q, hq⟩ : ∃ q, q = n / 2 := ⟨_, rfl⟩
    have hr1 : r < 2 := by omega
    have ht : (n : Int).tmod 2 = (r : Int) := by rw [Int.tmod_eq_emod_of_nonneg (by omega)]; omega
    have hw1 : IntKind.i64.wrap (48 + (r : Int)) = 48 + (r : Int) := IntWalk.i64_in _ ⟨by omega, by omega⟩
    have hw2 : IntKind.u8.wrap (48 + (r : Int)) = 48 + (r : Int) := by rw [IntKind.wrap_u8]; omega
    have hw3 : IntKind.i64.wrap ((n : Int) / 2) = (q : Int) := by
      have e : (n : Int) / 2 = (q : Int) := by omega
      rw [e]; exact IntWalk.i64_in _ ⟨by omega, by omega⟩
    have hx : (((bch (decide (n % 2 = 1))).toNat : Nat) : Int) = 48 + (r : Int) := by
      rcases Nat.mod_two_eq_zero_or_one n with h | h
      · rw [hr, h]; rfl
      · rw [hr, h]; rfl
    have hbt : bt n (s + 1) = bt q s ++ [decide (n % 2 = 1)] := by rw [hq]; rfl
    obtain ⟨b, hbb⟩ : ∃ b, b = bch (decide (n % 2 = 1)) := ⟨_, rfl⟩
    have hres : bstr (bt n (s + 1)) = bstr (bt q s) ++ [b] := by rw [hbt, bstr_app, hbb]; rfl
    rw [← hbb] at hx
    have HRES := hide hres
    have HX := hide hx
    have hcv := fun (W : World) => run_conv1_new (P := Tryz.prog) W b hx 5 77 9 5 Tryz.underlying77 Tryz.underlying5 Tryz.underlying9
    have hcw := fun (W : World) => run_conv1_drew (P := Tryz.prog) W b hx 5 77 9 5 Tryz.underlying77 Tryz.underlying5 Tryz.underlying9
    have C1 := hide (fun (W : World) => ih q W (by omega) (by omega))
    have hlen : (bstr (bt q s)).length + 1 ≤ 9223372036854775807 := by rw [bstr_len, bt_len]; omega
    obtain ⟨m, hm⟩ : ∃ m, m = s + 1 := ⟨_, rfl⟩
    have hws : IntKind.i64.wrap ((m : Int) - 1) = (s : Int) := by
      have e : (m : Int) - 1 = (s : Int) := by omega
      rw [e]; exact IntWalk.i64_in _ ⟨by omega, by omega⟩
    have z0 : ((m : Int) == 0) = false := by rw [beq_eq_false_iff_ne]; omega
    have z1 : m ≠ 0 := by omega
    rw [← hm]
    rw [← hm] at HRES
    clear hx hr hq hres hbb hbt ih hm hs
    go_enter Tryz.func138, Tryz.ntmps138
    go_wp2_with fail
    go_region_with (refine (unhide C1 _).mono ?_; rintro e w' ⟨rfl, hb⟩; try (have hcl := run_conv1_later_drew (P := Tryz.prog) b (unhide HX) hb 77 9 5 Tryz.underlying77 Tryz.underlying5 Tryz.underlying9))
    all_goals
      go_wp2
      go_ret
      refine ⟨?_, ?_⟩
      · rw [unhide HRES]; rfl
      · first
          | exact (((Below.refl _ _).alloc (Nat.le_refl _) _).drew).trans (hb.mono (by simp))
          | exact ((Below.refl _ _).drew.trans hb).alloc hb.size _
end Go.Proofs.YtjpgoeimclipjaaGreat
namespace Go.Proofs.YtjpgoeimclipjaaGreat
open Go.RowKit Go.Lib Pl
/-- an array of sixteen strings -/
abbrev cellsS (o : Nat → Bytes) : Array Value := ((List.range 16).map fun j => S (o j)).toArray
abbrev AS (o : Nat → Bytes) : Value := .agg (cellsS o)
theorem info16s : (Tryz.prog.info? 178).map (fun i => (i.zero, i.size)) = some (some (AS fun _ => []), 16) := by kernel_rfl
theorem size16s : (Tryz.prog.info? 178).map (·.size) = some 16 := (zero_of_info info16s).2
theorem zero16s (w : World) : (zeroValue 178).run Tryz.prog w = .ok (AS fun _ => []) w := (zero_of_info info16s).1 w
theorem cellsS_get (o : Nat → Bytes) (k : Nat) (hk : k < 16) : (cellsS o)[k]? = some (S (o k)) := by simp [cellsS, hk]
theorem cellsS_set (o : Nat → Bytes) (k : Nat) (b : Bytes) (hk : k < 16) : (cellsS o).setIfInBounds k (S b) = cellsS fun j => if j = k then b else o j := by
  apply Array.ext_getElem?
  intro j
  rw [Array.getElem?_setIfInBounds]
  by_cases hj : j < 16
  · rw [cellsS_get _ j hj]
    by_cases e : k = j
    · subst e; simp [hj]
    · rw [if_neg e, cellsS_get _ j hj, if_neg (fun h => e h.symm)]
  · have e1 : ∀ o, (cellsS o)[j]? = none := fun o => by simp [cellsS]; omega
    rw [e1, e1]
    split
    · split
      · rename_i h1 h2; subst h1; simp [cellsS] at h2; omega
      · rfl
    · rfl
theorem cellsS_congr {o o' : Nat → Bytes} (h : ∀ j, j < 16 → o j = o' j) : cellsS o = cellsS o' := by
  apply Array.ext_getElem?
  intro j
  by_cases hj : j < 16
  · rw [cellsS_get _ j hj, cellsS_get _ j hj, h j hj]
  · have e1 : ∀ o, (cellsS o)[j]? = none := fun o => by simp [cellsS]; omega
    rw [e1, e1]
theorem cellsS_one (o : Nat → Bytes) : (cellsS o).all (·.oneCell') = true := by
  rw [Array.all_eq_true_iff_forall_mem]
  intro v hv
  simp only [cellsS, List.mem_toArray, List.mem_map] at hv
  obtain ⟨j, _, rfl⟩ := hv
  rfl
theorem cellsS_size (o : Nat → Bytes) : (cellsS o).size = 16 := by simp [cellsS]
/-- what lies there when the words of the earlier ones are written -/
def outW (l : List Int) (s i : Nat) (j : Nat) : Bytes := if Pl.early l s i j = true then bstr (wordB l j) else []
/-- where the reference stands -/
structure RefAt (l : List Int) (s i n q : Nat) : Prop where
  le : q ≤ s
  q15 : q ≤ 15
  val : n * pw q = preS l s i
theorem RefAt.small {l : List Int} {s i n q : Nat} (h : RefAt l s i n q) (hr : Right l) : n ≤ 32768 := by
  have h1 := Nat.le_trans (preS_le l s i) hr.sum
  rw [← h.val] at h1
  exact Nat.le_trans (Nat.le_mul_of_pos_right n (pw_pos q)) h1
theorem RefAt.start (l : List Int) : RefAt l 1 0 0 0 := ⟨by omega, by omega, by rw [preS_zero]; omega⟩
theorem RefAt.skip {l : List Int} {s i n q : Nat} (h : RefAt l s i n q) (hn : ln l i ≠ s) : RefAt l s (i + 1) n q := ⟨h.le, h.q15, by rw [preS_skip hn]; exact h.val⟩
theorem RefAt.row {l : List Int} {s n q : Nat} (h : RefAt l s 16 n q) : RefAt l (s + 1) 0 n q := ⟨by have := h.le; omega, h.q15, by rw [preS_row]; exact h.val⟩
theorem RefAt.number {l : List Int} {s i n q : Nat} (h : RefAt l s i n q) (hs : s ≤ 15) (hn : ln l i = s) : wv l i = n * 2 ^ (s - q) := by
  have h1 := wv_mul l i
  rw [hn, ← h.val, pw_split h.le hs, ← Nat.mul_assoc] at h1
  exact Nat.eq_of_mul_eq_mul_right (pw_pos s) h1
theorem RefAt.hit {l : List Int} {s i n q : Nat} (_h : RefAt l s i n q) (hs : s ≤ 15) (h0 : 0 < s) (hi : i < 16) (hn : ln l i = s) : RefAt l s (i + 1) (wv l i + 1) s := by
  refine ⟨Nat.le_refl _, hs, ?_⟩
  have h1 := wv_mul l i
  rw [hn] at h1
  rw [preS_hit hn h0 hi, Nat.add_mul, h1, Nat.one_mul]
theorem outW_start (l : List Int) : outW l 1 0 = fun _ => [] := by
  funext j
  unfold outW
  rw [if_neg]
  rw [early_iff]; omega
theorem outW_skip {l : List Int} {s i : Nat} (hn : ln l i ≠ s) : outW l s (i + 1) = outW l s i := by
  funext j
  unfold outW
  rw [early_skip hn]
theorem outW_hit {l : List Int} {s i : Nat} (hn : ln l i = s) (h0 : 0 < s) : outW l s (i + 1) = fun j => if j = i then bstr (bt (wv l i) s) else outW l s i j := by
  funext j
  unfold outW
  rw [early_hit hn h0]
  by_cases e : j = i
  · subst e; simp [wordB, hn]
  · simp [e]
theorem outW_row (l : List Int) (s : Nat) : cellsS (outW l s 16) = cellsS (outW l (s + 1) 0) :=
  cellsS_congr fun j hj => by unfold outW; rw [early_row hj]
theorem outW_end {l : List Int} (hr : Right l) : cellsS (outW l 16 0) = cellsS fun j => bstr (wordB l j) :=
  cellsS_congr fun j _ => by
    unfold outW
    by_cases e : Pl.early l 16 0 j = true
    · rw [if_pos e]
    · rw [if_neg e]
      rw [early_iff] at e
      have := hr.one j
      have h0 : ln l j = 0 := by omega
      unfold wordB
      rw [h0]; rfl
theorem ln_get {l : List Int} (hr : Right l) {i : Nat} (hi : i < 16) : l[i]? = some (ln l i : Int) := by
  have hl := hr.len
  have h1 : l[i]? = some l[i] := List.getElem?_eq_getElem (by omega)
  have h2 := hr.nn _ (List.getElem_mem (show i < l.length by omega))
  rw [h1]
  unfold ln
  rw [List.getD_eq_getElem?_getD, h1]
  simp; omega
theorem shl_fact {x d v : Nat} (h : v = x * 2 ^ d) (hd : d ≤ 64) (hv : v ≤ 100000) : wrap64 ((x : Int) * 2 ^ min d 64) = (v : Int) := by
  have e : (x : Int) * 2 ^ d = ((x * 2 ^ d : Nat) : Int) := by norm_cast
  rw [Nat.min_eq_left hd, e, ← h]
  clear e h
  exact IntWalk.wrap64_in _ ⟨by omega, by omega⟩
structure RefW (l : List Int) (w wr : World) (B s i n q : Nat) : Prop where
  a : wr.heap[B]? = some (.cells (cells16 l) 145 (0, 0))
  z : wr.heap[B + 1]? = some (.cells (cellsS fun _ => []) 178 (0, 0))
  o : wr.heap[B + 2]? = some (.cells (cellsS (outW l s i)) 178 (0, 0))
  at_ : RefAt l s i n q
  bel : Below B w wr
theorem RefW.skip {l : List Int} {w wr : World} {B s i n q : Nat} (h : RefW l w wr B s i n q) (hn : ln l i ≠ s) : RefW l w wr B s (i + 1) n q :=
  ⟨h.a, h.z, by rw [outW_skip hn]; exact h.o, h.at_.skip hn, h.bel⟩
theorem RefW.row {l : List Int} {w wr : World} {B s n q : Nat} (h : RefW l w wr B s 16 n q) : RefW l w wr B (s + 1) 0 n q :=
  ⟨h.a, h.z, by rw [← outW_row]; exact h.o, h.at_.row, h.bel⟩
theorem RefW.put {l : List Int} {w wr w1 : World} {B s i n q n' q' : Nat} (h : RefW l w wr B s i n q) (hb : Below wr.heap.size wr w1) (b : Bytes) (hi : i < 16) :
    w1.cell? ⟨B + 2, i, none⟩ = some (S (outW l s i i)) ∧ w1.frozen? ⟨B + 2, i, none⟩ = false ∧
    (outW l s (i + 1) = (fun j => if j = i then b else outW l s i j) → RefAt l s (i + 1) n' q' → RefW l w (w1.setCell ⟨B + 2, i, none⟩ (S b)) B s (i + 1) n' q') ∧ True ∧ True := by
  have s1 := (Array.getElem?_eq_some_iff.1 h.a).1
  have s2 := (Array.getElem?_eq_some_iff.1 h.z).1
  have s3 := (Array.getElem?_eq_some_iff.1 h.o).1
  have a1 := (hb.block B s1).trans h.a
  have z1 := (hb.block (B + 1) s2).trans h.z
  have o1 := (hb.block (B + 2) s3).trans h.o
  refine ⟨?_, frozen_of_row _ _ _ _ _ o1, fun he hr => ⟨?_, ?_, ?_, hr, ?_⟩, trivial, trivial⟩
  · rw [cell_of_row w1 _ _ _ _ _ o1]; exact cellsS_get _ _ hi
  · rw [heap_setCell_other _ _ _ _ (by show B ≠ B + 2; omega)]; exact a1
  · rw [heap_setCell_other _ _ _ _ (by show B + 1 ≠ B + 2; omega)]; exact z1
  · rw [heap_setCell_same _ _ _ _ _ _ o1, cellsS_set _ _ _ hi, he]
  · exact (h.bel.trans (hb.mono (by omega))).setCell (by show B ≤ B + 2; omega) _
set_option maxHeartbeats 2000000 in
set_option maxRecDepth 100000 in
theorem refWords_any (l : List Int) (w : World) (hr : Right l) :
    Calls Tryz.prog 139 #[A16 l] w fun e w' => e = .returned (AS fun j => bstr (wordB l j)) ∧ Below w.heap.size w w' := by
  have HR := hide hr
  have hz := zero16s
  obtain ⟨w0, hw0⟩ : ∃ w0, w0 = ((w.alloc (.cells (cells16 l) 145)).alloc (.cells (cellsS fun _ => []) 178)).alloc (.cells (cellsS fun _ => []) 178) := ⟨_, rfl⟩
  obtain ⟨B, hB⟩ : ∃ B, B = w.heap.size := ⟨_, rfl⟩
  have h0 : RefW l w w0 B 1 0 0 0 := by
    subst hB
    have h2 := heap_alloc2_old w (.cells (cells16 l) 145) (.cells (cellsS fun _ => []) 178)
    have h3 := heap_alloc2_new w (.cells (cells16 l) 145) (.cells (cellsS fun _ => []) 178)
    refine ⟨?_, ?_, ?_, RefAt.start l, ?_⟩
    · rw [hw0]; exact (Below.heap_alloc _ _ _ (by simp; omega)).trans h2
    · rw [hw0]; exact (Below.heap_alloc _ _ _ (by simp)).trans h3
    · rw [hw0, outW_start]
      have := heap_alloc_new ((w.alloc (.cells (cells16 l) 145)).alloc (.cells (cellsS fun _ => []) 178)) (.cells (cellsS fun _ => []) 178)
      simpa using this
    · rw [hw0]
      exact (((Below.refl _ _).alloc (Nat.le_refl _) _).alloc (by simp) _).alloc (by simp; omega) _
  have H0 := hide h0
  have HW0 := hide hw0
  have HB := hide hB
  clear hr h0 hw0 hB
  go_enter Tryz.func139, Tryz.ntmps139
  go_wp2_with fail
  rw [← unhide HW0, ← unhide HB, show B + 1 + 1 = B + 2 from rfl]
  go_loopw [4, 5, 6, 7] (fun n q sz _ wr => ∃ (x y s : Nat), 1 ≤ s ∧ s ≤ 16 ∧ n = .int .i64 x ∧ q = .int .i64 y ∧ sz = .int .i64 s ∧ RefW l w wr B s 0 x y) (fun _ _ sz _ _ => 16 - (intOf sz).toNat)
  case atStart => exact ⟨0, 0, 1, by omega, by omega, rfl, rfl, rfl, unhide H0⟩
  case round =>
    obtain ⟨x, y, s, hs1, hs16, rfl, rfl, rfl, hst⟩ := hrel
    have HST := hide hst
    clear hst
    by_cases hs : s ≤ 15
    · have ds : decide ((s : Int) ≤ 15) = true := by simp; omega
      go_wp2_with fail
      go_loopw [4, 5, 7] (fun n q i wx => ∃ (x y k : Nat), k ≤ 16 ∧ n = .int .i64 x ∧ q = .int .i64 y ∧ i = .int .i64 k ∧ RefW l w wx B s k x y) (fun _ _ i _ => 16 - (intOf i).toNat)
      case atStart => exact ⟨x, y, 0, by omega, rfl, rfl, rfl, unhide HST⟩
      case round =>
        obtain ⟨x1, y1, k, hk, rfl, rfl, rfl, hsx⟩ := hrel
        have hsm := hsx.at_.small (unhide HR)
        have hyl := hsx.at_.le
        have hrt := unhide HR
        have HSX := hide hsx
        by_cases hk16 : k < 16
        · have hc := cell16 hsx.a (ln_get hrt hk16)
          by_cases hh : ln l k = s
          · have hnum := hsx.at_.number hs hh
            have hnx := hsx.at_.hit hs (by omega) hk16 hh
            have hv := wv_lt hrt hk16 (by omega)
            have hvw : wv l k ≤ 32768 := by
              have := hnx.small hrt; omega
            rw [hh] at hc
            obtain ⟨d, hd⟩ : ∃ d, d = s - y1 := ⟨_, rfl⟩
            rw [← hd] at hnum
            have hsd : IntKind.i64.wrap ((s : Int) - (y1 : Int)) = (d : Int) := by
              have e : (s : Int) - (y1 : Int) = (d : Int) := by omega
              rw [e]; exact IntWalk.i64_in _ ⟨by omega, by omega⟩
            obtain ⟨v, hvv⟩ : ∃ v, v = wv l k := ⟨_, rfl⟩
            have hpw := shl_fact (hvv.trans hnum) (by omega) (by omega)
            have HPW := hide hpw
            clear hpw
            rw [← hvv] at hnx hvw
            have hou := outW_hit (l := l) hh (by omega : 0 < s)
            rw [← hvv] at hou
            have HOU := hide hou
            have HNX := hide hnx
            have C1 := hide (fun (W : World) => bits_any s v W (Nat.le_trans hs (by decide)) (Nat.le_trans hvw (by decide)))
            clear hsx hh hnum hnx hv hd hvv hou hrt
            go_wp2_with (go_at_call 138; rw [unhide HPW]; refine (unhide C1 _).mono ?_; rintro e w1 ⟨rfl, hb1⟩; obtain ⟨hg1, hg2, hg3, -, -⟩ := (unhide HSX).put hb1 (bstr (bt v s)) hk16; have HG3 := hide hg3; clear hg3)
            go_roundw
            case rel => exact ⟨v + 1, s, k + 1, by omega, by go_num, rfl, by go_num, (unhide HG3) (unhide HOU) (unhide HNX)⟩
            case measure => simp [intOf]; omega
          · have hnx := (unhide HSX).skip hh
            have HNX := hide hnx
            have z1 : ((ln l k : Int) == (s : Int)) = false := by rw [beq_eq_false_iff_ne]; omega
            have z2 : (ln l k == s) = false := by rw [beq_eq_false_iff_ne]; omega
            clear hsx hnx hrt
            go_wp2_with fail
            go_roundw
            case rel => exact ⟨x1, y1, k + 1, by omega, rfl, rfl, by go_num, unhide HNX⟩
            case measure => simp [intOf]; omega
        · have hk' : k = 16 := by omega
          subst hk'
          have hnx := hsx.row
          have HNX := hide hnx
          clear hsx hnx hrt
          go_wp2_with fail
          go_roundw
          case rel => exact ⟨x1, y1, s + 1, by omega, by omega, rfl, rfl, by go_num, unhide HNX⟩
          case measure => simp [intOf]; omega
    · have hs' : s = 16 := by omega
      subst hs'
      have hou := outW_end (unhide HR)
      have HOU := hide hou
      clear hou
      go_wp2_with (first
        | (refine wpList_load_row rfl 178 (.tmp 3) rfl (B + 2) rfl 178 _ (0, 0) _ (unhide HST).o Tryz.underlying178 rfl (by rw [size16s, cellsS_size]) ?_; rw [unhide HOU])
        | (refine wpList_store_row rfl 178 (.tmp 2) (.tmp 34) rfl (B + 1) _ rfl rfl 178 _ (unhide HST).z (by rw [size16s, cellsS_size]) (by rw [cellsS_size, cellsS_size]) (cellsS_one _) ?_))
      refine bodyPost_ret (results_cell_row rfl _ _ (B + 1) 178 (cellsS fun j => bstr (wordB l j)) (0, 0) _ rfl (setRow_heap _ _ _ _ _ _ (unhide HST).z) Tryz.underlying178 rfl (by rw [size16s, cellsS_size])) rfl ⟨rfl, ?_⟩
      rw [← unhide HB]
      exact below_setRow (unhide HST).bel (by omega) _
end Go.Proofs.YtjpgoeimclipjaaGreat
namespace Go.Proofs.YtjpgoeimclipjaaGreat
open Go.RowKit Go.Lib Pl
attribute [local go_sem] ext_list app_list
def frontI (l : List Int) (b : List Bool) : Int := match frontP l b with
  | none => -1
  | some i => (i : Int)
theorem slice0 (x : Bytes) (m : Nat) : slice x 0 m = x.take m := by unfold slice; simp
/-- the test, in the reference's words -/
theorem hit_str (l : List Int) (b : List Bool) (k : Nat) : hitB l b k = true ↔ 0 < ln l k ∧ ln l k ≤ (bstr b).length ∧ slice (bstr b) 0 (ln l k) = bstr (wordB l k) := by
  rw [hit_iff, slice0, bstr_len, bstr, ← List.map_take]
  constructor
  · rintro ⟨h1, t, ht⟩
    have hl := congrArg List.length ht
    rw [List.length_append, wordB_len] at hl
    refine ⟨h1, by omega, ?_⟩
    rw [← ht, List.take_append_of_le_length (by rw [wordB_len]; omega), List.take_of_length_le (by rw [wordB_len]; omega)]; rfl
  · rintro ⟨h1, h2, h3⟩
    refine ⟨h1, ?_⟩
    have : b.take (ln l k) = wordB l k := bstr_inj h3
    rw [← this]; exact List.take_prefix _ _
set_option maxHeartbeats 4000000 in
set_option maxRecDepth 100000 in
theorem front_any (l : List Int) (b : List Bool) (w : World) (hr : Right l) (hb : b.length ≤ 1000000) :
    Calls Tryz.prog 140 #[A16 l, AS (fun j => bstr (wordB l j)), S (bstr b)] w fun e w' => e = .returned (.int .i64 (frontI l b)) ∧ Below w.heap.size w w' := by
  obtain ⟨w0, hw0⟩ : ∃ w0, w0 = (w.alloc (.cells (cells16 l) 145)).alloc (.cells (cellsS fun j => bstr (wordB l j)) 178) := ⟨_, rfl⟩
  obtain ⟨B, hB⟩ : ∃ B, B = w.heap.size := ⟨_, rfl⟩
  have h1 : w0.heap[B]? = some (.cells (cells16 l) 145 (0, 0)) := by subst hB; rw [hw0]; exact heap_alloc2_old _ _ _
  have h2 : w0.heap[B + 1]? = some (.cells (cellsS fun j => bstr (wordB l j)) 178 (0, 0)) := by subst hB; rw [hw0]; exact heap_alloc2_new _ _ _
  have h3 : Below B w w0 := by subst hB; rw [hw0]; exact ((Below.refl _ _).alloc (Nat.le_refl _) _).alloc (by simp) _
  obtain ⟨bs, hbs⟩ : ∃ bs, bs = bstr b := ⟨_, rfl⟩
  have hbl : bs.length ≤ 1000000 := by rw [hbs, bstr_len]; exact hb
  rw [← hbs]
  have HBS := hide hbs
  have HR := hide hr
  have H1 := hide h1
  have H2 := hide h2
  have H3 := hide h3
  have HW0 := hide hw0
  have HB := hide hB
  clear hr hw0 hB h1 h2 h3 hbs hb
  go_enter Tryz.func140, Tryz.ntmps140
  go_wp2_with fail
  rw [← unhide HW0, ← unhide HB]
  go_loopw [7] (fun i wr => ∃ k : Nat, k ≤ 16 ∧ i = .int .i64 k ∧ (∀ j, j < k → hitB l b j = false) ∧ wr.heap[B]? = some (.cells (cells16 l) 145 (0, 0)) ∧ wr.heap[B + 1]? = some (.cells (cellsS fun j => bstr (wordB l j)) 178 (0, 0)) ∧ Below B w wr) (fun i _ => 16 - (intOf i).toNat)
  case atStart => exact ⟨0, by omega, rfl, fun j hj => absurd hj (by omega), unhide H1, unhide H2, unhide H3⟩
  case round =>
    obtain ⟨k, hk, rfl, hno, g1, g2, hbel⟩ := hrel
    have HNO := hide hno
    have G1 := hide g1
    have G2 := hide g2
    have HBEL := hide hbel
    clear hno hbel
    by_cases hk16 : k < 16
    · have hc1 := cell16 g1 (ln_get (unhide HR) hk16)
      have hc2 : wr.cell? ⟨B + 1, k, none⟩ = some (S (bstr (wordB l k))) := by rw [cell_of_row _ _ _ _ _ _ g2]; exact cellsS_get _ _ hk16
      have hm15 := (unhide HR).one k
      have hhit := hit_str l b k
      rw [← unhide HBS] at hhit
      obtain ⟨m, hm⟩ : ∃ m, m = ln l k := ⟨_, rfl⟩
      obtain ⟨wd, hwd⟩ : ∃ wd, wd = bstr (wordB l k) := ⟨_, rfl⟩
      rw [← hm] at hc1 hm15 hhit
      rw [← hwd] at hc2 hhit
      have HHIT := hide hhit
      clear g1 g2 hm hwd hhit
      by_cases hh : hitB l b k = true
      · obtain ⟨p1, p2, p3⟩ := (unhide HHIT).1 hh
        have q1 : (slice bs 0 m == wd) = true := by rw [beq_iff_eq]; exact p3
        have hres : frontI l b = (k : Int) := by
          have := List.find?_range_eq_some.2 ⟨hh, by simpa using hk16, fun j hj => by rw [unhide HNO j hj]; rfl⟩
          unfold frontI frontP
          rw [this]
        have HRES := hide hres
        clear hh p3 hres
        go_wp2_with fail
        go_quiet (fail)
        go_wp2_with fail
        go_ret
        refine ⟨by rw [unhide HRES]; rfl, ?_⟩
        rw [← unhide HB]; exact below_drewN (unhide HBEL) _
      · have hno2 : ∀ j, j < k + 1 → hitB l b j = false := fun j hj => by
          by_cases e : j = k
          · subst e; simpa using hh
          · exact unhide HNO j (by omega)
        have HNO2 := hide hno2
        clear hno2
        have hcs : (decide ((0 : Int) < (m : Int)) = false ∧ decide (0 < m) = false) ∨ (0 < m ∧ decide ((m : Int) ≤ (bs.length : Int)) = false ∧ decide (m ≤ bs.length) = false) ∨ (0 < m ∧ m ≤ bs.length ∧ (slice bs 0 m == wd) = false) := by
          by_cases p1 : 0 < m
          · by_cases p2 : m ≤ bs.length
            · refine .inr (.inr ⟨p1, p2, ?_⟩)
              rw [beq_eq_false_iff_ne]; intro p3
              exact hh ((unhide HHIT).2 ⟨p1, p2, p3⟩)
            · exact .inr (.inl ⟨p1, by simp; omega, by simp; omega⟩)
          · exact .inl ⟨by simp; omega, by simp; omega⟩
        clear hh
        rcases hcs with ⟨d1, d1'⟩ | ⟨d1, d2, d2'⟩ | ⟨d1, d2, q1⟩
        all_goals
          go_wp2_with fail
          go_quiet (fail)
          go_wp2_with fail
          go_roundw
          case rel => exact ⟨k + 1, by omega, by go_num, unhide HNO2, unhide G1, unhide G2, below_drewN (unhide HBEL) _⟩
          case measure => simp [intOf]; omega
    · have hk' : k = 16 := by omega
      subst hk'
      have hres : frontI l b = -1 := by
        have : (List.range 16).find? (hitB l b) = none := List.find?_range_eq_none.2 fun j hj => by rw [unhide HNO j hj]; rfl
        unfold frontI frontP
        rw [this]
      have HRES := hide hres
      clear hres g1 g2
      go_wp2_with fail
      go_ret
      refine ⟨by rw [unhide HRES]; rfl, ?_⟩
      rw [← unhide HB]; exact unhide HBEL
end Go.Proofs.YtjpgoeimclipjaaGreat
namespace Go.Proofs.YtjpgoeimclipjaaGreat
open Go.RowKit Go.Lib Pl
attribute [local go_sem] ext_list app_list
/-- the array in its variable -/
structure BoxAt (l : List Int) (w wr : World) (B : Nat) : Prop where
  a : wr.heap[B]? = some (.cells (cells16 l) 145 (0, 0))
  bel : Below B w wr
theorem BoxAt.below {l : List Int} {w wr w1 : World} {B : Nat} (h : BoxAt l w wr B) (hb : Below wr.heap.size wr w1) : BoxAt l w w1 B := by
  have s1 := (Array.getElem?_eq_some_iff.1 h.a).1
  exact ⟨(hb.block B s1).trans h.a, h.bel.trans (hb.mono (by omega))⟩
theorem BoxAt.boxed (l : List Int) (w : World) : BoxAt l w (w.alloc (.cells (cells16 l) 145)) w.heap.size := ⟨heap_alloc_new w _, (Below.refl _ _).alloc (Nat.le_refl _) _⟩
/-- the array and the words, where they lie -/
structure CodeAt (l : List Int) (w wr : World) (B g : Nat) : Prop where
  a : wr.heap[B]? = some (.cells (cells16 l) 145 (0, 0))
  o : wr.heap[g]? = some (.cells (cellsS fun j => bstr (wordB l j)) 178 (0, 0))
  bel : Below B w wr
theorem CodeAt.drew {l : List Int} {w wr : World} {B g : Nat} (h : CodeAt l w wr B g) (k : Nat) : CodeAt l w (wr.drewN k) B g := ⟨h.a, h.o, below_drewN h.bel _⟩
theorem CodeAt.below {l : List Int} {w wr w1 : World} {B g : Nat} (h : CodeAt l w wr B g) (hb : Below wr.heap.size wr w1) : CodeAt l w w1 B g := by
  have s1 := (Array.getElem?_eq_some_iff.1 h.a).1
  have s2 := (Array.getElem?_eq_some_iff.1 h.o).1
  exact ⟨(hb.block B s1).trans h.a, (hb.block g s2).trans h.o, h.bel.trans (hb.mono (by omega))⟩
theorem CodeAt.alloc {l : List Int} {w wr : World} {B g : Nat} (h : CodeAt l w wr B g) (o : Obj) : CodeAt l w (wr.alloc o) B g := h.below ((Below.refl _ _).alloc (Nat.le_refl _) _)
theorem CodeAt.len {l : List Int} {w wr : World} {B g : Nat} (h : CodeAt l w wr B g) (hr : Right l) {k : Nat} (hk : k < 16) : wr.cell? ⟨B, k, none⟩ = some (I (ln l k)) := cell16 h.a (ln_get hr hk)
theorem CodeAt.word {l : List Int} {w wr : World} {B g : Nat} (h : CodeAt l w wr B g) {k : Nat} (hk : k < 16) : wr.cell? ⟨g, k, none⟩ = some (S (bstr (wordB l k))) := by
  rw [cell_of_row _ _ _ _ _ _ h.o]; exact cellsS_get _ _ hk
/-- the words, laid into a variable of their own -/
theorem CodeAt.made {l : List Int} {w w1 : World} {B : Nat} (h : BoxAt l w w1 B) :
    CodeAt l w ((w1.alloc (.cells (cellsS fun _ => []) 178)).setRow w1.heap.size (cellsS fun j => bstr (wordB l j))) B w1.heap.size := by
  obtain ⟨ha, hb⟩ := h
  have s1 := (Array.getElem?_eq_some_iff.1 ha).1
  refine ⟨?_, setRow_heap _ _ _ _ _ _ (heap_alloc_new _ _), below_setRow (hb.alloc (by omega) _) (by omega) _⟩
  rw [setRow_other _ _ _ _ (by omega)]
  exact (Below.heap_alloc _ _ _ s1).trans ha
theorem writeE_code {l : List Int} {s : Bytes} (h : checkE l ≠ 0) : writeE l s = checkE l ∧ writeS l s = [] := by
  have : writeE l s = checkE l := by unfold writeE; rw [if_pos h]
  exact ⟨this, by unfold writeS; rw [if_neg (by omega)]⟩
theorem writeE_many {l : List Int} {s : Bytes} (h : checkE l = 0) (h2 : 1024 < s.length) : writeE l s = 2 ∧ writeS l s = [] := by
  have : writeE l s = 2 := by unfold writeE; rw [if_neg (by omega), if_pos h2]
  exact ⟨this, by unfold writeS; rw [if_neg (by omega)]⟩
theorem writeE_none {l : List Int} {s : Bytes} (h : checkE l = 0) (h2 : ¬ 1024 < s.length) (h3 : lacks l (nibs s) = true) : writeE l s = 5 ∧ writeS l s = [] := by
  have : writeE l s = 5 := by unfold writeE; rw [if_neg (by omega), if_neg h2, if_pos h3]
  exact ⟨this, by unfold writeS; rw [if_neg (by omega)]⟩
theorem writeE_ok {l : List Int} {s : Bytes} (h : checkE l = 0) (h2 : ¬ 1024 < s.length) (h3 : lacks l (nibs s) = false) : writeE l s = 0 ∧ writeS l s = packB (encK l (nibs s)) := by
  have : writeE l s = 0 := by unfold writeE; rw [if_neg (by omega), if_neg h2, h3]; rfl
  exact ⟨this, by unfold writeS; rw [if_pos this]⟩
def strLenB : Value → Nat
  | .string s => s.size
  | _ => 0
/-- so much of the text is written -/
structure WAt (l : List Int) (s : Bytes) (k : Nat) (X : List Bool) : Prop where
  bits : X = encK l (nibs (s.take k))
  fine : lacks l (nibs (s.take k)) = false
theorem WAt.start (l : List Int) (s : Bytes) : WAt l s 0 [] := ⟨rfl, rfl⟩
theorem WAt.len {l : List Int} {s : Bytes} {k : Nat} {X : List Bool} (h : WAt l s k X) (hr : Right l) (hk : k ≤ s.length) : X.length ≤ 30 * k := by
  have h1 := encK_len hr (nibs (s.take k))
  rw [nibs_len, List.length_take] at h1
  rw [h.bits]; omega
theorem nibs_take {s : Bytes} {k : Nat} {c : UInt8} (h : s[k]? = some c) : nibs (s.take (k + 1)) = nibs (s.take k) ++ [c.toNat / 16, c.toNat % 16] := by
  rw [List.take_add_one, h, nibs_app]; rfl
theorem WAt.step {l : List Int} {s : Bytes} {k : Nat} {X : List Bool} {c : UInt8} (h : WAt l s k X) (hc : s[k]? = some c) (h1 : ln l (c.toNat / 16) ≠ 0) (h2 : ln l (c.toNat % 16) ≠ 0) :
    WAt l s (k + 1) (X ++ wordB l (c.toNat / 16) ++ wordB l (c.toNat % 16)) := by
  refine ⟨?_, ?_⟩
  · rw [nibs_take hc, encK_app, ← h.bits, List.append_assoc]; simp [encK]
  · have h3 := h.fine
    unfold lacks at h3 ⊢
    rw [nibs_take hc, List.any_append, h3]
    simp [h1, h2]
theorem WAt.lack {l : List Int} {s : Bytes} {k : Nat} {c : UInt8} (hc : s[k]? = some c) (h1 : ln l (c.toNat / 16) = 0 ∨ ln l (c.toNat % 16) = 0) : lacks l (nibs s) = true := by
  have : lacks l (nibs (s.take (k + 1))) = true := by
    unfold lacks
    rw [nibs_take hc, List.any_append]
    rcases h1 with h | h <;> simp [h]
  rw [← List.take_append_drop (k + 1) s, nibs_app]
  unfold lacks at this ⊢
  rw [List.any_append, this]; rfl
attribute [local go_sem ↓] concat_list in
set_option maxHeartbeats 8000000 in
set_option maxRecDepth 100000 in
theorem writeCode_any (l : List Int) (s : Bytes) (w : World) (hl : l.length = 16) (hs : s.length ≤ 4611686018427387904) :
    Calls Tryz.prog 141 #[A16 l, S s] w fun e w' => e = .returned (.tuple #[S (writeS l s), I (writeE l s)]) ∧ Below w.heap.size w w' := by
  have hz := zero16s
  obtain ⟨B, hB⟩ : ∃ B, B = w.heap.size := ⟨_, rfl⟩
  obtain ⟨w0, hw0⟩ : ∃ w0, w0 = w.alloc (.cells (cells16 l) 145) := ⟨_, rfl⟩
  have hx0 : BoxAt l w w0 B := by rw [hw0, hB]; exact BoxAt.boxed l w
  have CK := checkCodeR_any l w0 hl
  obtain ⟨e0, he0⟩ : ∃ e0, e0 = checkE l := ⟨_, rfl⟩
  rw [← he0] at CK
  have CK := hide CK
  have HE0 := hide he0
  have HB := hide hB
  have HW0 := hide hw0
  have HX0 := hide hx0
  have HL := hide hl
  clear he0 hB hw0 hx0 hl
  go_enter Tryz.func141, Tryz.ntmps141
  by_cases h0 : e0 = 0
  · subst h0
    have HR := hide (right_of (unhide HL) (unhide HE0).symm)
    by_cases hs1 : s.length ≤ 1024
    · go_wp2_with (first
        | (refine wpList_load16 rfl (.tmp 2) rfl B (by rw [unhide HB]; rfl) l (unhide HL) (by rw [← unhide HW0]; exact (unhide HX0).a) ?_; rw [← unhide HW0, ← unhide HB])
        | (go_at_call 137; refine (unhide CK).mono ?_; rintro e w1 ⟨rfl, hb1⟩; have HX1 := hide ((unhide HX0).below hb1); clear hb1)
        | (refine wpList_load16 rfl (.tmp 2) rfl B rfl l (unhide HL) (unhide HX1).a ?_)
        | (go_at_call 139; refine (refWords_any l _ (unhide HR)).mono ?_; rintro e w2 ⟨rfl, hb2⟩; have HX2 := hide ((unhide HX1).below hb2); clear hb2)
        | (refine wpList_store_row rfl 178 (.tmp 7) (.tmp 23) rfl w2.heap.size _ rfl rfl 178 _ (heap_alloc_new _ _) (by rw [size16s, cellsS_size]) (by rw [cellsS_size, cellsS_size]) (cellsS_one _) ?_; obtain ⟨w3, hw3⟩ : ∃ w3, w3 = (w2.alloc (.cells (cellsS fun _ => []) 178)).setRow w2.heap.size (cellsS fun j => bstr (wordB l j)) := ⟨_, rfl⟩; obtain ⟨g, hg⟩ : ∃ g, g = w2.heap.size := ⟨_, rfl⟩; have HC0 := hide (CodeAt.made (unhide HX2)); rw [← hw3, ← hg] at HC0; rw [← hw3, ← hg]; clear hw3 hg))
      go_loopw [8, 9] (fun b i wr => ∃ (k : Nat) (X : List Bool), k ≤ s.length ∧ i = .int .i64 k ∧ b = S (bstr X) ∧ WAt l s k X ∧ CodeAt l w wr B g) (fun _ i _ => s.length - (intOf i).toNat)
      case atStart => exact ⟨0, [], by omega, rfl, rfl, WAt.start l s, unhide HC0⟩
      case round =>
        obtain ⟨k, X, hk, rfl, rfl, hx, hc⟩ := hrel
        have HX := hide hx
        have HC := hide hc
        have hXl := hx.len (unhide HR) hk
        clear hx
        by_cases hks : k < s.length
        · obtain ⟨c, hcc⟩ : ∃ c, (⟨s.toArray⟩ : ByteArray)[k]'hks = c := ⟨_, rfl⟩
          have hsc : s[k]? = some c := by rw [List.getElem?_eq_getElem hks]; exact congrArg some hcc
          obtain ⟨h, hh⟩ : ∃ h, h = c.toNat / 16 := ⟨_, rfl⟩
          obtain ⟨m, hm⟩ : ∃ m, m = c.toNat % 16 := ⟨_, rfl⟩
          have hc256 := c.toNat_lt
          have hh16 : h < 16 := by omega
          have hm16 : m < 16 := by omega
          have a1 : (c.toNat : Int).tdiv 16 = (h : Int) := by rw [Int.tdiv_eq_ediv_of_nonneg (by omega)]; omega
          have a2 : (c.toNat : Int).tmod 16 = (m : Int) := by rw [Int.tmod_eq_emod_of_nonneg (by omega)]; omega
          have a3 : IntKind.u8.wrap ((c.toNat : Int) / 16) = (h : Int) := by
            have e : (c.toNat : Int) / 16 = (h : Int) := by omega
            rw [e, IntKind.wrap_u8]; omega
          have c1 := hc.len (unhide HR) hh16
          have c2 := hc.len (unhide HR) hm16
          have c3 := hc.word hh16
          have c4 := hc.word hm16
          obtain ⟨x, hx⟩ : ∃ x, x = ln l h := ⟨_, rfl⟩
          obtain ⟨y, hy⟩ : ∃ y, y = ln l m := ⟨_, rfl⟩
          rw [← hx] at c1
          rw [← hy] at c2
          have HSC := hide hsc
          have HH := hide hh
          have HM := hide hm
          have HXX := hide hx
          have HYY := hide hy
          clear hsc hh hm hx hy hc
          by_cases hlk : x = 0 ∨ y = 0
          · have hlx : lacks l (nibs s) = true := WAt.lack (unhide HSC) (by rw [← unhide HH, ← unhide HM, ← unhide HXX, ← unhide HYY]; exact hlk)
            have HLX := hide hlx
            have hcs : (((x : Int) == 0) = true ∧ (x == 0) = true) ∨ (((x : Int) == 0) = false ∧ (x == 0) = false ∧ ((y : Int) == 0) = true ∧ (y == 0) = true) := by
              by_cases e : x = 0
              · exact .inl ⟨by rw [beq_iff_eq]; omega, by rw [beq_iff_eq]; exact e⟩
              · exact .inr ⟨by rw [beq_eq_false_iff_ne]; omega, by rw [beq_eq_false_iff_ne]; exact e, by rw [beq_iff_eq]; omega, by rw [beq_iff_eq]; omega⟩
            clear hlx hlk
            rcases hcs with ⟨d1, d2⟩ | ⟨d1, d2, d3, d4⟩
            all_goals
              go_wp2_with fail
              go_ret2
              obtain ⟨e1, e2⟩ := writeE_none (unhide HE0).symm (by omega) (unhide HLX)
              rw [e1, e2, ← unhide HB]
              exact ⟨rfl, (unhide HC).bel⟩
          · have hst := (unhide HX).step (unhide HSC) (by rw [← unhide HH, ← unhide HXX]; exact fun e => hlk (.inl e)) (by rw [← unhide HM, ← unhide HYY]; exact fun e => hlk (.inr e))
            rw [← unhide HH, ← unhide HM] at hst
            have HST := hide hst
            have d1 : ((x : Int) == 0) = false := by rw [beq_eq_false_iff_ne]; omega
            have d2 : (x == 0) = false := by rw [beq_eq_false_iff_ne]; omega
            have d3 : ((y : Int) == 0) = false := by rw [beq_eq_false_iff_ne]; omega
            have d4 : (y == 0) = false := by rw [beq_eq_false_iff_ne]; omega
            have hl1 : (bstr (wordB l h)).length ≤ 100 := by
              have := (unhide HR).one h
              rw [bstr_len, wordB_len]; omega
            have hl2 : (bstr (wordB l m)).length ≤ 100 := by
              have := (unhide HR).one m
              rw [bstr_len, wordB_len]; omega
            have hl3 : (bstr X).length ≤ 100000 := by rw [bstr_len]; omega
            obtain ⟨bx, hbx⟩ : ∃ bx, bx = bstr X := ⟨_, rfl⟩
            obtain ⟨bh, hbh⟩ : ∃ bh, bh = bstr (wordB l h) := ⟨_, rfl⟩
            obtain ⟨bm, hbm⟩ : ∃ bm, bm = bstr (wordB l m) := ⟨_, rfl⟩
            have hall : bstr (X ++ wordB l h ++ wordB l m) = bx ++ bh ++ bm := by rw [bstr_app, bstr_app, hbx, hbh, hbm]
            rw [← hbh] at c3 hl1
            rw [← hbm] at c4 hl2
            rw [← hbx] at hl3
            have k1 : bx.length + bh.length ≤ 9223372036854775807 := by omega
            have k2 : (bx ++ bh).length + bm.length ≤ 9223372036854775807 := by rw [List.length_append]; omega
            rw [← hbx]
            have HALL := hide hall
            clear hst hlk hbx hbh hbm hall
            go_wp2_with fail
            go_quiet (fail)
            go_wp2_with fail
            go_roundw
            case rel => exact ⟨k + 1, X ++ wordB l h ++ wordB l m, by omega, by go_num, by rw [unhide HALL]; first | rfl | simp, unhide HST, (unhide HC).drew _⟩
            case measure => simp [intOf]; omega
        · have hk' : k = s.length := by omega
          subst hk'
          have hfin := (unhide HX)
          have hbits : X = encK l (nibs s) := by rw [hfin.bits, List.take_length]
          have hlk : lacks l (nibs s) = false := by
            have := hfin.fine
            rwa [List.take_length] at this
          obtain ⟨e1, e2⟩ := writeE_ok (unhide HE0).symm (by omega) hlk
          rw [← hbits] at e2
          have HE1 := hide e1
          have HE2 := hide e2
          obtain ⟨N, hN⟩ : ∃ N, N = (X.length + 7) / 8 := ⟨_, rfl⟩
          clear hfin hbits hlk e1 e2 hc
          go_wp2_with fail
          go_loopw [8] (fun b w4 => ∃ (t : Nat), X.length + t ≤ 8 * N ∧ b = S (bstr (X ++ zeros t)) ∧ CodeAt l w w4 B g) (fun b _ => 100000 - strLenB b)
          case atStart => exact ⟨0, by omega, by simp [zeros], unhide HC⟩
          case round =>
            obtain ⟨t, ht, rfl, hc4⟩ := hrel
            have HC4 := hide hc4
            obtain ⟨bs, hbs⟩ : ∃ bs, bs = bstr (X ++ zeros t) := ⟨_, rfl⟩
            have hbl : bs.length = X.length + t := by rw [hbs, bstr_len, List.length_append, zeros_len]
            rw [← hbs]
            obtain ⟨r, hr⟩ : ∃ r, r = bs.length % 8 := ⟨_, rfl⟩
            have hm : (bs.length : Int).tmod 8 = (r : Int) := by rw [Int.tmod_eq_emod_of_nonneg (by omega)]; omega
            have hr8 : r < 8 := by omega
            have hb1 : bs.length ≤ 31000 := by omega
            by_cases hr0 : r = 0
            · have htt : X.length + t = 8 * N := by omega
              have hP : packN N (X ++ zeros t) = packB X := by
                rw [show t = 8 * N - X.length from by omega, packN_pad _ _ (by omega), hN]; rfl
              obtain ⟨P, hPP⟩ : ∃ P, P = X ++ zeros t := ⟨_, rfl⟩
              have hPl : P.length = 8 * N := by rw [hPP, List.length_append, zeros_len]; exact htt
              rw [← hPP] at hbs hP
              have hbn : bs.length = 8 * N := by rw [hbl, htt]
              have hN1 : 8 * N ≤ 31000 := by omega
              have d1 : ((r : Int) == 0) = true := by rw [beq_iff_eq]; omega
              have d2 : ((r : Int) != 0) = false := by rw [hr0]; rfl
              have d3 : (r != 0) = false := by rw [hr0]; rfl
              have HBN := hide hbn
              have HBS := hide hbs
              have HP := hide hP
              have HPL := hide hPl
              have HN := hide hN
              clear hr0 hr hbl htt hP hPP hPl hbn hbs hN
              go_wp2_with fail
              go_loopw [10, 11, 12, 13] (fun o i _ _ w5 => ∃ (j p : Nat), p = 8 * j ∧ p ≤ bs.length ∧ i = .int .i64 p ∧ o = S (packN j P) ∧ CodeAt l w w5 B g) (fun _ i _ _ _ => bs.length - (intOf i).toNat)
              case atStart => exact ⟨0, 0, by omega, by omega, rfl, rfl, unhide HC4⟩
              case round =>
                obtain ⟨j, p, hp, hpl, rfl, rfl, hc5⟩ := hrel
                have HC5 := hide hc5
                clear hc5
                by_cases hpn : p < bs.length
                · have hp8 : p + 8 ≤ bs.length := by have := unhide HBN; omega
                  have HPJ := hide hp
                  clear hp
                  go_wp2_with fail
                  go_loop [12, 13] (fun n i => ∃ (q kk v : Nat), kk = p + q ∧ q ≤ 8 ∧ i = .int .i64 kk ∧ n = .int .i64 v ∧ v = val ((P.drop p).take q) ∧ v < 256) (fun _ i => p + 8 - (intOf i).toNat)
                  case atStart => exact ⟨0, p, 0, by omega, by omega, rfl, rfl, by simp [val], by omega⟩
                  case round =>
                    obtain ⟨q, kk, v, hkk, hq8, rfl, rfl, hv, hv256⟩ := hrel
                    by_cases hq : q < 8
                    · have hkb : kk < bs.length := by omega
                      have hPd : (P.drop p)[q]? = some (P[kk]'(by have := unhide HPL; have := unhide HBN; omega)) := by
                        rw [List.getElem?_drop, ← hkk, List.getElem?_eq_getElem]
                      obtain ⟨b, hb⟩ : ∃ b, b = (P[kk]'(by have := unhide HPL; have := unhide HBN; omega)) := ⟨_, rfl⟩
                      obtain ⟨c, hcc⟩ : ∃ c, (⟨bs.toArray⟩ : ByteArray)[kk]'hkb = c := ⟨_, rfl⟩
                      have hcb : c = bch b := by
                        rw [← hcc, hb]
                        show bs[kk] = _
                        have hbs := unhide HBS
                        subst hbs
                        simp [bstr]
                      obtain ⟨z, hz⟩ : ∃ z, z = bvT b := ⟨_, rfl⟩
                      have hz1 : z ≤ 1 := by rw [hz]; exact bvT_le b
                      have hcz : IntKind.u8.wrap ((c.toNat : Int) - 48) = (z : Int) := by
                        rw [hcb, hz]; cases b <;> decide
                      have hnv : val ((P.drop p).take (q + 1)) = 2 * v + z := by
                        rw [List.take_add_one, hPd, ← hb, hv, hz]; exact val_snoc _ _
                      have hn256 : 2 * v + z < 256 := by
                        have h1 := val_lt ((P.drop p).take (q + 1))
                        have h2 : 2 ^ ((P.drop p).take (q + 1)).length ≤ 2 ^ 8 := Nat.pow_le_pow_right (by omega) (by rw [List.length_take]; omega)
                        rw [hnv] at h1; omega
                      have HNV := hide hnv
                      have HKK := hide hkk
                      clear hPd hb hcb hz hnv hv hkk
                      have kk8 : (kk : Int) < (p : Int) + 8 := by have := unhide HKK; omega
                      go_wp2_with fail
                      go_round
                      case rel => exact ⟨q + 1, kk + 1, 2 * v + z, by have := unhide HKK; omega, by omega, by go_num, by go_num, (unhide HNV).symm, hn256⟩
                      case measure => simp [intOf]; omega
                    · have hq' : q = 8 := by omega
                      subst hq'
                      have kk8 : ¬ (kk : Int) < (p : Int) + 8 := by omega
                      obtain ⟨b, hb⟩ : ∃ b, b = byteOfB ((P.drop p).take 8) := ⟨_, rfl⟩
                      have h8 : ((P.drop p).take 8).length = 8 := by
                        have := unhide HPL
                        have := unhide HBN
                        rw [List.length_take, List.length_drop]; omega
                      have hx : (b.toNat : Int) = (v : Int) := by rw [hb, byteOfB_nat (by omega), h8, hv]; simp
                      have hpk : packN (j + 1) P = packN j P ++ [b] := by rw [packN_snoc, ← unhide HPJ, hb]
                      have HPK := hide hpk
                      have hjl : (packN j P).length ≤ 31000 := by
                        have := unhide HPJ
                        rw [packN_len]; omega
                      have k1 : (packN j P).length + [b].length ≤ 9223372036854775807 := by simp; omega
                      have hu8 : IntKind.u8.wrap (v : Int) = (v : Int) := by rw [IntKind.wrap_u8]; omega
                      have hcv := fun (W : World) => run_conv1_new (P := Tryz.prog) W b hx 5 77 9 5 Tryz.underlying77 Tryz.underlying5 Tryz.underlying9
                      clear hb h8 hx hpk hv hkk
                      go_wp2_with fail
                      go_roundw
                      case rel => exact ⟨j + 1, p + 8, by have := unhide HPJ; omega, by omega, by go_num, by rw [unhide HPK], (unhide HC5).alloc _⟩
                      case measure => simp [intOf]; omega
                · have hj : j = N := by have := unhide HBN; omega
                  subst hj
                  go_wp2_with fail
                  go_ret2
                  rw [unhide HE1, unhide HE2, ← unhide HP, ← unhide HB]
                  exact ⟨rfl, (unhide HC5).bel⟩
            · have d1 : ((r : Int) == 0) = false := by rw [beq_eq_false_iff_ne]; omega
              have d2 : ((r : Int) != 0) = true := by rw [bne_iff_ne]; omega
              have d3 : (r != 0) = true := by rw [bne_iff_ne]; exact hr0
              have hnx : bs ++ [48] = bstr (X ++ zeros (t + 1)) := by
                rw [hbs, ← zeros_add, ← List.append_assoc, bstr_app (X ++ zeros t)]; rfl
              have k1 : bs.length + [(48 : UInt8)].length ≤ 9223372036854775807 := by simp; omega
              have htt : X.length + (t + 1) ≤ 8 * N := by omega
              have HTT := hide htt
              have HNX := hide hnx
              clear hr hbs hnx hbl htt hr0
              go_wp2_with fail
              go_roundw
              case rel => exact ⟨t + 1, unhide HTT, by rw [← unhide HNX], unhide HC4⟩
              case measure =>
                have e1 : strLenB (S (bs ++ [48])) = bs.length + 1 := by show (bs ++ [48]).length = _; simp
                have e2 : strLenB (S bs) = bs.length := rfl
                show 100000 - strLenB (S (bs ++ [48])) < 100000 - strLenB (S bs)
                omega
    · have HS1 := hide hs1
      have hs2 : (1024 : Int) < (s.length : Int) := by omega
      clear hs1
      go_wp2_with (first
        | (refine wpList_load16 rfl (.tmp 2) rfl B (by rw [unhide HB]; rfl) l (unhide HL) (by rw [← unhide HW0]; exact (unhide HX0).a) ?_; rw [← unhide HW0, ← unhide HB])
        | (go_at_call 137; go_loud (refine (unhide CK).mono ?_; rintro e w1 ⟨rfl, hb1⟩; have HX1 := hide ((unhide HX0).below hb1); clear hb1)))
      go_ret2
      obtain ⟨e1, e2⟩ := writeE_many (l := l) (unhide HE0).symm (show 1024 < s.length by have := unhide HS1; omega)
      rw [e1, e2, ← unhide HB]
      exact ⟨rfl, (unhide HX1).bel⟩
  · have z1 : ((e0 : Int) == 0) = false := by rw [beq_eq_false_iff_ne]; omega
    have z2 : ((e0 : Int) != 0) = true := by rw [bne_iff_ne]; omega
    have H0 := hide h0
    clear h0
    go_wp2_with (first
      | (refine wpList_load16 rfl (.tmp 2) rfl B (by rw [unhide HB]; rfl) l (unhide HL) (by rw [← unhide HW0]; exact (unhide HX0).a) ?_; rw [← unhide HW0, ← unhide HB])
      | (go_at_call 137; go_loud (refine (unhide CK).mono ?_; rintro e w1 ⟨rfl, hb1⟩; have HX1 := hide ((unhide HX0).below hb1); clear hb1)))
    go_ret2
    obtain ⟨e1, e2⟩ := writeE_code (l := l) (s := s) (by rw [← unhide HE0]; exact unhide H0)
    rw [e1, e2, ← unhide HE0, ← unhide HB]
    exact ⟨rfl, (unhide HX1).bel⟩
end Go.Proofs.YtjpgoeimclipjaaGreat
namespace Go.Proofs.YtjpgoeimclipjaaGreat
open Go.RowKit Go.Lib Pl
/-- an array of sixteen words -/
abbrev cellsP (f : Nat → Nat × Nat) : Array Value := ((List.range 32).map fun j => if j % 2 = 0 then I (f (j / 2)).1 else I (f (j / 2)).2).toArray
abbrev AP (f : Nat → Nat × Nat) : Value := .agg (cellsP f)
theorem info16w : (Tryz.prog.info? 214).map (fun i => (i.zero, i.size)) = some (some (AP fun _ => (0, 0)), 32) := by kernel_rfl
theorem size16w : (Tryz.prog.info? 214).map (·.size) = some 32 := (zero_of_info info16w).2
theorem zero16w (w : World) : (zeroValue 214).run Tryz.prog w = .ok (AP fun _ => (0, 0)) w := (zero_of_info info16w).1 w
theorem cellsP_size (f : Nat → Nat × Nat) : (cellsP f).size = 32 := by simp [cellsP]
theorem cellsP_one (f : Nat → Nat × Nat) : (cellsP f).all (·.oneCell') = true := by
  rw [Array.all_eq_true_iff_forall_mem]
  intro v hv
  simp only [cellsP, List.mem_toArray, List.mem_map] at hv
  obtain ⟨j, _, rfl⟩ := hv
  split <;> rfl
theorem cellsP_get (f : Nat → Nat × Nat) (j : Nat) (hj : j < 32) : (cellsP f)[j]? = some (if j % 2 = 0 then I (f (j / 2)).1 else I (f (j / 2)).2) := by simp [cellsP, hj]
theorem cellsP_get0 (f : Nat → Nat × Nat) (k : Nat) (hk : k < 16) : (cellsP f)[k * 2]? = some (I (f k).1) := by
  rw [cellsP_get f _ (by omega), if_pos (by omega), show k * 2 / 2 = k from by omega]
theorem cellsP_get1 (f : Nat → Nat × Nat) (k : Nat) (hk : k < 16) : (cellsP f)[k * 2 + 1]? = some (I (f k).2) := by
  rw [cellsP_get f _ (by omega), if_neg (by omega), show (k * 2 + 1) / 2 = k from by omega]
theorem cellsP_none (f : Nat → Nat × Nat) (j : Nat) (hj : ¬ j < 32) : (cellsP f)[j]? = none := by simp [cellsP]; omega
theorem cellsP_set (f : Nat → Nat × Nat) (k : Nat) (a b : Nat) (hk : k < 16) : ((cellsP f).setIfInBounds (k * 2) (I a)).setIfInBounds (k * 2 + 1) (I b) = cellsP fun j => if j = k then (a, b) else f j := by
  apply Array.ext_getElem?
  intro j
  rw [Array.getElem?_setIfInBounds, Array.getElem?_setIfInBounds]
  simp only [Array.size_setIfInBounds, cellsP_size]
  by_cases hj : j < 32
  · rw [cellsP_get _ j hj]
    by_cases e1 : k * 2 + 1 = j
    · rw [if_pos e1, if_pos (by omega), cellsP_get _ j hj, if_neg (by omega), show j / 2 = k from by omega]; simp
    · rw [if_neg e1]
      by_cases e2 : k * 2 = j
      · rw [if_pos e2, if_pos (by omega), cellsP_get _ j hj, if_pos (by omega), show j / 2 = k from by omega]; simp
      · rw [if_neg e2, cellsP_get _ j hj]
        have : ¬ j / 2 = k := by omega
        simp [this]
  · rw [cellsP_none _ j hj, cellsP_none _ j hj, if_neg (by omega), if_neg (by omega)]
theorem cellsP_congr {f f' : Nat → Nat × Nat} (h : ∀ j, j < 16 → f j = f' j) : cellsP f = cellsP f' := by
  apply Array.ext_getElem?
  intro j
  by_cases hj : j < 32
  · rw [cellsP_get _ j hj, cellsP_get _ j hj, h (j / 2) (by omega)]
  · rw [cellsP_none _ j hj, cellsP_none _ j hj]
/-- the signs that have words, of the first so many -/
def used (l : List Int) : Nat → List (Fin 16)
  | 0 => []
  | k + 1 => used l k ++ (if h : k < 16 ∧ 0 < ln l k then [⟨k, h.1⟩] else [])
theorem used_mem (l : List Int) : ∀ (k : Nat) (i : Fin 16), i ∈ used l k ↔ i.val < k ∧ 0 < ln l i
  | 0, i => by simp [used]
  | k + 1, i => by
    rw [used, List.mem_append, used_mem l k i]
    by_cases h : k < 16 ∧ 0 < ln l k
    · rw [dif_pos h, List.mem_singleton]
      constructor
      · rintro (⟨h1, h2⟩ | rfl)
        · exact ⟨by omega, h2⟩
        · exact ⟨by simp, h.2⟩
      · rintro ⟨h1, h2⟩
        by_cases e : i.val = k
        · exact .inr (Fin.ext e)
        · exact .inl ⟨by omega, h2⟩
    · rw [dif_neg h]
      simp only [List.not_mem_nil, or_false]
      constructor
      · rintro ⟨h1, h2⟩; exact ⟨by omega, h2⟩
      · rintro ⟨h1, h2⟩
        refine ⟨?_, h2⟩
        by_cases e : i.val = k
        · exfalso
          apply h
          rw [← e]; exact ⟨i.isLt, h2⟩
        · omega
theorem used_lt (l : List Int) : ∀ k, (used l k).Pairwise (· < ·)
  | 0 => List.Pairwise.nil
  | k + 1 => by
    rw [used]
    refine List.pairwise_append.2 ⟨used_lt l k, ?_, ?_⟩
    · split <;> simp
    · intro a ha b hb
      have h1 := (used_mem l k a).1 ha
      split at hb
      · rw [List.mem_singleton] at hb
        subst hb
        rw [Fin.lt_def]; exact h1.1
      · simp at hb
theorem used_len (l : List Int) : ∀ k, (used l k).length ≤ k
  | 0 => Nat.le_refl _
  | k + 1 => by
    have := used_len l k
    rw [used, List.length_append]
    split <;> simp <;> omega
/-- the room of some signs -/
def sumP (l : List Int) (p : List (Fin 16)) : Nat := (p.map fun i : Fin 16 => pw (ln l i)).sum
theorem sumP_app (l : List Int) (a b : List (Fin 16)) : sumP l (a ++ b) = sumP l a + sumP l b := by unfold sumP; rw [List.map_append, List.sum_append]
theorem sumP_perm (l : List Int) {a b : List (Fin 16)} (h : a.Perm b) : sumP l a = sumP l b := (h.map _).sum_nat
theorem sumP_used (l : List Int) (q : Nat → Bool) (hq : ∀ j, q j = true → 0 < ln l j) : ∀ k, k ≤ 16 → sumP l ((used l k).filter fun i : Fin 16 => q i) = sumN (fun j => if q j = true then pw (ln l j) else 0) k
  | 0, _ => rfl
  | k + 1, hk => by
    rw [used, List.filter_append, sumP_app, sumP_used l q hq k (by omega), sumN]
    congr 1
    by_cases h : k < 16 ∧ 0 < ln l k
    · rw [dif_pos h]
      by_cases e : q k = true
      · rw [if_pos e]; simp [sumP, e]
      · rw [if_neg e]; simp [sumP, e]
    · rw [dif_neg h, if_neg (fun e => h ⟨by omega, hq k e⟩)]; rfl
def Lex (l : List Int) (a b : Fin 16) : Prop := ln l a < ln l b ∨ (ln l a = ln l b ∧ a < b)
theorem take_filter (l : List Int) {p : List (Fin 16)} (hp : p.Pairwise (Lex l)) (hu : ∀ i ∈ p, 0 < ln l i) {k : Nat} {x : Fin 16} (hk : p[k]? = some x) : p.filter (fun i : Fin 16 => Pl.early l (ln l x) x i) = p.take k := by
  obtain ⟨hlt, hx⟩ := List.getElem?_eq_some_iff.1 hk
  have hsp : p = p.take k ++ x :: p.drop (k + 1) := by
    rw [← hx, ← List.drop_eq_getElem_cons hlt, List.take_append_drop]
  have hp2 := hp
  rw [hsp] at hp2
  obtain ⟨_, h2, h3⟩ := List.pairwise_append.1 hp2
  have h4 := List.pairwise_cons.1 h2
  conv => lhs; rw [hsp]
  rw [List.filter_append]
  have e1 : (p.take k).filter (fun i : Fin 16 => Pl.early l (ln l x) x i) = p.take k := by
    rw [List.filter_eq_self]
    intro a ha
    rw [early_iff]
    have := h3 a ha x (by simp)
    unfold Lex at this
    rw [Fin.lt_def] at this
    exact ⟨hu a (List.mem_of_mem_take ha), this⟩
  have e2 : (x :: p.drop (k + 1)).filter (fun i : Fin 16 => Pl.early l (ln l x) x i) = [] := by
    rw [List.filter_eq_nil_iff]
    intro a ha
    rw [early_iff]
    rcases List.mem_cons.1 ha with rfl | ha
    · omega
    · have := h4.1 a ha
      unfold Lex at this
      rw [Fin.lt_def] at this
      omega
  rw [e1, e2, List.append_nil]
/-- the program's number is the room of the earlier ones -/
theorem sum_take (l : List Int) {p : List (Fin 16)} (hpm : p.Perm (used l 16)) (hp : p.Pairwise (Lex l)) {k : Nat} {x : Fin 16} (hk : p[k]? = some x) : sumP l (p.take k) = preS l (ln l x) x := by
  rw [← take_filter l hp (fun i hi => ((used_mem l 16 i).1 (hpm.mem_iff.1 hi)).2) hk, sumP_perm l (hpm.filter _)]
  rw [sumP_used l (fun j => Pl.early l (ln l x) x j) (fun j hj => ((early_iff _ _ _ _).1 hj).1) 16 (Nat.le_refl _)]
  rfl
theorem used_some {l : List Int} (hr : Right l) : used l 16 ≠ [] := by
  intro e
  have h1 := hr.some
  have : krS l = 0 := sumN_zero 16 fun j hj => by
    rw [if_neg]
    intro h
    have := (used_mem l 16 ⟨j, hj⟩).2 ⟨hj, h⟩
    rw [e] at this; simp at this
  omega
theorem row_at {w : World} {base n : Nat} {e : TypeId} {v : Value} {xs : List Value} (h : w.ownsRow base e 1 v n xs) (hn : n ≠ 0) : ∃ g cap, v = .slice (some ⟨g, 0, none⟩) n cap := by
  rcases h.2 with ⟨_, h0⟩ | ⟨g, cap, cur, hv, _⟩
  · exact absurd h0 hn
  · exact ⟨g, cap, hv⟩
/-- what lies in the words' array, so many of the sorted signs behind us -/
def outP (l : List Int) (p : List (Fin 16)) (k j : Nat) : Nat × Nat := if (p.take k).any (fun i => decide (i.val = j)) = true then (wv l j, ln l j) else (0, 0)
theorem outP_zero (l : List Int) (p : List (Fin 16)) : outP l p 0 = fun _ => (0, 0) := by funext j; simp [outP]
theorem outP_step (l : List Int) {p : List (Fin 16)} {k : Nat} {x : Fin 16} (hk : p[k]? = some x) : outP l p (k + 1) = fun j => if j = x.val then (wv l x, ln l x) else outP l p k j := by
  funext j
  unfold outP
  rw [List.take_add_one, hk, List.any_append]
  by_cases e : j = x.val
  · subst e; simp
  · have : ¬ x.val = j := fun h => e h.symm
    simp [this, e]
theorem outP_end {l : List Int} {p : List (Fin 16)} (hpm : p.Perm (used l 16)) {k : Nat} (hk : p.length ≤ k) : cellsP (outP l p k) = cellsP fun j => (wv l j, ln l j) :=
  cellsP_congr fun j hj => by
    unfold outP
    rw [List.take_of_length_le hk]
    by_cases h : 0 < ln l j
    · rw [if_pos]
      rw [List.any_eq_true]
      exact ⟨⟨j, hj⟩, hpm.mem_iff.2 ((used_mem l 16 ⟨j, hj⟩).2 ⟨hj, h⟩), by simp⟩
    · have h0 : ln l j = 0 := by omega
      rw [if_neg]
      · have : wv l j = 0 := by
          unfold wv preS
          rw [h0, sumN_zero 16 fun i _ => by rw [if_neg]; rw [early_iff]; omega]
          simp
        rw [this, h0]
      · intro ha
        rw [List.any_eq_true] at ha
        obtain ⟨i, hi, he⟩ := ha
        have h1 := ((used_mem l 16 i).1 (hpm.mem_iff.1 hi)).2
        have h2 : i.val = j := by simpa using he
        rw [h2] at h1; omega
theorem info_intP : (Tryz.prog.info? 3).map (fun i => (i.zero, i.size, i.bytes)) = some (some (.int .i64 0), 1, 8) := by kernel_rfl
theorem meas_up {n k : Nat} (h : k < n) : n - (intOf (Value.int .i64 ((k : Int) + 1))).toNat < n - (intOf (Value.int .i64 (k : Int))).toNat := by simp [intOf]; omega
/-- what the program's words gives -/
def WordsSpec : Prop := ∀ (l : List Int) (w : World), Right l → Calls Tryz.prog 176 #[A16 l] w fun e w' => e = .returned (AP fun j => (wv l j, ln l j)) ∧ Below w.heap.size w w'
end Go.Proofs.YtjpgoeimclipjaaGreat
namespace Go.Proofs.YtjpgoeimclipjaaGreat
open Go.RowKit Go.Lib Pl Go.Sort
set_option maxHeartbeats 1000000 in
set_option maxRecDepth 100000 in
theorem grow_any (n : Nat) (w : World) (h1 : 1 ≤ n) (h2 : n ≤ 1000) :
    Calls Tryz.prog 199 #[.slice none 0 0, .int .i64 n] w fun e w' => ∃ g cap, e = .returned (.slice (some ⟨g, 0, none⟩) 0 cap) ∧ w'.ownsRow w.heap.size 3 1 (.slice (some ⟨g, 0, none⟩) 0 cap) 0 [] ∧ Below w.heap.size w w' := by
  obtain ⟨i0, hi, hz0, hz1, hz2⟩ := info_parts info_intP
  have hr := run_append_nil_zeros (P := Tryz.prog) w 24 3 24 3 i0 _ .i64 .i64 Tryz.underlying24 Tryz.underlying3 hi hz0 n (by omega) (by omega) (by omega) (by rw [hz2]; omega)
  have hge := grownCap_ge w n 0 3
  have hle := grownCap_le_maxLen w n 0 3 (by unfold maxLen; omega)
  obtain ⟨cap, hcap⟩ : ∃ cap, cap = grownCap w n 0 3 := ⟨_, rfl⟩
  rw [← hcap] at hr hge hle
  obtain ⟨w1, hw1⟩ : ∃ w1, w1 = w.drew.alloc (.cells (Builtin.zeroCells (Value.int .i64 0).cells n ++ Builtin.zeroCells (Value.int .i64 0).cells (cap - n)) 3) := ⟨_, rfl⟩
  rw [← hw1] at hr
  have hb : Below w.heap.size w w1 := by rw [hw1]; exact ((Below.refl _ _).drew).alloc (Nat.le_refl _) _
  have hown : w1.ownsRow w.heap.size 3 1 (.slice (some ⟨w.heap.size, 0, none⟩) 0 cap) 0 [] := by
    refine ⟨rfl, .inr ⟨w.heap.size, cap, _, rfl, Nat.le_refl _, by rw [hw1]; exact heap_alloc_new w.drew _, Nat.zero_le _, hle, ?_, by simp⟩⟩
    have hz : (Value.int IntKind.i64 0).cells.size = 1 := rfl
    rw [Array.size_append, size_zeroCells, size_zeroCells, hz]; omega
  have HR := hide hr
  have HB := hide hb
  have HOWN := hide hown
  have hcap' : 0 ≤ cap := Nat.zero_le _
  clear hr hb hown hcap hw1 hi hz0 hz1 hz2
  go_enter Tryz.func199, Tryz.ntmps199
  go_wp2_with (at_builtin; refine Lib.wpList_append_run _ rfl _ _ _ _ rfl _ _ rfl rfl _ _ (unhide HR) ?_)
  go_ret
  exact ⟨_, cap, rfl, unhide HOWN, unhide HB⟩
/-- what Concat reads -/
structure CatAt (w : World) (s : Nat) (a b : El) : Prop where
  c0 : w.cell? ⟨s, 0, none⟩ = some (SgV a)
  c1 : w.cell? ⟨s, 1, none⟩ = some (SgV b)
  ra : w.rangeAt a.g 0 (a.s.map natI)
  rb : w.rangeAt b.g 0 (b.s.map natI)
  la : 1 ≤ a.s.length ∧ a.s.length ≤ 16
  lb : 1 ≤ b.s.length ∧ b.s.length ≤ 16
theorem range_below {w w' : World} {g o : Nat} {cs : List Value} (h : w.rangeAt g o cs) (hn : 0 < cs.length) (hb : Below w.heap.size w w') : w'.rangeAt g o cs := by
  have hlt : g < w.heap.size := block_lt_of_cell (h 0 _ (List.getElem?_eq_getElem hn))
  exact fun j v hv => (hb.cell (p := ⟨g, o + j, none⟩) hlt).trans (h j v hv)
theorem CatAt.below {w w' : World} {s : Nat} {a b : El} (h : CatAt w s a b) (hb : Below w.heap.size w w') : CatAt w' s a b :=
  ⟨(hb.cell (block_lt_of_cell h.c0)).trans h.c0, (hb.cell (block_lt_of_cell h.c1)).trans h.c1, range_below h.ra (by have := h.la; simp; omega) hb, range_below h.rb (by have := h.lb; simp; omega) hb, h.la, h.lb⟩
theorem sg_range {w : World} {base : Nat} {e : El} (h : SgOK w base e) : w.rangeAt e.g 0 (e.s.map natI) := fun j v hv => by
  have := h.cells (g := e.g) rfl j v hv
  rwa [Addr.add_mid] at this
set_option maxHeartbeats 2000000 in
set_option maxRecDepth 100000 in
theorem concat_any (a b : El) (s : Nat) (w : World) (h : CatAt w s a b) :
    Calls Tryz.prog 173 #[.slice (some ⟨s, 0, none⟩) 2 2] w fun e w' => ∃ g cap, e = .returned (.slice (some ⟨g, 0, none⟩) (a.s.length + b.s.length) cap) ∧ w'.ownsRow w.heap.size 3 1 (.slice (some ⟨g, 0, none⟩) (a.s.length + b.s.length) cap) (a.s.length + b.s.length) ((a.s ++ b.s).map natI) ∧ Below w.heap.size w w' := by
  obtain ⟨i0, hi, hz0, hz1, hz2⟩ := info_parts info_intP
  have HA := hide h
  have la := h.la
  have lb := h.lb
  have c0 := h.c0
  have c1 := h.c1
  obtain ⟨m, hm⟩ : ∃ m, m = a.s.length := ⟨_, rfl⟩
  obtain ⟨n, hn⟩ : ∃ n, n = b.s.length := ⟨_, rfl⟩
  obtain ⟨xs, hxs⟩ : ∃ xs, xs = a.s.map natI := ⟨_, rfl⟩
  obtain ⟨ys, hys⟩ : ∃ ys, ys = b.s.map natI := ⟨_, rfl⟩
  unfold SgV at c0 c1
  have hab : (a.s ++ b.s).map natI = xs ++ ys := by rw [List.map_append, hxs, hys]
  rw [hab]
  rw [← hm] at la c0 ⊢
  rw [← hn] at lb c1 ⊢
  have HM := hide hm
  have HN := hide hn
  have HXS := hide hxs
  have HYS := hide hys
  have HBELOW := fun (W : World) (hb : Below w.heap.size w W) => h.below hb
  have HBELOW := hide HBELOW
  have KG := hide (fun (W : World) => grow_any (m + n) W (by omega) (by omega))
  clear h hm hn hxs hys hab
  go_enter Tryz.func173, Tryz.ntmps173
  go_wp2_with fail
  go_loop [3, 5, 11] (fun z _ i => ∃ k : Nat, k ≤ 2 ∧ i = .int .i64 k ∧ z = .int .i64 (if k = 0 then 0 else if k = 1 then m else m + n : Nat)) (fun _ _ i => 2 - (intOf i).toNat)
  case atStart => exact ⟨0, by omega, rfl, rfl⟩
  case round =>
    obtain ⟨k, hk, rfl, rfl⟩ := hrel
    match k, hk with
    | 0, _ =>
      go_wp2_with fail
      go_round
      case rel => exact ⟨1, by omega, rfl, by simp⟩
      case measure => simp [intOf]
    | 1, _ =>
      go_wp2_with fail
      go_round
      case rel => exact ⟨2, by omega, rfl, by simp⟩
      case measure => simp [intOf]
    | 2, _ =>
      go_wp2_with fail
      refine (unhide KG _).mono ?_
      rintro e w1 ⟨g0, cap0, rfl, hown0, hb0⟩
      have HOWN0 := hide hown0
      have HB0 := hide hb0
      clear hown0 hb0
      go_wp2_with fail
      go_loopw [6, 8, 27] (fun v _ i wr => ∃ k : Nat, k ≤ 2 ∧ i = .int .i64 k ∧ wr.ownsRow w.heap.size 3 1 v (if k = 0 then 0 else if k = 1 then 0 + m else 0 + m + n) (if k = 0 then [] else if k = 1 then [] ++ xs else [] ++ xs ++ ys) ∧ Below w.heap.size w wr) (fun _ _ i _ => 2 - (intOf i).toNat)
      case atStart => exact ⟨0, by omega, rfl, unhide HOWN0, unhide HB0⟩
      case round =>
        obtain ⟨k, hk, rfl, hown, hbe⟩ := hrel
        have HBE := hide hbe
        have hbs : w.heap.size ≤ wr.heap.size := hbe.size
        have hcat := unhide HBELOW wr hbe
        have d0 := hcat.c0
        have d1 := hcat.c1
        unfold SgV at d0 d1
        rw [← unhide HM] at d0
        rw [← unhide HN] at d1
        have HCAT := hide hcat
        clear hbe hcat c0 c1
        match k, hk with
        | 0, _ =>
          have HO := hide (show wr.ownsRow w.heap.size 3 1 _ 0 [] from hown)
          have HL := hide (show xs.length = m * 1 by rw [unhide HXS, unhide HM]; simp)
          have HNW := hide (show ∀ j u, xs[j]? = some u → wr.cell? ((⟨a.g, 0, none⟩ : Addr).add j) = some u from fun j u hu => by rw [Addr.add_mid]; exact (unhide HCAT).ra j u (by rw [← unhide HXS]; exact hu))
          have H1C := hide (show ∀ u ∈ xs, u.oneCell' = true from fun u hu => by rw [unhide HXS] at hu; obtain ⟨q, _, rfl⟩ := List.mem_map.1 hu; rfl)
          clear hown
          go_wp2_with (at_builtin; refine wpList_append_own _ rfl _ _ 24 rfl w.heap.size 3 i0 _ 1 8 Tryz.underlying24 hi hz0 hz1 hz2 rfl (by decide) _ 0 [] rfl (unhide HO) ⟨a.g, 0, none⟩ m a.cap xs rfl (unhide HL) (unhide HNW) (unhide H1C) (by unfold maxLen; omega) (by omega) hbs ?_; intro v' w' hown' hg' _; have HOWN' := hide hown'; have HG' := hide hg'; clear hown' hg')
          go_roundw
          case rel =>
            refine ⟨1, by omega, rfl, unhide HOWN', (unhide HBE).grown (unhide HG') (unhide HBE).size ?_⟩
            exact fun k hk => ((unhide HO).lt k hk).1
          case measure => simp [intOf]
        | 1, _ =>
          have HO := hide (show wr.ownsRow w.heap.size 3 1 _ (0 + m) ([] ++ xs) from hown)
          have HL := hide (show ys.length = n * 1 by rw [unhide HYS, unhide HN]; simp)
          have HNW := hide (show ∀ j u, ys[j]? = some u → wr.cell? ((⟨b.g, 0, none⟩ : Addr).add j) = some u from fun j u hu => by rw [Addr.add_mid]; exact (unhide HCAT).rb j u (by rw [← unhide HYS]; exact hu))
          have H1C := hide (show ∀ u ∈ ys, u.oneCell' = true from fun u hu => by rw [unhide HYS] at hu; obtain ⟨q, _, rfl⟩ := List.mem_map.1 hu; rfl)
          clear hown
          go_wp2_with (at_builtin; refine wpList_append_own _ rfl _ _ 24 rfl w.heap.size 3 i0 _ 1 8 Tryz.underlying24 hi hz0 hz1 hz2 rfl (by decide) _ (0 + m) ([] ++ xs) rfl (unhide HO) ⟨b.g, 0, none⟩ n b.cap ys rfl (unhide HL) (unhide HNW) (unhide H1C) (by unfold maxLen; omega) (by omega) hbs ?_; intro v' w' hown' hg' _; have HOWN' := hide hown'; have HG' := hide hg'; clear hown' hg')
          go_roundw
          case rel =>
            refine ⟨2, by omega, rfl, unhide HOWN', (unhide HBE).grown (unhide HG') (unhide HBE).size ?_⟩
            exact fun k hk => ((unhide HO).lt k hk).1
          case measure => simp [intOf]
        | 2, _ =>
          have HO := hide (show wr.ownsRow w.heap.size 3 1 _ (0 + m + n) ([] ++ xs ++ ys) from hown)
          clear hown
          go_wp2_with fail
          go_ret
          have ho := unhide HO
          obtain ⟨g, cap, hv⟩ := row_at ho (by omega)
          rw [Nat.zero_add, List.nil_append] at ho
          rw [Nat.zero_add] at hv
          rw [hv] at ho
          exact ⟨g, cap, by rw [← hv]; rfl, ho, unhide HBE⟩
/-- sorted lists of the same numbers are the same -/
theorem ints_unique : ∀ (c d : List Int), c.Pairwise (· ≤ ·) → d.Pairwise (· ≤ ·) → c.Perm d → c = d := fun c d h1 h2 h =>
  List.Perm.eq_of_pairwise (le := (· ≤ ·)) (fun a b _ _ h1 h2 => Int.le_antisymm h1 h2) h1 h2 h
theorem sort_mg {a b : Tr} (ha : VT a) (hb : VT b) (hd : Dis a b) : (((a.2 ++ b.2).map fun i : Nat => (i : Int)).mergeSort fun x y => decide (x ≤ y)) = (mg a.2 b.2).map fun i : Nat => (i : Int) := by
  refine ints_unique _ _ ?_ ?_ ?_
  · have := List.pairwise_mergeSort (le := fun x y : Int => decide (x ≤ y)) (fun a b c h1 h2 => by simp at *; omega) (fun a b => by simp; omega) ((a.2 ++ b.2).map fun i : Nat => (i : Int))
    exact this.imp fun h => by simpa using h
  · rw [List.pairwise_map]
    exact (mg_asc a.2 b.2).imp fun h => by omega
  · refine (List.mergeSort_perm _ _).trans (List.Perm.map _ ?_)
    refine (List.perm_ext_iff_of_nodup ?_ ?_).2 fun i => ?_
    · refine List.nodup_append.2 ⟨ha.asc.imp fun h => by omega, hb.asc.imp fun h => by omega, fun x hx y hy e => hd x hx (e ▸ hy)⟩
    · exact (mg_asc a.2 b.2).imp fun h => by omega
    · rw [mem_mg ha.lt hb.lt, List.mem_append]
theorem natI_map (l : List Nat) : l.map natI = (l.map fun i : Nat => (i : Int)).map (Value.int .i64) := by rw [List.map_map]; rfl
/-- what the library's sort of numbers leaves -/
theorem putRow_own {w : World} {base n g cap m : Nat} {os : Array Obj} {xs : List Value} (h : w.ownsRow base 3 1 (.slice (some ⟨g, 0, none⟩) n cap) n xs) (zs : List Int) (hz : zs.length = n) :
    (grow (putRow (Value.int .i64) (Sort.ahead w m) g 0 zs.toArray) os).ownsRow base 3 1 (.slice (some ⟨g, 0, none⟩) n cap) n (zs.map (Value.int .i64)) ∧ Below base w (grow (putRow (Value.int .i64) (Sort.ahead w m) g 0 zs.toArray) os) := by
  have hgl := (h.lt g rfl).2
  have hgb := (h.lt g rfl).1
  rcases h.2 with ⟨hv, _⟩ | ⟨g', cap', cur, hv, hb, hg, hn, hc, hs, ht⟩
  · cases hv
  · injection hv with ha _ hcap
    injection ha with ha
    injection ha with ha
    subst ha
    subst hcap
    have hh : (grow (putRow (Value.int .i64) (Sort.ahead w m) g 0 zs.toArray) os).heap[g]? = some (.cells (putCells (Value.int .i64) 0 zs.toArray cur) 3 (0, 0)) := by
      unfold putRow
      have hg2 : (Sort.ahead w m).heap[g]? = some (.cells cur 3 (0, 0)) := hg
      rw [heap_grow_old _ _ (by show g < (mapBlock _ _ _).heap.size; unfold mapBlock; simpa using hgl)]
      unfold mapBlock
      simp only [Array.getElem?_modify]
      rw [if_pos trivial, hg2]
      rfl
    refine ⟨⟨by simp [hz], .inr ⟨g, cap, _, rfl, hb, hh, hn, hc, ?_, ?_⟩⟩, rfl, rfl, rfl, ?_, fun i hi => ?_⟩
    · unfold putCells; simpa using hs
    · apply List.ext_getElem?
      intro t
      rw [List.getElem?_take]
      by_cases htn : t < n * 1
      · have ht2 : t < zs.length := by omega
        have ht3 : t < cur.size := by omega
        rw [if_pos htn, Array.getElem?_toList]
        unfold putCells
        rw [Array.getElem?_mapIdx, Array.getElem?_eq_getElem ht3]
        simp [ht2]
      · rw [if_neg htn, List.getElem?_eq_none (by simp; omega)]
    · unfold putRow mapBlock; simp [Sort.ahead]
    · unfold putRow
      rw [heap_grow_old _ _ (by show i < (mapBlock _ _ _).heap.size; unfold mapBlock; simp [Sort.ahead]; omega)]
      unfold mapBlock
      simp only [Array.getElem?_modify]
      rw [if_neg (by omega)]
      rfl
theorem sortSigns_any {a b : Tr} (ha : VT a) (hb : VT b) (hd : Dis a b) {base n g cap : Nat} {w : World} (hn : (a.2 ++ b.2).length = n) (h32 : n ≤ 1000) (h : w.ownsRow base 3 1 (.slice (some ⟨g, 0, none⟩) n cap) n ((a.2 ++ b.2).map natI)) :
    Calls Tryz.prog 174 #[.slice (some ⟨g, 0, none⟩) n cap] w fun e w' => e = .returned (.tuple #[]) ∧ w'.ownsRow base 3 1 (.slice (some ⟨g, 0, none⟩) n cap) n ((mg a.2 b.2).map natI) ∧ Below base w w' := by
  have hH : Holds (Value.int .i64) w g 0 ((a.2 ++ b.2).map fun i : Nat => (i : Int)).toArray := by
    intro j hj
    have hj2 : j < (a.2 ++ b.2).length := by simpa using hj
    have hc := h.cells (g := g) rfl j (natI ((a.2 ++ b.2)[j])) (by rw [List.getElem?_map, List.getElem?_eq_getElem hj2]; rfl)
    rw [Addr.add_mid] at hc
    refine ⟨?_, ?_⟩
    · rw [hc, getElem!_pos _ j hj]
      simp only [List.getElem_toArray, List.getElem_map]; rfl
    · rcases h.2 with ⟨hv, _⟩ | ⟨g', cap', cur, hv, _, hg, _⟩
      · cases hv
      · injection hv with ha
        injection ha with ha
        injection ha with ha
        subst ha
        simp [World.frozen?, hg]
  have hc := Tryz.slices_Sort_int g 0 cap ((a.2 ++ b.2).map fun i : Nat => (i : Int)) w hH (h.lt g rfl).2 (by rw [List.length_map]; omega)
  rw [List.length_map, hn, sort_mg ha hb hd] at hc
  refine hc.mono ?_
  rintro e w' ⟨rfl, m, os, rfl⟩
  have hl : ((mg a.2 b.2).map fun i : Nat => (i : Int)).length = n := by
    have := congrArg List.length (sort_mg ha hb hd)
    rw [List.length_mergeSort, List.length_map, hn] at this
    exact this.symm
  have := putRow_own (m := m) (os := os) h _ hl
  rw [← natI_map] at this
  exact ⟨rfl, this⟩
end Go.Proofs.YtjpgoeimclipjaaGreat
