/- Parts of the proofs. -/
import Derived.Test.YtjpgoeimclipjaaGreatAc12
import Derived.Lib.SmallJoins
import Derived.Deep.DeepCutAuto
import Derived.Deep.QuietTactic
import Derived.BigQuiet
namespace Go.Proofs.YtjpgoeimclipjaaGreat
open Go.ChangeShapes Go.WideShapes Go.Deep Go.RowKit Pl
theorem weights_all_mem {H : Type} {P : Program} {e : TypeId} : ∀ {l : List (DataW H)} {x : DataW H}, x ∈ l → ∀ n ∈ x.weights P e, n ∈ DataW.weightsAll P e l
  | y :: l, x, hx, n, hn => by
    simp only [DataW.weightsAll, List.mem_append]
    rcases List.mem_cons.1 hx with rfl | hx
    · exact .inl hn
    · exact .inr (weights_all_mem hx n hn)
set_option maxRecDepth 100000 in
theorem open_strsW {H : Type} {enc : TypeId × Value → H} {w : World} {fuel : Nat} {v : Value} {d : DataW H} {p : List MemPlace}
    (hf : DataW.trod enc Tryz.prog w 0 (fun _ => true) true fuel 30 [v] = some (d, p)) (hlt : ∀ x ∈ p, x.block < w.heap.size) (hwt : ∀ n ∈ d.weights Tryz.prog 30, n ≤ reachBytes) :
    ∃ A n cap l, v = .slice A n cap ∧ StrsAt w w.heap.size A n l ∧ (∀ t ∈ l, t.length ≤ 140737488355328) ∧ n ≤ 4611686018427387904 ∧ n ≤ cap := by
  rcases open_slice1 Tryz.underlying30 (by kernel_rfl) hf with ⟨hcs, hx⟩ | ⟨a, len, cap', m, k, V, D, Pl, hcs, _, hlc, hcm, hm, hx, hi⟩
  · injection hcs with hcs
    exact ⟨_, _, _, [], hcs, ⟨rfl, fun h => absurd h (by omega)⟩, by simp, by omega, by omega⟩
  · injection hcs with hcs
    have hm : m = cap' := by simpa using hm
    subst hm
    injection hx with hd hp
    have hbt : Tryz.prog.bytesOf 9 = 16 := by kernel_rfl
    have hrb : reachBytes = 140737488351232 := rfl
    have hn : len ≤ 4611686018427387904 := by
      have := hwt (((List.range len).map D).length * 16 + ((List.range (m - len)).map fun j => D (len + j)).length * 16) (by
        rw [hd]
        simp only [DataW.weights, Tryz.underlying30, hbt, Nat.add_mul]
        exact List.mem_cons_self)
      simp at this
      omega
    have hl : ∀ i, i < len → ∃ t : Bytes, w.cell? (a.add i) = some (S t) ∧ t.length ≤ 140737488355328 := by
      intro i hin
      obtain ⟨c0, t0⟩ := hi i (by omega)
      obtain ⟨s, hs, hy, _⟩ := DataW.trod_string Tryz.underlying9 t0
      injection hs with hs
      injection hy with hy _
      rw [hs] at c0
      refine ⟨s.data.toList, c0, ?_⟩
      have hmem : D i ∈ (List.range len).map D := List.mem_map.2 ⟨i, List.mem_range.2 hin, rfl⟩
      have := hwt s.data.toList.length (by
        rw [hd]
        simp only [DataW.weights, Tryz.underlying30, List.mem_cons, List.mem_append]
        exact .inr (.inl (weights_all_mem hmem _ (by rw [hy]; simp [DataW.weights]))))
      omega
    obtain ⟨l, hll, hlp⟩ := list_of len _ hl
    refine ⟨_, len, m, l, hcs, ⟨hll, fun hn => ?_⟩, fun t ht => ?_, hn, by omega⟩
    · obtain ⟨b, off, spot⟩ := a
      have hspot : spot = none := by
        obtain ⟨t, c0, _⟩ := hl 0 hn
        simpa [Addr.add] using World.cell?_spot c0
      subst hspot
      have hb : b < w.heap.size := by
        refine hlt (.cell b off) ?_
        rw [hp]
        exact List.mem_append_left _ (MemPlace.mem_row.2 ⟨0, by omega, rfl⟩)
      refine ⟨b, off, rfl, hb, fun i t ht => ?_⟩
      have := (hlp i t ht).1
      simpa only [Go.WideShapes.add_plain] using this
    · obtain ⟨i, hi2⟩ := List.mem_iff_getElem?.1 ht
      exact (hlp i t hi2).2
theorem lit_range {a : Int} (h : (Lit.int .i64 a).wf = true) : -9223372036854775808 ≤ a ∧ a ≤ 9223372036854775807 := by
  have hmin : IntKind.i64.min = -9223372036854775808 := rfl
  have hmax : IntKind.i64.max = 9223372036854775807 := rfl
  simp only [Lit.wf, Bool.and_eq_true, decide_eq_true_eq] at h
  rw [hmin, hmax] at h
  exact h
set_option maxRecDepth 100000 in
theorem open_filsW {H : Type} {enc : TypeId × Value → H} {w : World} {fuel : Nat} {v : Value} {d : DataW H} {p : List MemPlace}
    (hf : DataW.trod enc Tryz.prog w 0 (fun _ => true) true fuel 31 [v] = some (d, p)) (hlt : ∀ x ∈ p, x.block < w.heap.size) (hwt : ∀ n ∈ d.weights Tryz.prog 31, n ≤ reachBytes) :
    ∃ A n cap l, v = .slice A n cap ∧ filsAt w w.heap.size A n l ∧ (∀ t ∈ l, FilSz t) ∧ n ≤ 4611686018427387904 := by
  rcases open_slice_fields Tryz.underlying31 Tryz.underlying61 (by kernel_rfl) (by kernel_rfl) hf with ⟨hcs, hx⟩ | ⟨a, len, cap', m, D, Pl, hcs, _, hlc, hcm, hm, hx, hi⟩
  · injection hcs with hcs
    exact ⟨_, _, _, [], hcs, ⟨rfl, fun h => absurd h (by omega)⟩, by simp, by omega⟩
  · injection hcs with hcs
    have hm : m = cap' := by simpa using hm
    subst hm
    injection hx with hd hp
    have hbt : Tryz.prog.bytesOf 61 = 56 := by kernel_rfl
    have hrb : reachBytes = 140737488351232 := rfl
    have hn : len ≤ 4611686018427387904 := by
      have := hwt (((List.range len).map D).length * 56 + ((List.range (m - len)).map fun j => D (len + j)).length * 56) (by
        rw [hd]
        simp only [DataW.weights, Tryz.underlying31, hbt, Nat.add_mul]
        exact List.mem_cons_self)
      simp at this
      omega
    have hl : ∀ i, i < len → ∃ t : Fil, (w.cell? (a.add (i * 5)) = some (S t.name) ∧ w.cell? (a.add (i * 5 + 1)) = some (I t.dict) ∧ w.cell? (a.add (i * 5 + 2)) = some (I t.size) ∧ w.cell? (a.add (i * 5 + 3)) = some (I t.sum) ∧ w.cell? (a.add (i * 5 + 4)) = some (S t.block)) ∧ FilSz t := by
      intro i hin
      obtain ⟨ys, k, hD, _, _, hf⟩ := hi i (by omega)
      obtain ⟨v0, y0, c0, e0, t0⟩ := hf 0 _ rfl
      obtain ⟨v1, y1, c1, e1, t1⟩ := hf 1 _ rfl
      obtain ⟨v2, y2, c2, e2, t2⟩ := hf 2 _ rfl
      obtain ⟨v3, y3, c3, e3, t3⟩ := hf 3 _ rfl
      obtain ⟨v4, y4, c4, e4, t4⟩ := hf 4 _ rfl
      obtain ⟨s, hs, hys, _⟩ := DataW.trod_string Tryz.underlying9 t0
      obtain ⟨x1, hx1, hy1, hw1⟩ := DataW.trod_int Tryz.underlying3 t1
      obtain ⟨x2, hx2, hy2, hw2⟩ := DataW.trod_int Tryz.underlying3 t2
      obtain ⟨x3, hx3, hy3, hw3⟩ := DataW.trod_int Tryz.underlying3 t3
      obtain ⟨u, hu, hyu, _⟩ := DataW.trod_string Tryz.underlying9 t4
      injection hs with hs
      injection hx1 with hx1
      injection hx2 with hx2
      injection hx3 with hx3
      injection hu with hu
      subst hs; subst hx1; subst hx2; subst hx3; subst hu
      have hmem : D i ∈ (List.range len).map D := List.mem_map.2 ⟨i, List.mem_range.2 hin, rfl⟩
      have hwi : ∀ n ∈ (D i).weights Tryz.prog 61, n ≤ reachBytes := fun n hn => hwt n (by
        rw [hd]
        simp only [DataW.weights, Tryz.underlying31, List.mem_cons, List.mem_append]
        exact .inr (.inl (weights_all_mem hmem _ hn)))
      have hwj : ∀ (j : Nat) (t : TypeId) (y : DataW H), (Tryz.prog.underlying 61).map (fun d => match d with | .struct fs => (fs.toList.map (·.type))[j]? | _ => none) = some (some t) → (ys.map (·.1))[j]? = some y → ∀ n ∈ y.weights Tryz.prog t, n ≤ reachBytes := by
        intro j t y ht hy n hn
        refine hwi n ?_
        rw [hD]
        simp only [Tryz.underlying61, Option.map_some, Option.some.injEq] at ht
        simp only [DataW.weights, Tryz.underlying61]
        exact DataW.weights_mem_each ht hy n hn
      have b0 := hwj 0 9 y0.1 (by rw [Tryz.underlying61]; rfl) (by rw [List.getElem?_map, e0]; rfl) s.data.toList.length (by rw [hys]; simp [DataW.weights])
      have b4 := hwj 4 9 y4.1 (by rw [Tryz.underlying61]; rfl) (by rw [List.getElem?_map, e4]; rfl) u.data.toList.length (by rw [hyu]; simp [DataW.weights])
      obtain ⟨r1, r1'⟩ := lit_range hw1
      obtain ⟨r2, r2'⟩ := lit_range hw2
      obtain ⟨r3, r3'⟩ := lit_range hw3
      exact ⟨⟨s.data.toList, x1, x2, x3, u.data.toList⟩, ⟨c0, c1, c2, c3, c4⟩, ⟨by show s.data.toList.length ≤ _; omega, by show u.data.toList.length ≤ _; omega, r1, r1', r2, r2', r3, r3'⟩⟩
    obtain ⟨l, hll, hlp⟩ := list_of len _ hl
    refine ⟨_, len, m, l, hcs, ⟨hll, fun hn => ?_⟩, fun t ht => ?_, hn⟩
    · obtain ⟨b, off, spot⟩ := a
      have hspot : spot = none := by
        obtain ⟨t, ⟨c0, _⟩, _⟩ := hl 0 hn
        simpa [Addr.add] using World.cell?_spot c0
      subst hspot
      have hb : b < w.heap.size := by
        refine hlt (.cell b off) ?_
        rw [hp]
        exact List.mem_append_left _ (MemPlace.mem_row.2 ⟨0, by simp; omega, rfl⟩)
      refine ⟨b, off, rfl, hb, fun i t ht => ?_⟩
      have := (hlp i t ht).1
      simpa only [Go.WideShapes.add_plain, Nat.add_assoc] using this
    · obtain ⟨i, hi2⟩ := List.mem_iff_getElem?.1 ht
      exact (hlp i t hi2).2
set_option maxRecDepth 100000 in
theorem open_arc {H : Type} {enc : TypeId × Value → H} {w : World} {base : Nat} {v : Value} {d : DataW H} {p : List MemPlace}
    (hok : Value.okWide Tryz.prog w .any base 33 v) (h : DataW.Trod enc Tryz.prog w 0 (fun _ => true) true 33 v d p) (hlt : ∀ x ∈ p, x.block < w.heap.size) (hwt : ∀ n ∈ d.weights Tryz.prog 33, n ≤ reachBytes) :
    ∃ A n cap A2 n2 cap2 a, v = arcV A n cap A2 n2 cap2 ∧ ArcIn w A n A2 n2 a ∧ ArcSz a ∧ n ≤ cap := by
  obtain ⟨cs, rfl, hcs⟩ := okWide_struct Tryz.underlying33 hok
  have hc2 : cs.size = 2 := hcs.trans (by kernel_rfl)
  obtain ⟨v0, v1, rfl⟩ : ∃ v0 v1, cs = #[v0, v1] := by
    obtain ⟨l⟩ := cs
    match l, hc2 with
    | [x, y], _ => exact ⟨x, y, rfl⟩
  obtain ⟨fuel, hf⟩ := h
  have hf : DataW.trod enc Tryz.prog w 0 (fun _ => true) true fuel 33 [v0, v1] = some (d, p) := hf
  obtain ⟨⟨d0, p0⟩, ⟨d1, p1⟩, k, hx, _, t0, t1⟩ := trod_struct2 Tryz.underlying33 hf
  injection hx with hd hp
  subst hd
  subst hp
  have t0 : DataW.trod enc Tryz.prog w 0 (fun _ => true) true k 30 (([v0, v1].drop 0).take (Tryz.prog.cellsOf 30)) = some (d0, p0) := t0
  have t1 : DataW.trod enc Tryz.prog w 0 (fun _ => true) true k 31 (([v0, v1].drop 1).take (Tryz.prog.cellsOf 31)) = some (d1, p1) := t1
  rw [show Tryz.prog.cellsOf 30 = 1 from by kernel_rfl] at t0
  rw [show Tryz.prog.cellsOf 31 = 1 from by kernel_rfl] at t1
  have t0 : DataW.trod enc Tryz.prog w 0 (fun _ => true) true k 30 [v0] = some (d0, p0) := t0
  have t1 : DataW.trod enc Tryz.prog w 0 (fun _ => true) true k 31 [v1] = some (d1, p1) := t1
  have hw0 : ∀ n ∈ d0.weights Tryz.prog 30, n ≤ reachBytes := fun n hn => hwt n (by
    simp only [DataW.weights, Tryz.underlying33]
    exact DataW.weights_mem_each (j := 0) rfl rfl n hn)
  have hw1 : ∀ n ∈ d1.weights Tryz.prog 31, n ≤ reachBytes := fun n hn => hwt n (by
    simp only [DataW.weights, Tryz.underlying33]
    exact DataW.weights_mem_each (j := 1) rfl rfl n hn)
  obtain ⟨A, n, cap, l, rfl, hs, hsz, hn, hnc⟩ := open_strsW t0 (fun x hx => hlt x (by simp [hx])) hw0
  obtain ⟨A2, n2, cap2, l2, rfl, hs2, hsz2, hn2⟩ := open_filsW t1 (fun x hx => hlt x (by simp [hx])) hw1
  exact ⟨A, n, cap, A2, n2, cap2, ⟨l, l2⟩, rfl, ⟨hs, hs2⟩, ⟨by have := hs.1; show l.length ≤ _; omega, by have := hs2.1; show l2.length ≤ _; omega, hsz, hsz2⟩, hnc⟩
end Go.Proofs.YtjpgoeimclipjaaGreat
namespace Go.Proofs.YtjpgoeimclipjaaGreat
open Go.RowKit Go.Lib Pl
theorem S_eq (a b : Bytes) : ((⟨a.toArray⟩ : ByteArray).toList == (⟨b.toArray⟩ : ByteArray).toList) = decide (a = b) := by
  rw [ByteArray.toList_eq, ByteArray.toList_eq]
  simp [Bool.beq_eq_decide_eq]
end Go.Proofs.YtjpgoeimclipjaaGreat
namespace Go.Proofs.YtjpgoeimclipjaaGreat
open Go.RowKit Go.Lib Pl
attribute [local go_sem] ext_list app_list
theorem fil_fields : Tryz.prog.underlying 61 = some (.struct (Tryz.prog.fieldsOf 61)) := by kernel_rfl
theorem fil_stood : Tryz.prog.stoodInHeld 61 = false := by kernel_rfl
theorem fil_guard : Tryz.prog.eqGuardType Tryz.prog.depth 61 = false := by kernel_rfl
theorem run_neq_fil (w : World) (f g : Fil) : (binOp .neq 61 (filV f) (filV g)).run Tryz.prog w = .ok (.bool (!decide (f = g))) w := by
  obtain ⟨a, b, c, d, e⟩ := f
  obtain ⟨a', b', c', d', e'⟩ := g
  rw [run_neq_struct, run_equalIn_agg _ _ _ _ _ fil_fields fil_stood]
  simp only [Program.fieldsOf, Tryz.underlying61]
  have e1 : ∀ (x y : Bytes) w, (Op.equalIn 9999 9 (S x) (S y)).run Tryz.prog w = .ok (decide (x = y)) w := fun x y w => by
    rw [run_equalIn_string w 9998 _ _ _ Tryz.underlying9, S_eq]
  have e2 : ∀ (x y : Int) w, (Op.equalIn 9999 3 (I x) (I y)).run Tryz.prog w = .ok (x == y) w := fun x y w => run_equalIn_int w 9998 _ _ _ x y Tryz.underlying3
  simp [Op.eqFields, part, e1, e2]
  by_cases h1 : a = a' <;> by_cases h2 : b = b' <;> by_cases h3 : c = c' <;> by_cases h4 : d = d' <;> by_cases h5 : e = e' <;> simp [h1, h2, h3, h4, h5]
structure AB2 (A : Option Addr) (n cap : Nat) (A2 : Option Addr) (n2 cap2 : Nat) (a : Arc) (C : Option Addr) (m cap3 : Nat) (C2 : Option Addr) (m2 cap4 : Nat) (c : Arc) (w W : World) (B : Nat) : Prop where
  o : W.heap[B]? = some (.cells #[.slice A n cap, .slice A2 n2 cap2] 33 (0, 0))
  p : W.heap[B + 1]? = some (.cells #[.slice C m cap3, .slice C2 m2 cap4] 33 (0, 0))
  i : ArcIn W A n A2 n2 a
  j : ArcIn W C m C2 m2 c
  bel : Below B w W
theorem AB2.c {A A2 C C2 : Option Addr} {n cap n2 cap2 m cap3 m2 cap4 B : Nat} {a c : Arc} {w W : World} (h : AB2 A n cap A2 n2 cap2 a C m cap3 C2 m2 cap4 c w W B) :
    W.cell? ⟨B, 0, none⟩ = some (.slice A n cap) ∧ W.cell? ⟨B, 1, none⟩ = some (.slice A2 n2 cap2) ∧ W.cell? ⟨B + 1, 0, none⟩ = some (.slice C m cap3) ∧ W.cell? ⟨B + 1, 1, none⟩ = some (.slice C2 m2 cap4) := by
  refine ⟨?_, ?_, ?_, ?_⟩
  · rw [cell_of_row _ _ _ _ _ _ h.o]; rfl
  · rw [cell_of_row _ _ _ _ _ _ h.o]; rfl
  · rw [cell_of_row _ _ _ _ _ _ h.p]; rfl
  · rw [cell_of_row _ _ _ _ _ _ h.p]; rfl
theorem AB2.below {A A2 C C2 : Option Addr} {n cap n2 cap2 m cap3 m2 cap4 B : Nat} {a c : Arc} {w W W' : World} (h : AB2 A n cap A2 n2 cap2 a C m cap3 C2 m2 cap4 c w W B) (hb : Below W.heap.size W W') : AB2 A n cap A2 n2 cap2 a C m cap3 C2 m2 cap4 c w W' B := by
  have h1 := (Array.getElem?_eq_some_iff.1 h.o).1
  have h2 := (Array.getElem?_eq_some_iff.1 h.p).1
  exact ⟨(hb.block _ h1).trans h.o, (hb.block _ h2).trans h.p, h.i.up hb, h.j.up hb, h.bel.trans (hb.mono (Nat.le_of_lt h1))⟩
theorem AB2.new {A A2 C C2 : Option Addr} {n n2 m m2 : Nat} {a c : Arc} {w : World} (h : ArcIn w A n A2 n2 a) (h' : ArcIn w C m C2 m2 c) (cap cap2 cap3 cap4 : Nat) :
    AB2 A n cap A2 n2 cap2 a C m cap3 C2 m2 cap4 c w ((w.alloc (.cells #[.slice A n cap, .slice A2 n2 cap2] 33)).alloc (.cells #[.slice C m cap3, .slice C2 m2 cap4] 33)) w.heap.size :=
  ⟨(Below.heap_alloc _ _ _ (by simp)).trans (heap_alloc_new _ _), by have := heap_alloc_new (w.alloc (.cells #[.slice A n cap, .slice A2 n2 cap2] 33)) (.cells #[.slice C m cap3, .slice C2 m2 cap4] 33); simpa using this, (h.alloc _).alloc _, (h'.alloc _).alloc _, ((Below.refl _ _).alloc (Nat.le_refl _) _).alloc (by simp) _⟩
set_option maxHeartbeats 4000000 in
set_option maxRecDepth 100000 in
theorem sameArchives_any (A : Option Addr) (n cap : Nat) (A2 : Option Addr) (n2 cap2 : Nat) (a : Arc) (C : Option Addr) (m cap3 : Nat) (C2 : Option Addr) (m2 cap4 : Nat) (c : Arc) (w : World) (h : ArcIn w A n A2 n2 a) (h' : ArcIn w C m C2 m2 c) (hn : n ≤ 4611686018427387904) (hn2 : n2 ≤ 4611686018427387904) :
    Calls Tryz.prog 18 #[arcV A n cap A2 n2 cap2, arcV C m cap3 C2 m2 cap4] w fun e w' => e = .returned (.bool (decide (a = c))) ∧ Below w.heap.size w w' := by
  obtain ⟨B, hB⟩ : ∃ B, B = w.heap.size := ⟨_, rfl⟩
  obtain ⟨w0, hw0⟩ : ∃ w0, w0 = (w.alloc (.cells #[.slice A n cap, .slice A2 n2 cap2] 33)).alloc (.cells #[.slice C m cap3, .slice C2 m2 cap4] 33) := ⟨_, rfl⟩
  have H0 := hide (show AB2 A n cap A2 n2 cap2 a C m cap3 C2 m2 cap4 c w w0 B by rw [hw0, hB]; exact AB2.new h h' cap cap2 cap3 cap4)
  have hl1 := h.s.1
  have hl2 := h.f.1
  have hm1 := h'.s.1
  have hm2 := h'.f.1
  obtain ⟨ds, fs⟩ := a
  obtain ⟨es, gs⟩ := c
  simp only at hl1 hl2 hm1 hm2
  obtain ⟨rs, hrs⟩ : ∃ rs, rs = decide ((⟨ds, fs⟩ : Arc) = ⟨es, gs⟩) := ⟨_, rfl⟩
  rw [← hrs, ← hB]
  have HB := hide hB
  have HW0 := hide hw0
  have HRS := hide hrs
  clear hB hw0 h h' hrs
  by_cases hlen : ¬ (n = m ∧ n2 = m2)
  · have hne : rs = false := by
      rw [unhide HRS, decide_eq_false]
      intro e
      injection e with e1 e2
      subst e1; subst e2
      exact hlen ⟨by omega, by omega⟩
    rw [hne]
    have hc : (((n : Int) == (m : Int)) = false ∧ ((n : Int) != (m : Int)) = true) ∨ (((n : Int) == (m : Int)) = true ∧ ((n : Int) != (m : Int)) = false ∧ ((n2 : Int) == (m2 : Int)) = false ∧ ((n2 : Int) != (m2 : Int)) = true) := by
      by_cases e : n = m
      · right
        have : n2 ≠ m2 := fun e2 => hlen ⟨e, e2⟩
        refine ⟨by rw [beq_iff_eq]; omega, by rw [bne_eq_false_iff_eq]; omega, by rw [beq_eq_false_iff_ne]; omega, by rw [bne_iff_ne]; omega⟩
      · left
        exact ⟨by rw [beq_eq_false_iff_ne]; omega, by rw [bne_iff_ne]; omega⟩
    clear hlen hne
    rcases hc with ⟨d1, d2⟩ | ⟨d1, d2, d3, d4⟩
    all_goals
      go_enter Tryz.func18, Tryz.ntmps18
      go_upto_region 1 with fail
      rw [← unhide HW0, ← unhide HB]
      obtain ⟨q0, q1, q2, q3⟩ := (unhide H0).c
      go_wp2_with fail
      go_ret
      exact ⟨rfl, (unhide H0).bel⟩
  obtain ⟨e1, e2⟩ := Decidable.not_not.1 hlen
  subst e1; subst e2
  clear hlen
  have d1 : ((n : Int) == (n : Int)) = true := by simp
  have d2 : ((n : Int) != (n : Int)) = false := by simp
  have d3 : ((n2 : Int) == (n2 : Int)) = true := by simp
  have d4 : ((n2 : Int) != (n2 : Int)) = false := by simp
  go_enter Tryz.func18, Tryz.ntmps18
  go_upto_region 1 with fail
  rw [← unhide HW0, ← unhide HB]
  obtain ⟨q0, q1, q2, q3⟩ := (unhide H0).c
  go_wp2_with fail
  clear q0 q1 q2 q3 d1 d2 d3 d4
  go_loopw [5] (fun iv wr => ∃ k : Nat, k ≤ n ∧ iv = .int .i64 k ∧ ds.take k = es.take k ∧ AB2 A n cap A2 n2 cap2 ⟨ds, fs⟩ C n cap3 C2 n2 cap4 ⟨es, gs⟩ w wr B) (fun iv _ => n - (intOf iv).toNat)
  case atStart => exact ⟨0, Nat.zero_le _, rfl, rfl, unhide H0⟩
  case round =>
    obtain ⟨k, hk, rfl, hs, hAB⟩ := hrel
    have HAB := hide hAB
    obtain ⟨q0, q1, q2, q3⟩ := hAB.c
    by_cases hkn : k < n
    · obtain ⟨b, off, t, rfl, hb, ht, hc⟩ := hAB.i.s.at_ (k := k) hkn
      obtain ⟨b', off', t', rfl, hb', ht', hc'⟩ := hAB.j.s.at_ (k := k) hkn
      have z0 : (0 : Int) ≤ (k : Int) := by omega
      have z1 : (k : Int) < (n : Int) := by omega
      by_cases he : t = t'
      · subst he
        have HS := hide (show ds.take (k + 1) = es.take (k + 1) by
          have h1 : ds[k]? = some t := ht
          have h2 : es[k]? = some t := ht'
          rw [List.take_add_one, List.take_add_one, hs, h1, h2])
        clear ht ht' hs hAB
        go_wp2_with fail
        go_quiet (fail)
        go_wp2_with fail
        go_roundw
        case rel => exact ⟨k + 1, by omega, by go_num, unhide HS, (unhide HAB).below (_root_.Go.below_drewN (Below.refl _ _) _)⟩
        case measure => simp [intOf]; omega
      · have hne : rs = false := by
          rw [unhide HRS, decide_eq_false]
          intro e
          injection e with e1 e2
          have h1 : ds[k]? = some t := ht
          have h2 : es[k]? = some t' := ht'
          rw [e1, h2] at h1
          injection h1 with h1
          exact he h1.symm
        have HN := hide hne
        have d2 : (t != t') = true := by rw [bne_iff_ne]; exact he
        have d3 : (t == t') = false := by rw [beq_eq_false_iff_ne]; exact he
        clear ht ht' hs hAB hne he
        go_wp2_with fail
        go_quiet (fail)
        go_wp2_with fail
        go_ret
        rw [unhide HN]
        exact ⟨rfl, ((unhide HAB).below (_root_.Go.below_drewN (Below.refl _ _) _)).bel⟩
    · have hds : ds = es := by
        rw [List.take_of_length_le (by omega), List.take_of_length_le (by omega)] at hs
        exact hs
      have HDS := hide hds
      have z1 : ¬ (k : Int) < (n : Int) := by omega
      have z2 : decide ((k : Int) < (n : Int)) = false := by simp; omega
      clear hds hs hAB
      go_wp2_with fail
      clear q0 q1 q2 q3
      go_loopw [6] (fun iv wr => ∃ k : Nat, k ≤ n2 ∧ iv = .int .i64 k ∧ fs.take k = gs.take k ∧ AB2 A n cap A2 n2 cap2 ⟨ds, fs⟩ C n cap3 C2 n2 cap4 ⟨es, gs⟩ w wr B) (fun iv _ => n2 - (intOf iv).toNat)
      case atStart => exact ⟨0, Nat.zero_le _, rfl, rfl, unhide HAB⟩
      case round =>
        clear HAB z1 z2 hk hkn
        obtain ⟨j, hj, rfl, hs, hAB⟩ := hrel
        have HAB := hide hAB
        obtain ⟨q0, q1, q2, q3⟩ := hAB.c
        by_cases hjn : j < n2
        · obtain ⟨b, off, f, rfl, hb, hf, x0, x1, x2, x3, x4⟩ := hAB.i.f.at_ (k := j) hjn
          obtain ⟨b', off', g, rfl, hb', hg, y0, y1, y2, y3, y4⟩ := hAB.j.f.at_ (k := j) hjn
          have z0 : (0 : Int) ≤ (j : Int) := by omega
          have z1 : (j : Int) < (n2 : Int) := by omega
          have hgd := fil_guard
          have hq := fun W => run_neq_fil W f g
          obtain ⟨f1, f2, f3, f4, f5⟩ := f
          obtain ⟨g1, g2, g3, g4, g5⟩ := g
          by_cases he : (⟨f1, f2, f3, f4, f5⟩ : Fil) = ⟨g1, g2, g3, g4, g5⟩
          · rw [decide_eq_true he] at hq
            have HS := hide (show fs.take (j + 1) = gs.take (j + 1) by
              have h1 : fs[j]? = some _ := hf
              have h2 : gs[j]? = some _ := hg
              rw [List.take_add_one, List.take_add_one, hs, h1, h2, he])
            clear hf hg hs hAB he
            go_wp2_with fail
            go_quiet (fail)
            go_wp2_with fail
            go_roundw
            case rel => exact ⟨j + 1, by omega, by go_num, unhide HS, (unhide HAB).below (_root_.Go.below_drewN (Below.refl _ _) _)⟩
            case measure => simp [intOf]; omega
          · rw [decide_eq_false he] at hq
            have hne : rs = false := by
              rw [unhide HRS, decide_eq_false]
              intro e
              injection e with e1 e2
              have h1 : fs[j]? = some _ := hf
              have h2 : gs[j]? = some _ := hg
              rw [e2, h2] at h1
              injection h1 with h1
              exact he h1.symm
            have HN := hide hne
            clear hf hg hs hAB hne he
            go_wp2_with fail
            go_quiet (fail)
            go_wp2_with fail
            go_ret
            rw [unhide HN]
            exact ⟨rfl, ((unhide HAB).below (_root_.Go.below_drewN (Below.refl _ _) _)).bel⟩
        · have hfs : fs = gs := by
            rw [List.take_of_length_le (by omega), List.take_of_length_le (by omega)] at hs
            exact hs
          have hy : rs = true := by rw [unhide HRS, decide_eq_true]; rw [hfs, unhide HDS]
          have HY := hide hy
          have z1 : ¬ (j : Int) < (n2 : Int) := by omega
          have z2 : decide ((j : Int) < (n2 : Int)) = false := by simp; omega
          clear hfs hs hAB hy
          go_wp2_with fail
          go_ret
          rw [unhide HY]
          exact ⟨rfl, (unhide HAB).bel⟩
theorem sameArc (A : Option Addr) (n cap : Nat) (A2 : Option Addr) (n2 cap2 : Nat) (C : Option Addr) (m cap3 : Nat) (C2 : Option Addr) (m2 cap4 : Nat) (a : Arc) (w : World) (h : ArcIn w A n A2 n2 a) (h' : ArcIn w C m C2 m2 a) (hd : a.ds.length ≤ 4) (hf : a.fs.length ≤ 12) :
    Calls Tryz.prog 18 #[arcV A n cap A2 n2 cap2, arcV C m cap3 C2 m2 cap4] w fun e w' => e = .returned (.bool true) ∧ Below w.heap.size w w' := by
  have h1 := h.s.1
  have h2 := h.f.1
  have := sameArchives_any A n cap A2 n2 cap2 a C m cap3 C2 m2 cap4 a w h h' (by omega) (by omega)
  rw [decide_eq_true rfl] at this
  exact this
end Go.Proofs.YtjpgoeimclipjaaGreat
