/- Parts of a proof. -/
import Derived.Test.YtjpgoeimclipjaaGreatAg8
import Derived.Maps.OwnSet
import Derived.Maps.OwnOps
import Derived.Maps.Views
import Derived.DeepKeys4
import Derived.Deep.OwnRows
import Derived.Deep.AppendLies
namespace Go.Proofs.YtjpgoeimclipjaaGreat
open Go.RowKit Go.Lib Pl
attribute [local go_sem] ext_list app_list
theorem dbig1_any (t : Bytes) (w : World) (ht : t.length ≤ 9223372036854775807) : Calls Tryz.prog 82 #[S t] w fun e w' => e = .returned (.bool (bigD t)) ∧ w = w' := by
  by_cases h : 256 < t.length
  · have e1 : decide ((t.length : Int) > 256) = true := by simp; omega
    have hb : bigD t = true := by unfold bigD; simpa using h
    rw [hb]
    clear h hb
    go_enter Tryz.func82, Tryz.ntmps82
    go_wp2_with fail
    go_ret
    exact ⟨rfl, rfl⟩
  · have e1 : decide ((t.length : Int) > 256) = false := by simp; omega
    have hb : bigD t = false := by unfold bigD; simpa using h
    rw [hb]
    clear h hb
    go_enter Tryz.func82, Tryz.ntmps82
    go_wp2_with fail
    go_ret
    exact ⟨rfl, rfl⟩
def IdxResD (l : List Bytes) (e : Ending) : Prop := ∃ r : Int, e = .returned (.int .i64 r) ∧ ((0 ≤ r ∧ l.any bigD = true) ∨ (r = -1 ∧ l.any bigD = false))
theorem any_dropD {l : List Bytes} {k : Nat} {t : Bytes} (h : l[k]? = some t) : (l.drop k).any bigD = (bigD t || (l.drop (k + 1)).any bigD) := by
  have hk : k < l.length := (List.getElem?_eq_some_iff.1 h).1
  rw [List.drop_eq_getElem_cons hk, List.any_cons]
  rw [List.getElem?_eq_getElem hk] at h
  injection h with h
  rw [h]
set_option maxHeartbeats 1000000 in
set_option maxRecDepth 100000 in
theorem indexFuncD_any (A : Option Addr) (n cap : Nat) (l : List Bytes) (w : World) (hl : StrsAt w w.heap.size A n l) (hn : n ≤ 4611686018427387904) (hs : ∀ t ∈ l, t.length ≤ 9223372036854775807) :
    Calls Tryz.prog 114 #[.slice A n cap, .func (.func 82) #[] #[]] w fun e w' => IdxResD l e ∧ w = w' := by
  have HS := hide hs
  clear hs
  go_enter Tryz.func114, Tryz.ntmps114
  go_wp2_with fail
  go_loop [5, 8] (fun _ i => ∃ k : Nat, k ≤ n ∧ i = .int .i64 k ∧ l.any bigD = (l.drop k).any bigD) (fun _ i => n - (intOf i).toNat)
  case atStart => exact ⟨0, Nat.zero_le _, rfl, by simp⟩
  case round =>
    obtain ⟨k, hk, rfl, hs⟩ := hrel
    have HA := hide hs
    clear hs
    by_cases hkn : k < n
    · obtain ⟨b, off, t, rfl, hb, ht, q0⟩ := hl.at_ hkn
      have C1 := dbig1_any t w (unhide HS t (List.mem_of_getElem? ht))
      have hd := any_dropD ht
      have HD := hide hd
      clear ht hd
      cases hbt : bigD t with
      | true =>
        rw [hbt] at C1
        have C1 := hide C1
        have HB := hide hbt
        clear hbt
        go_wp2_with fail
        refine (unhide C1).mono ?_
        rintro e w1 ⟨rfl, rfl⟩
        go_wp2_with fail
        go_ret
        exact ⟨⟨_, rfl, .inl ⟨by omega, by rw [unhide HA, unhide HD, unhide HB]; rfl⟩⟩, rfl⟩
      | false =>
        rw [hbt] at C1
        have C1 := hide C1
        have HB := hide hbt
        clear hbt
        go_wp2_with fail
        refine (unhide C1).mono ?_
        rintro e w1 ⟨rfl, rfl⟩
        go_wp2_with fail
        go_round
        case rel => exact ⟨k + 1, by omega, by go_num, by rw [unhide HA, unhide HD, unhide HB]; rfl⟩
        case measure => simp [intOf]; omega
    · have hz : l.any bigD = false := by rw [unhide HA, List.drop_of_length_le (by have := hl.1; omega)]; rfl
      have hk2 : decide ((k : Int) < (n : Int)) = false := by simp; omega
      have HZ := hide hz
      clear hz
      go_wp2_with fail
      go_ret
      exact ⟨⟨_, rfl, .inr ⟨rfl, unhide HZ⟩⟩, rfl⟩
set_option maxHeartbeats 1000000 in
set_option maxRecDepth 100000 in
theorem containsFuncD_any (A : Option Addr) (n cap : Nat) (l : List Bytes) (w : World) (hl : StrsAt w w.heap.size A n l) (hn : n ≤ 4611686018427387904) (hs : ∀ t ∈ l, t.length ≤ 9223372036854775807) :
    Calls Tryz.prog 81 #[.slice A n cap, .func (.func 82) #[] #[]] w fun e w' => e = .returned (.bool (l.any bigD)) ∧ w = w' := by
  have C1 := hide (indexFuncD_any A n cap l w hl hn hs)
  obtain ⟨x, hx⟩ : ∃ x, x = l.any bigD := ⟨_, rfl⟩
  rw [← hx]
  have HX := hide hx
  clear hx hs
  go_enter Tryz.func81, Tryz.ntmps81
  go_wp2_with fail
  refine (unhide C1).mono ?_
  rintro e w1 ⟨⟨r, rfl, hr⟩, rfl⟩
  rcases hr with ⟨h0, h1⟩ | ⟨rfl, h1⟩
  · have hx : x = true := by rw [unhide HX, h1]
    subst hx
    clear h1
    go_wp2_with fail
    go_ret
    exact ⟨rfl, rfl⟩
  · have hx : x = false := by rw [unhide HX, h1]
    subst hx
    clear h1
    go_wp2_with fail
    go_ret
    exact ⟨rfl, rfl⟩
end Go.Proofs.YtjpgoeimclipjaaGreat
namespace Go.Proofs.YtjpgoeimclipjaaGreat
open Go.RowKit Go.Lib Pl
theorem readS_none {l : List Int} {b : Bytes} {n : Int} (h : readE l b n ≠ 0) : readS l b n = [] := by unfold readS; rw [if_pos h]
theorem and15i (c : UInt8) : bits .and .i64 (c.toNat : Int) 15 = ((c.toNat % 16 : Nat) : Int) := by
  have h : ∀ y : Fin 256, bits .and .i64 (y.val : Int) 15 = ((y.val % 16 : Nat) : Int) := by decide +kernel
  exact h ⟨c.toNat, c.toNat_lt⟩
theorem and15ihi (c : UInt8) : bits .and .i64 ((c.toNat : Int) / 16) 15 = ((c.toNat / 16 : Nat) : Int) := by
  have h : ∀ y : Fin 256, bits .and .i64 ((y.val : Int) / 16) 15 = ((y.val / 16 : Nat) : Int) := by decide +kernel
  exact h ⟨c.toNat, c.toNat_lt⟩
/-- the first so many of some numbers, the others 0 -/
def firstL (L : List Int) (k : Nat) : List Int := Lf fun i => if i < k then L.getD i 0 else 0
theorem firstL_zero (L : List Int) : firstL L 0 = Lf fun _ => 0 := Lf_congr fun i _ => if_neg (by omega)
theorem firstL_all {L : List Int} (h : L.length = 16) : firstL L 16 = L := by
  unfold firstL Lf
  refine List.ext_getElem? fun i => ?_
  by_cases hi : i < 16
  · rw [List.getElem?_map, List.getElem?_range hi]
    simp only [Option.map_some, hi, if_true]
    rw [List.getD_eq_getElem?_getD, List.getElem?_eq_getElem (by omega)]
    rfl
  · rw [List.getElem?_eq_none (by simp; omega), List.getElem?_eq_none (by omega)]
theorem firstL_next {L : List Int} {k : Nat} {x : Int} (h : L[k]? = some x) : (firstL L k).set k x = firstL L (k + 1) := by
  unfold firstL
  rw [Lf_set]
  refine Lf_congr fun i _ => ?_
  by_cases e : i = k
  · subst e; rw [if_pos rfl, if_pos (by omega), List.getD_eq_getElem?_getD, h]; rfl
  · rw [if_neg e]
    by_cases h1 : i < k
    · rw [if_pos h1, if_pos (by omega)]
    · rw [if_neg h1, if_neg (by omega)]
theorem firstL_len (L : List Int) (k : Nat) : (firstL L k).length = 16 := Lf_len _
/-- what a function tells that has a text or an error -/
def TextRes (o : Option Bytes) (e : Ending) : Prop := (∃ t, o = some t ∧ e = .returned (.tuple #[S t, I 0])) ∨ (∃ k : Nat, o = none ∧ k ≠ 0 ∧ e = .returned (.tuple #[S [], I (k : Int)]))
end Go.Proofs.YtjpgoeimclipjaaGreat
namespace Go.Proofs.YtjpgoeimclipjaaGreat
open Go.RowKit Go.Lib Pl Go.ChangeMaps Go.MapKept Go.ChangeShapes
open Go.Maps (Keyed IsMap atKey_put_same atKey_put_other has_put_same has_put_other)
theorem laidOutP : laidOutB Tryz.prog = true := by kernel_rfl
theorem rowW : (213 : TypeId) < Tryz.prog.types.size := of_decide_eq_true (by kernel_rfl)
theorem wideW : (match Tryz.prog.underlying 213 with | some (.array _ _) | some (.struct _) => true | _ => false) = true := by kernel_rfl
theorem keyAtW : Tryz.prog.keyTypeAt 2 213 = true := by kernel_rfl
set_option maxRecDepth 100000 in
theorem keyedW : Keyed Tryz.prog 213 := Keyed.of_law (deep_law_laid laidOutP (m := 2) (by omega) rowW keyAtW wideW)
theorem keyTypeW : Tryz.prog.keyType 213 = true := by kernel_rfl
theorem cellsOfW : Tryz.prog.cellsOf 213 = 2 := by kernel_rfl
theorem typesW : ∃ n, Tryz.prog.types.size = n + 1 := Nat.exists_eq_succ_of_ne_zero (Nat.ne_of_gt (Nat.lt_of_le_of_lt (Nat.zero_le _) rowW))
theorem cellsOfInt : Tryz.prog.cellsOf 3 = 1 := by kernel_rfl
theorem formedW (a s : Int) : (Value.agg #[.int .i64 a, .int .i64 s]).formed Tryz.prog 213 = true := by
  simp [Value.formed, Tryz.underlying213, cellsOfW]
theorem keyW {a s : Nat} (ha : a ≤ 1000000000) (hs : s ≤ 1000000000) : ∃ kl, keyOf Tryz.prog 213 (.agg #[I a, I s]) = some kl := by
  have w1 : (Lit.int .i64 (a : Int)).wf = true := WalkArith.wf_i64 ⟨by omega, by omega⟩
  have w2 : (Lit.int .i64 (s : Int)).wf = true := WalkArith.wf_i64 ⟨by omega, by omega⟩
  obtain ⟨n, hn⟩ := typesW
  refine ⟨.string (keyBytes [.int .i64 a, .int .i64 s]), ?_⟩
  unfold keyOf
  rw [Tryz.underlying213]
  simp only [keyTypeW, formedW, Bool.and_self, if_true, hn]
  simp [Program.keyLits, Tryz.underlying213, Tryz.underlying3, cellsOfW, cellsOfInt, Value.cells, w1, w2]
theorem key_ne {a s a' s' : Nat} {kl kl' : Lit} (h : keyOf Tryz.prog 213 (.agg #[I a, I s]) = some kl) (h' : keyOf Tryz.prog 213 (.agg #[I a', I s']) = some kl') (hne : (a, s) ≠ (a', s')) : kl ≠ kl' := by
  intro e
  subst e
  have := keyedW.inj h h'
  simp at this
  exact hne (by rw [Prod.ext_iff]; exact ⟨by omega, by omega⟩)
theorem zero_intW (w : World) : (zeroValue 3).run Tryz.prog w = .ok (.int .i64 0) w := by kernel_rfl
/-- Block b is a map of at most n words that reads as g. -/
def WordMap (w : World) (b n : Nat) (g : Nat × Nat → Option Nat) : Prop :=
  ∃ D : DataW Unit, w.ownsMap Tryz.prog 213 (plainElem Tryz.prog 3) b n D ∧ IsMap D ∧ ∀ a s : Nat, a ≤ 1000000000 → s ≤ 1000000000 → ∀ kl, keyOf Tryz.prog 213 (.agg #[I a, I s]) = some kl → Maps.has D kl = (g (a, s)).isSome ∧ D.atKey kl (.lit (.int .i64 0)) = .lit (.int .i64 ((g (a, s)).getD 0))
theorem WordMap.made (w : World) : WordMap (w.alloc (.map #[] 0)) w.heap.size 0 fun _ => none :=
  ⟨.map [], World.ownsMap_made _ _ _ _, Go.Maps.isMap_empty, fun _ _ _ _ _ _ => ⟨rfl, rfl⟩⟩
theorem WordMap.lt {w : World} {b n : Nat} {f : Nat × Nat → Option Nat} (h : WordMap w b n f) : b < w.heap.size := by
  obtain ⟨D, ho, r⟩ := h
  exact ho.lt
theorem WordMap.keep {w w' : World} {b n : Nat} {f : Nat × Nat → Option Nat} (h : WordMap w b n f) (hb : w'.heap[b]? = w.heap[b]?) : WordMap w' b n f := by
  obtain ⟨D, ⟨es, clock, h1, r⟩, r2⟩ := h
  exact ⟨D, ⟨es, clock, hb.trans h1, r⟩, r2⟩
def updW (g : Nat × Nat → Option Nat) (p s c : Nat) (q : Nat × Nat) : Option Nat := if q = (p, s) then some c else g q
set_option maxRecDepth 100000 in
/-- m[k] = v -/
theorem wpList_putW {w : World} {ops : Array Oper} {rest : List Oper} {o : Oper} {a : Act} {Q : Exit → Act → World → Prop}
    (hg : o.guard = none) (m x v : Operand) (hop : o.op = Op.mapUpdate 247 m x v) (b n : Nat) (g : Nat × Nat → Option Nat)
    (hm : a.eval m = .map (some b)) (h : WordMap w b n g) (p s c : Nat) (hx : a.eval x = .agg #[I p, I s]) (hp : p ≤ 1000000000) (hs : s ≤ 1000000000) (hv : a.eval v = I c) (hc : c ≤ 1000000000) (hn : n ≤ 1000000000)
    (hK : ∀ w', WordMap w' b (n + 1) (updW g p s c) → w.grownBy w' (some b) → wpList Tryz.prog ops Q rest (a.put o.dst undef) w') : wpList Tryz.prog ops Q (o :: rest) a w := by
  obtain ⟨D, ho, hD, hr⟩ := h
  have hwf : (Lit.int .i64 (c : Int)).wf = true := WalkArith.wf_i64 ⟨by omega, by omega⟩
  obtain ⟨kl, hkl⟩ := keyW hp hs
  refine wpList_mapUpdate_own w hg m x v _ hop 213 3 keyedW Tryz.underlying247 (plainElem Tryz.prog 3) b n D hm ho (by unfold maxLen; omega) _ _ _ hx hv hkl _ [] (plainElem_int Tryz.underlying3 hwf) ?_
  intro w' h1 h2
  refine hK w' ⟨_, h1, hD.put _ _, fun a' s' ha' hs' kl' hkl' => ?_⟩ h2
  unfold updW
  by_cases hq : (a', s') = (p, s)
  · rw [if_pos hq]
    obtain ⟨rfl, rfl⟩ := Prod.ext_iff.1 hq
    have : kl' = kl := by rw [hkl] at hkl'; injection hkl' with e; exact e.symm
    subst this
    exact ⟨has_put_same hD (keyedW.key hkl) _, atKey_put_same hD (keyedW.key hkl) _ _⟩
  · rw [if_neg hq]
    have hne := key_ne hkl' hkl hq
    rw [has_put_other hne, atKey_put_other hne]
    exact hr a' s' ha' hs' kl' hkl'
set_option maxRecDepth 100000 in
/-- v, ok := m[k] -/
theorem wpList_lookW {w : World} {ops : Array Oper} {rest : List Oper} {o : Oper} {a : Act} {Q : Exit → Act → World → Prop}
    (hg : o.guard = none) (m x : Operand) (hop : o.op = Op.lookup 247 m x true) (b n : Nat) (g : Nat × Nat → Option Nat)
    (hm : a.eval m = .map (some b)) (h : WordMap w b n g) (p s : Nat) (hx : a.eval x = .agg #[I p, I s]) (hp : p ≤ 1000000000) (hs : s ≤ 1000000000)
    (hK : wpList Tryz.prog ops Q rest (a.put o.dst (.tuple #[I ((g (p, s)).getD 0), .bool (g (p, s)).isSome])) w) : wpList Tryz.prog ops Q (o :: rest) a w := by
  obtain ⟨D, ho, hD, hr⟩ := h
  obtain ⟨kl, hkl⟩ := keyW hp hs
  obtain ⟨h1, h2⟩ := hr p s hp hs kl hkl
  refine wpList_plain hg fun K' hK' => ?_
  obtain ⟨v, ps, hrun, hv⟩ := ho.look_ok keyedW Tryz.underlying247 (zero_intW w) (plainElem_int Tryz.underlying3 (by decide)) hkl
  obtain ⟨c, rfl, hc, _⟩ := plainElem_int_inv Tryz.underlying3 hv
  simp only [Prod.mk.injEq] at hc
  rw [h2] at hc
  have hc2 := hc.1
  injection hc2 with hc2; injection hc2 with _ hc2
  subst hc2
  rw [h1] at hrun
  unfold Oper.wp
  simp [execOp, hop, hm, hx, hrun, Result.andThen]
  exact hK' _ _ hK
/-- the signs of the first so many words -/
def signOf (l : List Int) : Nat → Nat × Nat → Option Nat
  | 0, _ => none
  | k + 1, q => if 0 < ln l k then (if q = (wv l k, ln l k) then some k else signOf l k q) else signOf l k q
theorem signOf_some {l : List Int} {q : Nat × Nat} {x : Nat} : ∀ {k : Nat}, signOf l k q = some x → x < k ∧ 0 < ln l x ∧ q = (wv l x, ln l x)
  | 0, h => by simp [signOf] at h
  | k + 1, h => by
    rw [signOf] at h
    by_cases h0 : 0 < ln l k
    · rw [if_pos h0] at h
      by_cases h1 : q = (wv l k, ln l k)
      · rw [if_pos h1] at h
        injection h with h; subst h
        exact ⟨by omega, h0, h1⟩
      · rw [if_neg h1] at h
        obtain ⟨a, b⟩ := signOf_some h
        exact ⟨by omega, b⟩
    · rw [if_neg h0] at h
      obtain ⟨a, b⟩ := signOf_some h
      exact ⟨by omega, b⟩
theorem signOf_none {l : List Int} {q : Nat × Nat} : ∀ {k : Nat}, signOf l k q = none → ∀ x, x < k → 0 < ln l x → q ≠ (wv l x, ln l x)
  | 0, _, x, hx, _ => absurd hx (by omega)
  | k + 1, h, x, hx, h0 => by
    rw [signOf] at h
    by_cases e : x = k
    · subst e
      rw [if_pos h0] at h
      intro e2
      rw [if_pos e2] at h; cases h
    · refine signOf_none (k := k) ?_ x (by omega) h0
      by_cases h1 : 0 < ln l k
      · rw [if_pos h1] at h
        by_cases h2 : q = (wv l k, ln l k)
        · rw [if_pos h2] at h; cases h
        · rw [if_neg h2] at h; exact h
      · rw [if_neg h1] at h; exact h
end Go.Proofs.YtjpgoeimclipjaaGreat
namespace Go.Proofs.YtjpgoeimclipjaaGreat
open Go.RowKit Go.Lib Pl
attribute [local go_sem] ext_list app_list
theorem CodeAt.keep {l : List Int} {w wr w1 : World} {B g M : Nat} (h : CodeAt l w wr B g) (hB : B < M) (hg : g < M) (hb : Below M wr w1) : CodeAt l w w1 B g :=
  ⟨(hb.block B hB).trans h.a, (hb.block g hg).trans h.o, h.bel.trans (hb.mono (by omega))⟩
theorem unpack_take {b : Bytes} {k : Nat} {c : UInt8} (h : b[k]? = some c) : unpackB (b.take (k + 1)) = unpackB (b.take k) ++ bt c.toNat 8 := by
  rw [List.take_add_one, h, unpackB_app]; simp [unpackB]
theorem slice_end (x : Bytes) (m : Nat) : slice x m x.length = x.drop m := by unfold slice; rw [List.take_length]
/-- a row that is not empty -/
theorem row_some {w : World} {base n : Nat} {e : TypeId} {v : Value} {xs : List Value} (h : w.ownsRow base e 1 v (n + 1) xs) : ∃ g cap, v = .slice (some ⟨g, 0, none⟩) ((n + 1 : Nat)) cap := by
  rcases h.2 with ⟨_, h0⟩ | ⟨g, cap, cur, hv, _⟩
  · exact absurd h0 (by omega)
  · exact ⟨g, cap, hv⟩
theorem row_ge {w : World} {base n cap g : Nat} {e : TypeId} {xs : List Value} (h : w.ownsRow base e 1 (.slice (some ⟨g, 0, none⟩) n cap) n xs) : base ≤ g := (h.lt g rfl).1
theorem row_last {w : World} {base n cap g j : Nat} {e : TypeId} {h0 : Bytes} {c : UInt8} (h : w.ownsRow base e 1 (.slice (some ⟨g, 0, none⟩) n cap) n ((h0 ++ [c]).map B)) (hj : h0.length = j) : w.cell? ⟨g, j, none⟩ = some (.int .u8 (c.toNat : Int)) := by
  have hl := h.1
  simp at hl
  rw [h.cellAt j (by omega)]
  subst hj
  simp [B]
theorem row_set {w : World} {base n cap g j : Nat} {e : TypeId} {h0 : Bytes} {c d : UInt8} {x : Int} (h : w.ownsRow base e 1 (.slice (some ⟨g, 0, none⟩) n cap) n (((h0 ++ [c]).map B).set j (.int .u8 x))) (hj : h0.length = j) (hd : (d.toNat : Int) = x) :
    w.ownsRow base e 1 (.slice (some ⟨g, 0, none⟩) n cap) n ((h0 ++ [d]).map B) := by
  subst hj; subst hd
  have e : ((h0 ++ [c]).map B).set h0.length (.int .u8 (d.toNat : Int)) = (h0 ++ [d]).map B := by simp [B]
  rw [e] at h; exact h
theorem bits_8 (n : Nat) (w : World) (hn : n < 256) :
    Calls Tryz.prog 138 #[I n, .int .i64 8] w fun e w' => e = .returned (S (bstr (bt n 8))) ∧ Below w.heap.size w w' :=
  bits_any 8 n w (by decide) (Nat.le_trans (Nat.le_of_lt hn) (by decide))
attribute [local go_sem ↓] concat_list in
set_option maxHeartbeats 8000000 in
set_option maxRecDepth 100000 in
theorem readCode_any (l : List Int) (b : Bytes) (n : Int) (w : World) (hl : l.length = 16) (hb : b.length ≤ 4611686018427387904) (hn1 : -9223372036854775808 ≤ n) (hn2 : n ≤ 9223372036854775807) :
    Calls Tryz.prog 116 #[A16 l, S b, .int .i64 n] w fun e w' => e = .returned (.tuple #[S (readS l b n), I (readE l b n)]) ∧ Below w.heap.size w w' := by
  have hz := zero16s
  obtain ⟨B0, hB⟩ : ∃ B0, B0 = w.heap.size := ⟨_, rfl⟩
  obtain ⟨w0, hw0⟩ : ∃ w0, w0 = w.alloc (.cells (cells16 l) 145) := ⟨_, rfl⟩
  have hx0 : BoxAt l w w0 B0 := by rw [hw0, hB]; exact BoxAt.boxed l w
  have CK := checkCodeR_any l w0 hl
  obtain ⟨e0, he0⟩ : ∃ e0, e0 = checkE l := ⟨_, rfl⟩
  rw [← he0] at CK
  have CK := hide CK
  have HE0 := hide he0
  have HB := hide hB
  have HW0 := hide hw0
  have HX0 := hide hx0
  have HL := hide hl
  clear he0 hB hw0 hx0 hl
  go_enter Tryz.func116, Tryz.ntmps116
  by_cases h0 : e0 = 0
  · subst h0
    have HR := hide (right_of (unhide HL) (unhide HE0).symm)
    by_cases hn : n < 0 ∨ 1024 < n
    · have C1 := hide (fun (W : World) => within_no n 0 1024 W (by omega))
      have HN := hide hn
      clear hn
      go_wp2_with (first
        | (refine wpList_load16 rfl (.tmp 3) rfl B0 (by rw [unhide HB]; rfl) l (unhide HL) (by rw [← unhide HW0]; exact (unhide HX0).a) ?_; rw [← unhide HW0, ← unhide HB])
        | (go_at_call 137; refine (unhide CK).mono ?_; rintro e w1 ⟨rfl, hb1⟩; have HX1 := hide ((unhide HX0).below hb1); clear hb1)
        | (go_at_call 78; refine (unhide C1 _).mono ?_; rintro e w2 ⟨rfl, rfl⟩))
      go_ret2
      obtain ⟨e1, e2⟩ := readE_range (b := b) (unhide HE0).symm (unhide HN)
      rw [e1, e2, ← unhide HB]
      exact ⟨rfl, (unhide HX1).bel⟩
    · have C1 := hide (fun (W : World) => within_yes n 0 1024 W ⟨by omega, by omega⟩)
      have HN := hide hn
      obtain ⟨N, rfl⟩ := Int.eq_ofNat_of_zero_le (show 0 ≤ n by omega)
      have hN : N ≤ 1024 := by omega
      clear hn hn1 hn2
      by_cases hlong : 4 * N < b.length
      · have hd1 : 4 * (N : Int) < (b.length : Int) := by omega
        have hres : readE l b N = 1 ∧ readS l b N = [] := by
          cases hd : decN l (2 * N) (unpackB b) with
          | none => exact readE_none (unhide HE0).symm (unhide HN) hd
          | some q => obtain ⟨ks, r⟩ := q; exact readE_left (unhide HE0).symm (unhide HN) hd (dec_long (unhide HR) hlong hd)
        have HRES := hide hres
        clear hres hlong
        go_wp2_with (first
          | (refine wpList_load16 rfl (.tmp 3) rfl B0 (by rw [unhide HB]; rfl) l (unhide HL) (by rw [← unhide HW0]; exact (unhide HX0).a) ?_; rw [← unhide HW0, ← unhide HB])
          | (go_at_call 137; refine (unhide CK).mono ?_; rintro e w1 ⟨rfl, hb1⟩; have HX1 := hide ((unhide HX0).below hb1); clear hb1)
          | (go_at_call 78; refine (unhide C1 _).mono ?_; rintro e w2 ⟨rfl, rfl⟩))
        go_ret2
        rw [(unhide HRES).1, (unhide HRES).2, ← unhide HB]
        exact ⟨rfl, (unhide HX1).bel⟩
      · have hd1 : (b.length : Int) ≤ 4 * (N : Int) := by omega
        have hb4 : b.length ≤ 4096 := by omega
        clear hlong hb
        go_wp2_with (first
          | (refine wpList_load16 rfl (.tmp 3) rfl B0 (by rw [unhide HB]; rfl) l (unhide HL) (by rw [← unhide HW0]; exact (unhide HX0).a) ?_; rw [← unhide HW0, ← unhide HB])
          | (go_at_call 137; refine (unhide CK).mono ?_; rintro e w1 ⟨rfl, hb1⟩; have HX1 := hide ((unhide HX0).below hb1); clear hb1)
          | (go_at_call 78; refine (unhide C1 _).mono ?_; rintro e w2 ⟨rfl, rfl⟩))
        go_loopw [9, 10] (fun a i wr => ∃ k : Nat, k ≤ b.length ∧ i = .int .i64 k ∧ a = S (bstr (unpackB (b.take k))) ∧ BoxAt l w wr B0) (fun _ i _ => b.length - (intOf i).toNat)
        case atStart => exact ⟨0, by omega, rfl, rfl, unhide HX1⟩
        case round =>
          obtain ⟨k, hk, rfl, rfl, hx⟩ := hrel
          have HXR := hide hx
          clear hx
          by_cases hkb : k < b.length
          · obtain ⟨c, hcc⟩ : ∃ c, (⟨b.toArray⟩ : ByteArray)[k]'hkb = c := ⟨_, rfl⟩
            have hbc : b[k]? = some c := by rw [List.getElem?_eq_getElem hkb]; exact congrArg some hcc
            have hnx := unpack_take hbc
            have hc256 : c.toNat < 256 := c.toNat_lt
            have C2 := hide (fun (W : World) => bits_8 c.toNat W c.toNat_lt)
            obtain ⟨bx, hbx⟩ : ∃ bx, bx = bstr (unpackB (b.take k)) := ⟨_, rfl⟩
            obtain ⟨by', hby⟩ : ∃ by', by' = bstr (bt c.toNat 8) := ⟨_, rfl⟩
            have hl1 : bx.length ≤ 100000 := by rw [hbx, bstr_len, unpackB_len, List.length_take]; omega
            have hl2 : by'.length ≤ 100 := by rw [hby, bstr_len, bt_len]; omega
            have k1 : bx.length + by'.length ≤ 9223372036854775807 := by omega
            have hall : bstr (unpackB (b.take (k + 1))) = bx ++ by' := by rw [hnx, bstr_app, hbx, hby]
            rw [← hby] at C2
            rw [← hbx]
            have HALL := hide hall
            clear hbc hnx hbx hby hall
            go_wp2_with (go_at_call 138; refine (unhide C2 _).mono ?_; rintro e w3 ⟨rfl, hb3⟩; have HX3 := hide ((unhide HXR).below hb3); clear hb3)
            go_roundw
            case rel => exact ⟨k + 1, by omega, by go_num, by rw [unhide HALL], unhide HX3⟩
            case measure => simp [intOf]; omega
          · have hk' : k = b.length := by omega
            subst hk'
            rw [List.take_length]
            go_wp2_with (first
              | (refine wpList_load16 rfl (.tmp 3) rfl B0 rfl l (unhide HL) (unhide HXR).a ?_)
              | (go_at_call 139; refine (refWords_any l _ (unhide HR)).mono ?_; rintro e w4 ⟨rfl, hb4⟩; have HX4 := hide ((unhide HXR).below hb4); clear hb4)
              | (refine wpList_store_row rfl 178 (.tmp 11) (.tmp 44) rfl w4.heap.size _ rfl rfl 178 _ (heap_alloc_new _ _) (by rw [size16s, cellsS_size]) (by rw [cellsS_size, cellsS_size]) (cellsS_one _) ?_; obtain ⟨w5, hw5⟩ : ∃ w5, w5 = (w4.alloc (.cells (cellsS fun _ => []) 178)).setRow w4.heap.size (cellsS fun j => bstr (wordB l j)) := ⟨_, rfl⟩; obtain ⟨g, hg⟩ : ∃ g, g = w4.heap.size := ⟨_, rfl⟩; have HC5 := hide (CodeAt.made (unhide HX4)); rw [← hw5, ← hg] at HC5; rw [← hw5, ← hg]; clear hw5 hg))
            obtain ⟨M, hM⟩ : ∃ M, M = w5.heap.size := ⟨_, rfl⟩
            have hBM : B0 < M := by rw [hM]; exact (Array.getElem?_eq_some_iff.1 (unhide HC5).a).1
            have hgM : g < M := by rw [hM]; exact (Array.getElem?_eq_some_iff.1 (unhide HC5).o).1
            have hM1 : M ≤ w5.heap.size := by omega
            clear hM
            obtain ⟨i0, hi, hz0, hz1, hz2⟩ := info_parts info_u8
            go_loopw [9, 12, 13, 14] (fun a v i _ wq => ∃ (q n : Nat) (ks : List Nat) (R : List Bool), i = .int .i64 q ∧ a = S (bstr R) ∧ DecAt l (unpackB b) (2 * N) q ks R ∧ wq.ownsRow M 5 1 v n ((half ks).map B) ∧ CodeAt l w wq B0 g ∧ M ≤ wq.heap.size) (fun _ _ i _ _ => 2 * N - (intOf i).toNat)
            case atStart => exact ⟨0, 0, [], unpackB b, rfl, rfl, DecAt.start l _ _, World.ownsRow_nil _ _ _ _, unhide HC5, hM1⟩
            case round =>
              obtain ⟨q, n, ks, R, rfl, rfl, hdec, hown, hc, hsz⟩ := hrel
              have hqN := hdec.le
              have HDEC := hide hdec
              have HC := hide hc
              have hkn : (half ks).length = n := by have := hown.1; simpa using this
              have hn2 : n = (q + 1) / 2 := by rw [← hkn, half_len, hdec.len]
              obtain ⟨bs, hbs⟩ : ∃ bs, bs = bstr R := ⟨_, rfl⟩
              have hRl : R.length ≤ 40000 := by
                have := hdec.short
                rw [unpackB_len] at this; omega
              have hbl : bs.length ≤ 40000 := by rw [hbs, bstr_len]; exact hRl
              by_cases hq : q < 2 * N
              · have C3 := fun (W : World) => front_any l R W (unhide HR) (by omega)
                have d1 : (q : Int) < 2 * (N : Int) := by omega
                cases hf : frontP l R with
                | none =>
                  have hdn := hdec.none hq hf
                  have hfi : frontI l R = -1 := by unfold frontI; rw [hf]
                  rw [hfi] at C3
                  have C3 := hide C3
                  have HDN := hide hdn
                  clear hdec hc hf hdn hfi hkn hn2 hbs
                  go_wp2_with (first
                    | (refine wpList_load16 rfl (.tmp 3) rfl B0 rfl l (unhide HL) (unhide HC).a ?_)
                    | (refine wpList_load_row rfl 178 (.tmp 11) rfl g rfl 178 _ (0, 0) _ (unhide HC).o Tryz.underlying178 rfl (by rw [size16s, cellsS_size]) ?_)
                    | (go_at_call 140; refine (unhide C3 _).mono ?_; rintro e w6 ⟨rfl, hb6⟩; have HC6 := hide ((unhide HC).below hb6); clear hb6))
                  go_ret2
                  obtain ⟨e1, e2⟩ := readE_none (unhide HE0).symm (unhide HN) (unhide HDN)
                  rw [e1, e2, ← unhide HB]
                  exact ⟨rfl, (unhide HC6).bel⟩
                | some k =>
                  obtain ⟨hk16, hk0, hkp⟩ := front_some hf
                  have hfi : frontI l R = (k : Int) := by unfold frontI; rw [hf]
                  rw [hfi] at C3
                  have hst := hdec.step hq hf
                  have hml : ln l k ≤ bs.length := by
                    obtain ⟨t, ht⟩ := hkp
                    rw [hbs, bstr_len, ← ht, List.length_append, wordB_len]; omega
                  have hsl : slice bs (ln l k) bs.length = bstr (R.drop (ln l k)) := by rw [slice_end, hbs]; exact (List.map_drop ..).symm
                  have hksf := hdec.fine
                  have hkl := hdec.len
                  rw [← hbs] at C3
                  rw [← hbs]
                  obtain ⟨m, hm⟩ : ∃ m, m = ln l k := ⟨_, rfl⟩
                  rw [← hm] at hml hsl
                  have C3 := hide C3
                  have HST := hide hst
                  have HSL := hide hsl
                  have HM := hide hm
                  by_cases hpar : q % 2 = 0
                  · have p1 : (q : Int).tmod 2 = 0 := by rw [Int.tmod_eq_emod_of_nonneg (by omega)]; omega
                    have hev := half_even (ks := ks) (by omega) k
                    have HEV := hide hev
                    have hnb : n ≤ 5000 := by omega
                    clear hdec hc hf hkp hfi hst hsl hm hksf hkl hkn hbs hev hn2
                    go_wp2_with (first
                      | (refine wpList_load16 rfl (.tmp 3) rfl B0 rfl l (unhide HL) (unhide HC).a ?_)
                      | (refine wpList_load_row rfl 178 (.tmp 11) rfl g rfl 178 _ (0, 0) _ (unhide HC).o Tryz.underlying178 rfl (by rw [size16s, cellsS_size]) ?_)
                      | (go_at_call 140; (refine (unhide C3 _).mono ?_; rintro e w6 ⟨rfl, hb6⟩; have HC6 := hide ((unhide HC).below hb6); have hown6 := own_below hown hb6; have hsz6 : M ≤ w6.heap.size := Nat.le_trans hsz hb6.size; have hc1 := (unhide HC6).len (unhide HR) hk16; rw [← unhide HM] at hc1; clear hb6))
                      | (at_builtin; refine wpList_push rfl _ _ _ rfl M 5 i0 _ 1 Tryz.underlying77 hi hz0 hz1 hz2 rfl _ _ _ rfl hown6 _ _ rfl rfl ?_ ?_ hsz6 ?_; (unfold maxLen; omega); omega; intro v' w' hown' hb hg; have HC7 := hide ((unhide HC6).keep hBM hgM hb); have hsz7 : M ≤ w'.heap.size := Nat.le_trans hsz6 hb.size; have hown7 := own_byte (UInt8.ofNat (16 * k)) hown' (by rw [ofNat_toNat (by omega)]; omega); rw [← unhide HEV] at hown7; clear hown' hb hg))
                    go_roundw
                    case rel => exact ⟨q + 1, n + 1, ks ++ [k], R.drop (ln l k), by go_num, by rw [unhide HSL, unhide HM], unhide HST, hown7, unhide HC7, hsz7⟩
                    case measure => simp [intOf]; omega
                  · have p1 : (q : Int).tmod 2 = 1 := by rw [Int.tmod_eq_emod_of_nonneg (by omega)]; omega
                    obtain ⟨h0, x, hx16, hh1, hh2, hh3⟩ := half_odd (ks := ks) (by omega) (fun k hk => (hksf k hk).1) k
                    have hj : h0.length = q / 2 := by rw [hh3, hkl]
                    obtain ⟨j, hjj⟩ : ∃ j, j = q / 2 := ⟨_, rfl⟩
                    rw [← hjj] at hj
                    obtain ⟨n', hn'⟩ : ∃ n', n = n' + 1 := ⟨n - 1, by omega⟩
                    subst hn'
                    obtain ⟨g2, cap, rfl⟩ := row_some hown
                    have hjn : j < n' + 1 := by omega
                    have hj5 : j ≤ 5000 := by omega
                    have hjn2 : (j : Int) < (n' : Int) + 1 := by omega
                    have hjn3 : (j : Int) < ((n' + 1 : Nat) : Int) := by omega
                    have q1 : (q : Int).tdiv 2 = (j : Int) := by rw [Int.tdiv_eq_ediv_of_nonneg (by omega)]; omega
                    have q2 : IntKind.i64.wrap ((q : Int) / 2) = (j : Int) := by
                      have e : (q : Int) / 2 = (j : Int) := by omega
                      rw [e]; exact IntWalk.i64_in _ ⟨by omega, by omega⟩
                    rw [hh1] at hown
                    have hx2 : ((UInt8.ofNat (16 * x)).toNat : Int) = 16 * (x : Int) := by rw [ofNat_toNat (by omega)]; omega
                    obtain ⟨bx, hbx⟩ : ∃ bx, bx = UInt8.ofNat (16 * x) := ⟨_, rfl⟩
                    rw [← hbx] at hown hx2
                    have HH2 := hide hh2
                    have HX2 := hide hx2
                    have HJ := hide hj
                    have hgM2 : M ≤ g2 := row_ge hown
                    clear hdec hc hf hkp hfi hst hsl hm hksf hkl hkn hbs hh1 hh2 hh3 hj hjj hbx hx2 hn2
                    go_wp2_with (first
                      | (refine wpList_load16 rfl (.tmp 3) rfl B0 rfl l (unhide HL) (unhide HC).a ?_)
                      | (refine wpList_load_row rfl 178 (.tmp 11) rfl g rfl 178 _ (0, 0) _ (unhide HC).o Tryz.underlying178 rfl (by rw [size16s, cellsS_size]) ?_)
                      | (go_at_call 140; refine (unhide C3 _).mono ?_; rintro e w6 ⟨rfl, hb6⟩; have HC6 := hide ((unhide HC).below hb6); have hown6 := own_below hown hb6; have hsz6 : M ≤ w6.heap.size := Nat.le_trans hsz hb6.size; have hc1 := (unhide HC6).len (unhide HR) hk16; rw [← unhide HM] at hc1; have hc2 : w6.cell? ⟨g2, j, none⟩ = some (.int .u8 (16 * (x : Int))) := (row_last hown6 (unhide HJ)).trans (by rw [← unhide HX2]); have hc3 := hown6.frozenAt j; clear hb6))
                    go_roundw
                    case rel =>
                      have hst2 := hown6.stored j (.int .u8 (16 * (x : Int) + (k : Int)))
                      refine ⟨q + 1, n' + 1, ks ++ [k], R.drop (ln l k), by go_num, by rw [unhide HSL, unhide HM], unhide HST, ?_, (unhide HC6).keep hBM hgM ((Below.refl _ _).setCell hgM2 _), by simpa using hsz6⟩
                      rw [unhide HH2]
                      exact row_set hst2.1 (unhide HJ) (by rw [ofNat_toNat (k := 16 * x + k) (by omega)]; omega)
                    case measure => simp [intOf]; omega
              · have hq2 : q = 2 * N := by omega
                subst hq2
                have hdn := hdec.done
                obtain ⟨w1', w2', w3'⟩ := write_dec (unhide HE0).symm hN hdn
                obtain ⟨o, ho⟩ : ∃ o, o = half ks := ⟨_, rfl⟩
                rw [← ho] at w1' w2' w3' hown
                have C4 := hide (fun (W : World) => writeCode_any l o W (unhide HL) (by omega))
                have hcv := run_str_own (P := Tryz.prog) hown 77 9 Tryz.underlying77 Tryz.underlying5 Tryz.underlying9
                obtain ⟨t, ht⟩ : ∃ t, t = writeS l o := ⟨_, rfl⟩
                rw [← ht] at C4 w2'
                have HDN := hide hdn
                have HO := hide ho
                have hnq : ¬ (((2 * N : Nat) : Int) < 2 * (N : Int)) := by omega
                cases hg : goodRest R with
                | true =>
                  have htb := w2'.2 hg
                  have z1 : (t == b) = true := by rw [beq_iff_eq]; exact htb
                  have z2 : (t != b) = false := by rw [bne_eq_false_iff_eq]; exact htb
                  obtain ⟨e1, e2⟩ := readE_ok (unhide HE0).symm (unhide HN) hdn hg
                  rw [← ho] at e2
                  have HE1 := hide e1
                  have HE2 := hide e2
                  clear hdec hc hdn w1' w2' w3' ho ht hg htb e1 e2 hkn hn2 hbs
                  go_wp2_with (first
                    | (refine wpList_load16 rfl (.tmp 3) rfl B0 rfl l (unhide HL) (unhide HC).a ?_)
                    | (go_at_call 141; refine (unhide C4 _).mono ?_; rintro e w6 ⟨rfl, hb6⟩; have HC6 := hide ((unhide HC).below hb6); have hcv6 := run_str_own (P := Tryz.prog) (own_below hown hb6) 77 9 Tryz.underlying77 Tryz.underlying5 Tryz.underlying9; clear hb6))
                  go_ret2
                  rw [unhide HE1, unhide HE2, ← unhide HB]
                  exact ⟨rfl, (unhide HC6).bel⟩
                | false =>
                  have htb : ¬ t = b := fun e => by
                    have := w2'.1 e
                    rw [hg] at this; cases this
                  have z1 : (t == b) = false := by rw [beq_eq_false_iff_ne]; exact htb
                  have z2 : (t != b) = true := by rw [bne_iff_ne]; exact htb
                  obtain ⟨e1, e2⟩ := readE_left (unhide HE0).symm (unhide HN) hdn hg
                  have HE1 := hide e1
                  have HE2 := hide e2
                  clear hdec hc hdn w1' w2' w3' ho ht hg htb e1 e2 hkn hn2 hbs
                  go_wp2_with (first
                    | (refine wpList_load16 rfl (.tmp 3) rfl B0 rfl l (unhide HL) (unhide HC).a ?_)
                    | (go_at_call 141; refine (unhide C4 _).mono ?_; rintro e w6 ⟨rfl, hb6⟩; have HC6 := hide ((unhide HC).below hb6); clear hb6))
                  go_ret2
                  rw [unhide HE1, unhide HE2, ← unhide HB]
                  exact ⟨rfl, (unhide HC6).bel⟩
  · have z1 : ((e0 : Int) == 0) = false := by rw [beq_eq_false_iff_ne]; omega
    have z2 : ((e0 : Int) != 0) = true := by rw [bne_iff_ne]; omega
    have H0 := hide h0
    clear h0
    go_wp2_with (first
      | (refine wpList_load16 rfl (.tmp 3) rfl B0 (by rw [unhide HB]; rfl) l (unhide HL) (by rw [← unhide HW0]; exact (unhide HX0).a) ?_; rw [← unhide HW0, ← unhide HB])
      | (go_at_call 137; refine (unhide CK).mono ?_; rintro e w1 ⟨rfl, hb1⟩; have HX1 := hide ((unhide HX0).below hb1); clear hb1))
    go_ret2
    obtain ⟨e1, e2⟩ := readE_code (l := l) (b := b) (n := n) (by rw [← unhide HE0]; exact unhide H0)
    rw [e1, e2, ← unhide HE0, ← unhide HB]
    exact ⟨rfl, (unhide HX1).bel⟩
end Go.Proofs.YtjpgoeimclipjaaGreat
namespace Go.Proofs.YtjpgoeimclipjaaGreat
namespace Pl
/-- what stands in the bytes that are made, so many signs found -/
def outO (ks : List Nat) (N : Nat) : Bytes := half ks ++ List.replicate (N - (half ks).length) 0
theorem outO_len {ks : List Nat} {N : Nat} (h : ks.length ≤ 2 * N) : (outO ks N).length = N := by
  unfold outO
  rw [List.length_append, List.length_replicate, half_len]; omega
theorem outO_full {ks : List Nat} {N : Nat} (h : ks.length = 2 * N) : outO ks N = half ks := by
  unfold outO
  rw [show N - (half ks).length = 0 from by rw [half_len]; omega]; simp
theorem outO_even {ks : List Nat} {N q k : Nat} (h : ks.length = 2 * q) (hq : q < N) : (outO ks N)[q]? = some 0 ∧ outO (ks ++ [k]) N = (outO ks N).set q (UInt8.ofNat (16 * k)) := by
  have hl : (half ks).length = q := by rw [half_len]; omega
  have hr : List.replicate (N - q) (0 : UInt8) = 0 :: List.replicate (N - (q + 1)) 0 := by rw [show N - q = (N - (q + 1)) + 1 from by omega, List.replicate_succ]
  unfold outO
  rw [half_even (by omega), List.length_append, List.length_singleton, hl, hr]
  refine ⟨?_, ?_⟩
  · rw [List.getElem?_append_right (by omega), hl, Nat.sub_self]; rfl
  · rw [List.set_append_right _ _ (by omega), hl, Nat.sub_self]; simp
theorem outO_odd {ks : List Nat} {N q k : Nat} (h : ks.length = 2 * q + 1) (hk : ∀ x ∈ ks, x < 16) : ∃ a, a < 16 ∧ (outO ks N)[q]? = some (UInt8.ofNat (16 * a)) ∧ outO (ks ++ [k]) N = (outO ks N).set q (UInt8.ofNat (16 * a + k)) := by
  obtain ⟨h0, a, ha, e1, e2, e3⟩ := half_odd (show ks.length % 2 = 1 by omega) hk k
  have hl0 : h0.length = q := by omega
  refine ⟨a, ha, ?_, ?_⟩
  · unfold outO
    rw [e1, List.append_assoc, List.getElem?_append_right (by omega), hl0, Nat.sub_self]; rfl
  · unfold outO
    rw [e1, e2, List.length_append, List.length_append, List.length_singleton, List.length_singleton, List.append_assoc, List.append_assoc, List.set_append_right _ _ (by omega), hl0, Nat.sub_self]; simp
theorem front_of_word {l : List Int} (hr : Right l) {R : List Bool} {t x : Nat} (ht : t ≤ R.length) (hx : x < 16) (h0 : 0 < ln l x) (hq : (val (R.take t), t) = (wv l x, ln l x)) : frontP l R = some x := by
  obtain ⟨e1, e2⟩ := Prod.ext_iff.1 hq
  simp only at e1 e2
  have hw : wordB l x = R.take t := by
    unfold wordB
    rw [← e1, ← e2]
    have := bt_val (R.take t)
    rwa [List.length_take, Nat.min_eq_left ht] at this
  exact front_hit hr hx h0 (hw ▸ List.take_prefix t R)
theorem word_of_front {l : List Int} (hr : Right l) {R : List Bool} {x : Nat} (h : frontP l R = some x) : x < 16 ∧ 0 < ln l x ∧ ln l x ≤ R.length ∧ (val (R.take (ln l x)), ln l x) = (wv l x, ln l x) := by
  obtain ⟨h1, h2, h3⟩ := front_some h
  obtain ⟨t, ht⟩ := h3
  have e : R.take (ln l x) = wordB l x := by rw [← ht, List.take_append_of_le_length (by rw [wordB_len]; omega), List.take_of_length_le (by rw [wordB_len]; omega)]
  refine ⟨h1, h2, ?_, by rw [e, wordB_val hr h1 h2]⟩
  rw [← ht, List.length_append, wordB_len]; omega
theorem val_take_succ {R : List Bool} {s : Nat} {x : Bool} (h : R[s]? = some x) : val (R.take (s + 1)) = 2 * val (R.take s) + bvT x := by
  rw [List.take_add_one, h]; exact val_snoc _ _
end Pl
end Go.Proofs.YtjpgoeimclipjaaGreat
namespace Go.Proofs.YtjpgoeimclipjaaGreat
open Go.RowKit Go.Lib Pl
attribute [local go_sem] ext_list app_list
theorem bitOf (c : UInt8) (r : Nat) (hr : r < 8) : bits .and .i64 ((c.toNat : Int) / 2 ^ (7 - r)) 1 = (bvT ((bt c.toNat 8)[r]'(by rw [bt_len]; exact hr)) : Int) := by
  have h : ∀ (y : Fin 256) (k : Fin 8), bits .and .i64 ((y.val : Int) / 2 ^ (7 - k.val)) 1 = (bvT ((bt y.val 8)[k.val]?.getD false) : Int) := by decide +kernel
  have := h ⟨c.toNat, c.toNat_lt⟩ ⟨r, hr⟩
  simp only at this
  rw [this, List.getElem?_eq_getElem (by rw [bt_len]; exact hr)]; rfl
theorem unpack_get : ∀ {b : Bytes} {q r : Nat} {c : UInt8}, b[q]? = some c → r < 8 → (unpackB b)[8 * q + r]? = (bt c.toNat 8)[r]?
  | [], q, r, c, h, _ => by simp at h
  | d :: b, 0, r, c, h, hr => by
    simp at h; subst h
    rw [unpackB_cons, Nat.mul_zero, Nat.zero_add, List.getElem?_append_left (by rw [bt_len]; exact hr)]
  | d :: b, q + 1, r, c, h, hr => by
    rw [unpackB_cons, List.getElem?_append_right (by rw [bt_len]; omega), bt_len, show 8 * (q + 1) + r - 8 = 8 * q + r from by omega]
    exact unpack_get (by simpa using h) hr
theorem read_arith {p q r t : Nat} (h : p = 8 * q + r) (hr : r < 8) (ht : t = 7 - r) (hb : p ≤ 2000000000000000) :
    (p : Int).tdiv 8 = (q : Int) ∧ (p : Int) / 8 = (q : Int) ∧ (p : Int).tmod 8 = (r : Int) ∧ IntKind.i64.wrap (7 - (r : Int)) = (t : Int) ∧ IntKind.i64.wrap ((p : Int) + 1) = ((p + 1 : Nat) : Int) := by
  refine ⟨by rw [Int.tdiv_eq_ediv_of_nonneg (by omega)]; omega, by omega, by rw [Int.tmod_eq_emod_of_nonneg (by omega)]; omega, ?_, ?_⟩
  · rw [show 7 - (r : Int) = (t : Int) from by omega]; exact IntWalk.i64_in _ ⟨by omega, by omega⟩
  · rw [show (p : Int) + 1 = ((p + 1 : Nat) : Int) from by omega]; exact IntWalk.i64_in _ ⟨by omega, by omega⟩
set_option maxHeartbeats 1000000 in
set_option maxRecDepth 100000 in
/-- the next bit -/
theorem readBit_any (Bs Ba : Nat) (b : Bytes) (p : Nat) (x : Bool) (w : World) (hs : w.cell? ⟨Bs, 0, none⟩ = some (S b)) (ha : w.cell? ⟨Ba, 0, none⟩ = some (I p)) (hf : w.frozen? ⟨Ba, 0, none⟩ = false)
    (hx : (unpackB b)[p]? = some x) (hp : p ≤ 2000000000000000) :
    Calls Tryz.prog 204 #[.pointer (some ⟨Bs, 0, none⟩), .pointer (some ⟨Ba, 0, none⟩)] w fun e w' => e = .returned (I (bvT x)) ∧ ∃ q, w' = (w.setCell ⟨Ba, 0, none⟩ (I ((p + 1 : Nat)))).drewN q := by
  obtain ⟨q, r, hpq, hr⟩ : ∃ q r, p = 8 * q + r ∧ r < 8 := ⟨p / 8, p % 8, by omega, by omega⟩
  have hpl := (List.getElem?_eq_some_iff.1 hx).1
  rw [unpackB_len] at hpl
  have hq : q < b.length := by omega
  obtain ⟨c, hcc⟩ : ∃ c, (⟨b.toArray⟩ : ByteArray)[q]'hq = c := ⟨_, rfl⟩
  have hbc : b[q]? = some c := by rw [List.getElem?_eq_getElem hq]; exact congrArg some hcc
  have hg := unpack_get hbc hr
  rw [← hpq, hx, List.getElem?_eq_getElem (by rw [bt_len]; exact hr)] at hg
  injection hg with hg
  have hbit := bitOf c r hr
  rw [← hg] at hbit
  obtain ⟨t, ht⟩ : ∃ t, t = 7 - r := ⟨_, rfl⟩
  rw [← ht] at hbit
  obtain ⟨a1, a2, a3, a4, a5⟩ := read_arith hpq hr ht hp
  have ht7 : t ≤ 7 := by omega
  obtain ⟨z, hz⟩ : ∃ z, z = bvT x := ⟨_, rfl⟩
  rw [← hz] at hbit ⊢
  have hc256 : c.toNat < 256 := c.toNat_lt
  clear hpq hbc hg ht hz hx hpl
  go_enter Tryz.func204, Tryz.ntmps204
  go_wp2_with fail
  go_quiet (fail)
  go_wp2_with fail
  go_ret
  exact ⟨rfl, _, rfl⟩
theorem take_two {α : Type} {L : List α} {i : Nat} {x y : α} (h1 : L[i]? = some x) (h2 : L[i + 1]? = some y) : (L.drop i).take 2 = [x, y] := by
  obtain ⟨a1, a2⟩ := List.getElem?_eq_some_iff.1 h1
  obtain ⟨b1, b2⟩ := List.getElem?_eq_some_iff.1 h2
  rw [List.drop_eq_getElem_cons a1, List.drop_eq_getElem_cons b1, a2, b2]; rfl
/-- an element of an array of words -/
theorem run_indexP (f : Nat → Nat × Nat) (k : Nat) (hk : k < 16) (w : World) : (Instr.index 214 (AP f) (.int .i64 k)).run Tryz.prog w = .ok (.agg #[I (f k).1, I (f k).2]) w := by
  unfold Instr.index
  simp [run_underlying Tryz.underlying214, asIntOf, Result.andThen, part, Tryz.isAgg213, Tryz.sizeOf213]
  rw [if_pos hk]
  have e := take_two (L := (cellsP f).toList) (i := k * 2) (x := I (f k).1) (y := I (f k).2) (by rw [Array.getElem?_toList]; exact cellsP_get0 f k hk) (by rw [Array.getElem?_toList]; exact cellsP_get1 f k hk)
  unfold cellsP at e
  simp only at e
  rw [e]
/-- the array, the text and the map, where they lie -/
structure MapAt (l : List Int) (b : Bytes) (w wr : World) (B M n : Nat) (g : Nat × Nat → Option Nat) : Prop where
  a : wr.heap[B]? = some (.cells (cells16 l) 145 (0, 0))
  s : wr.heap[B + 1]? = some (.cells #[S b] 9 (0, 0))
  m : WordMap wr M n g
  lt : B + 2 ≤ M
  bel : Below B w wr
theorem MapAt.below {l : List Int} {b : Bytes} {w wr w1 : World} {B M n : Nat} {g : Nat × Nat → Option Nat} (h : MapAt l b w wr B M n g) (hb : Below wr.heap.size wr w1) : MapAt l b w w1 B M n g := by
  have s3 := h.m.lt
  have s4 := h.lt
  exact ⟨(hb.block B (by omega)).trans h.a, (hb.block (B + 1) (by omega)).trans h.s, h.m.keep (hb.block M s3), s4, h.bel.trans (hb.mono (by omega))⟩
theorem MapAt.mono {l : List Int} {b : Bytes} {w wr : World} {B M n n' : Nat} {g : Nat × Nat → Option Nat} (h : MapAt l b w wr B M n g) (hn : n ≤ n') : MapAt l b w wr B M n' g := by
  obtain ⟨D, ho, r⟩ := h.m
  exact ⟨h.a, h.s, ⟨D, ho.mono hn, r⟩, h.lt, h.bel⟩
theorem MapAt.alloc {l : List Int} {b : Bytes} {w wr : World} {B M n : Nat} {g : Nat × Nat → Option Nat} (h : MapAt l b w wr B M n g) (o : Obj) : MapAt l b w (wr.alloc o) B M n g := h.below ((Below.refl _ _).alloc (Nat.le_refl _) _)
theorem MapAt.put {l : List Int} {b : Bytes} {w wr w1 : World} {B M n n' : Nat} {g g' : Nat × Nat → Option Nat} (h : MapAt l b w wr B M n g) (hm : WordMap w1 M n' g') (hg : wr.grownBy w1 (some M)) : MapAt l b w w1 B M n' g' := by
  have s3 := h.m.lt
  have s4 := h.lt
  refine ⟨(hg.block B (by omega) (by intro e; injection e with e; omega)).trans h.a, (hg.block (B + 1) (by omega) (by intro e; injection e with e; omega)).trans h.s, hm, s4, ?_⟩
  exact h.bel.grown hg (by have := h.bel.size; omega) (fun k hk => by injection hk with hk; omega)
/-- what lies in memory while it is read -/
structure RdSt (l : List Int) (b : Bytes) (w wr : World) (B0 M G p : Nat) (o : Bytes) : Prop where
  s : wr.heap[B0 + 1]? = some (.cells #[S b] 9 (0, 0))
  m : WordMap wr M 16 (signOf l 16)
  o : wr.heap[G]? = some (.cells (o.map B).toArray 5 (0, 0))
  c : wr.heap[G + 1]? = some (.cells #[I p] 3 (0, 0))
  bel : Below B0 w wr
  l1 : B0 + 2 ≤ M
  l2 : M < G
theorem RdSt.size {l : List Int} {b o : Bytes} {w wr : World} {B0 M G p : Nat} (h : RdSt l b w wr B0 M G p o) : G + 2 ≤ wr.heap.size := (Array.getElem?_eq_some_iff.1 h.c).1
theorem RdSt.keep {l : List Int} {b o : Bytes} {w wr w1 : World} {B0 M G p : Nat} (h : RdSt l b w wr B0 M G p o) (hb : Below (G + 2) wr w1) : RdSt l b w w1 B0 M G p o := by
  have h1 := h.l1
  have h2 := h.l2
  exact ⟨(hb.block _ (by omega)).trans h.s, h.m.keep (hb.block _ (by omega)), (hb.block _ (by omega)).trans h.o, (hb.block _ (by omega)).trans h.c, h.bel.trans (hb.mono (by omega)), h1, h2⟩
theorem RdSt.setAt {l : List Int} {b o : Bytes} {w wr : World} {B0 M G p : Nat} (h : RdSt l b w wr B0 M G p o) (p' : Nat) : RdSt l b w (wr.setCell ⟨G + 1, 0, none⟩ (I p')) B0 M G p' o := by
  have h1 := h.l1
  have h2 := h.l2
  refine ⟨(heap_setCell_other _ _ _ _ (by show B0 + 1 ≠ G + 1; omega)).trans h.s, h.m.keep (heap_setCell_other _ _ _ _ (by show M ≠ G + 1; omega)), (heap_setCell_other _ _ _ _ (by show G ≠ G + 1; omega)).trans h.o, ?_, h.bel.setCell (by show B0 ≤ G + 1; omega) _, h1, h2⟩
  rw [heap_setCell_same _ _ _ _ _ _ h.c]; rfl
theorem RdSt.setOut {l : List Int} {b o : Bytes} {w wr : World} {B0 M G p : Nat} (h : RdSt l b w wr B0 M G p o) (q : Nat) (c : UInt8) : RdSt l b w (wr.setCell ⟨G, q, none⟩ (.int .u8 (c.toNat : Int))) B0 M G p (o.set q c) := by
  have h1 := h.l1
  have h2 := h.l2
  refine ⟨(heap_setCell_other _ _ _ _ (by show B0 + 1 ≠ G; omega)).trans h.s, h.m.keep (heap_setCell_other _ _ _ _ (by show M ≠ G; omega)), ?_, (heap_setCell_other _ _ _ _ (by show G + 1 ≠ G; omega)).trans h.c, h.bel.setCell (by show B0 ≤ G; omega) _, h1, h2⟩
  rw [heap_setCell_same _ _ _ _ _ _ h.o]
  simp [B, List.map_set]
theorem RdSt.text {l : List Int} {b o : Bytes} {w wr : World} {B0 M G p : Nat} (h : RdSt l b w wr B0 M G p o) : wr.cell? ⟨B0 + 1, 0, none⟩ = some (S b) := by rw [cell_of_row _ _ _ _ _ _ h.s]; rfl
theorem RdSt.at_ {l : List Int} {b o : Bytes} {w wr : World} {B0 M G p : Nat} (h : RdSt l b w wr B0 M G p o) : wr.cell? ⟨G + 1, 0, none⟩ = some (I p) := by rw [cell_of_row _ _ _ _ _ _ h.c]; rfl
theorem RdSt.free {l : List Int} {b o : Bytes} {w wr : World} {B0 M G p : Nat} (h : RdSt l b w wr B0 M G p o) : wr.frozen? ⟨G + 1, 0, none⟩ = false := frozen_of_row _ _ 0 _ _ h.c
theorem RdSt.byte {l : List Int} {b o : Bytes} {w wr : World} {B0 M G p q : Nat} {c : UInt8} (h : RdSt l b w wr B0 M G p o) (hq : o[q]? = some c) : wr.cell? ⟨G, q, none⟩ = some (.int .u8 (c.toNat : Int)) := by rw [cell_of_row _ _ _ _ _ _ h.o]; simp [hq, B]
theorem made_zeros (n : Nat) : madeCells #[.int .u8 0] n = ((List.replicate n (0 : UInt8)).map B).toArray := by
  apply Array.ext_getElem?
  intro j
  by_cases hj : j < n
  · simp [madeCells, hj, B, Nat.mod_one]
  · simp [madeCells, hj]
/-- in the midst of a word: not yet found; or found, and written -/
def RdIn (l : List Int) (b : Bytes) (w wr : World) (B0 M G E N p : Nat) (ks : List Nat) (R : List Bool) (f : Value) : Prop :=
  (f = .bool false ∧ ∃ s, s ≤ 16 ∧ s ≤ R.length ∧ (∀ t, 1 ≤ t → t ≤ s → signOf l 16 (val (R.take t), t) = none) ∧ RdSt l b w wr B0 M G (p + s) (outO ks N) ∧ wr.heap[E]? = some (.cells #[I (val (R.take s)), I s] 213 (0, 0))) ∨
  (f = .bool true ∧ ∃ x, x < 16 ∧ frontP l R = some x ∧ RdSt l b w wr B0 M G (p + ln l x) (outO (ks ++ [x]) N) ∧ ∃ a s : Nat, wr.heap[E]? = some (.cells #[I a, I s] 213 (0, 0)))
def rdMea (E : Nat) (f : Value) (wr : World) : Nat :=
  match f with
  | .bool true => 0
  | _ => match wr.cell? ⟨E, 1, none⟩ with
    | some (.int _ n) => 100 - n.toNat
    | _ => 0
theorem rdMid {l : List Int} {b o : Bytes} {w wr W w7 : World} {B0 M G E p p' : Nat} {a c : Value} (h : RdSt l b w wr B0 M G p o) (hEG : G + 2 ≤ E) (hE : wr.heap[E]? = some (.cells #[a, c] 213 (0, 0))) (h7 : ∃ q, w7 = (W.setCell ⟨G + 1, 0, none⟩ (I p')).drewN q) (hW : Below wr.heap.size wr W) :
    RdSt l b w w7 B0 M G p' o ∧ w7.heap[E]? = some (.cells #[a, c] 213 (0, 0)) := by
  have hr := (h.keep (hW.mono h.size)).setAt p'
  have hlt := (Array.getElem?_eq_some_iff.1 hE).1
  obtain ⟨q, rfl⟩ := h7
  refine ⟨⟨hr.s, hr.m, hr.o, hr.c, below_drewN hr.bel _, hr.l1, hr.l2⟩, ?_⟩
  show (W.setCell ⟨G + 1, 0, none⟩ (I p')).heap[E]? = _
  rw [heap_setCell_other _ _ _ _ (by show E ≠ G + 1; omega), hW.block E hlt]; exact hE
theorem rdCells {w7 : World} {E : Nat} {a c : Value} (hh : w7.heap[E]? = some (.cells #[a, c] 213 (0, 0))) : w7.cell? ⟨E, 0, none⟩ = some a ∧ w7.cell? ⟨E, 1, none⟩ = some c ∧ w7.frozen? ⟨E, 0, none⟩ = false ∧ w7.frozen? ⟨E, 1, none⟩ = false :=
  ⟨by rw [cell_of_row _ _ _ _ _ _ hh]; rfl, by rw [cell_of_row _ _ _ _ _ _ hh]; rfl, frozen_of_row _ _ _ _ _ hh, frozen_of_row _ _ _ _ _ hh⟩
theorem rdEnd {l : List Int} {b o : Bytes} {w w7 : World} {B0 M G E p : Nat} {a c : Value} (h : RdSt l b w w7 B0 M G p o) (hEG : G + 2 ≤ E) (hE : w7.heap[E]? = some (.cells #[a, c] 213 (0, 0))) (x y : Value) :
    RdSt l b w ((w7.setCell ⟨E, 0, none⟩ x).setCell ⟨E, 1, none⟩ y) B0 M G p o ∧ ((w7.setCell ⟨E, 0, none⟩ x).setCell ⟨E, 1, none⟩ y).heap[E]? = some (.cells #[x, y] 213 (0, 0)) := by
  refine ⟨h.keep (((Below.refl _ _).setCell (by exact hEG) _).setCell (by exact hEG) _), ?_⟩
  rw [heap_setCell_same _ _ _ _ _ _ (heap_setCell_same _ _ _ _ _ _ hE)]; rfl
theorem addOne {s : Nat} (h : s ≤ 15) : IntKind.i64.wrap ((s : Int) + 1) = ((s + 1 : Nat) : Int) := IntWalk.i64_in _ ⟨by omega, by omega⟩
theorem readBound {p s r n : Nat} (h : p + r = 8 * n) (h2 : s < r) (h3 : n ≤ 140737488355328) : p + s ≤ 2000000000000000 := by omega
theorem readNe {p s r n : Nat} (h : p + r = 8 * n) (h2 : s < r) : (((p + s : Nat) : Int) == 8 * (n : Int)) = false := by rw [beq_eq_false_iff_ne]; omega
theorem valBound (R : List Bool) {s : Nat} (h : s ≤ 15) : val (R.take s) ≤ 32768 := by
  have h1 := val_lt (R.take s)
  have h2 : 2 ^ (R.take s).length ≤ 2 ^ 15 := Nat.pow_le_pow_right (by decide) (Nat.le_trans (by rw [List.length_take]; exact Nat.min_le_left _ _) h)
  exact Nat.le_of_lt (Nat.lt_of_lt_of_le h1 h2)
theorem RdIn.found {l : List Int} {b : Bytes} {w wc : World} {B0 M G E N p pp s s1 u i y : Nat} {ks : List Nat} {R : List Bool} {c1 : UInt8} (hEG : G + 2 ≤ E) (r9 : RdSt l b w wc B0 M G (pp + 1) (outO ks N)) (e9 : wc.heap[E]? = some (.cells #[I u, I s1] 213 (0, 0)))
    (hy : y < 16) (hf : frontP l R = some y) (hl : s1 = ln l y) (hpp : pp = p + s) (hs : s1 = s + 1) (ha : outO (ks ++ [y]) N = (outO ks N).set i c1) :
    RdIn l b w (wc.setCell ⟨G, i, none⟩ (.int .u8 (c1.toNat : Int))).drew B0 M G E N p ks R (.bool true) := by
  have h := r9.setOut i c1
  rw [← ha, show pp + 1 = p + ln l y from by omega] at h
  refine .inr ⟨rfl, y, hy, hf, ⟨h.s, h.m, h.o, h.c, h.bel.drew, h.l1, h.l2⟩, u, s1, ?_⟩
  show (wc.setCell ⟨G, i, none⟩ (.int .u8 (c1.toNat : Int))).heap[E]? = _
  rw [heap_setCell_other _ _ _ _ (by show E ≠ G; omega)]; exact e9
theorem run_str_row {w : World} {G N : Nat} {o : Bytes} {t : TypeId} (h : w.heap[G]? = some (.cells (o.map B).toArray t (0, 0))) (hN : o.length = N) : (convert 77 9 (.slice (some ⟨G, 0, none⟩) N N)).run Tryz.prog w = .ok (S o) w := by
  subst hN
  refine run_convert_bytes_back w 77 9 5 _ o.length o Tryz.underlying77 Tryz.underlying5 Tryz.underlying9 ?_
  intro j hj
  have e : (⟨G, 0, none⟩ : Addr).add j = ⟨G, j, none⟩ := by unfold Addr.add; split <;> simp_all
  rw [e, cell_of_row _ _ _ _ _ _ h]
  simp [hj, B]
theorem tailWrap {p r n : Nat} (h : p + r = 8 * n) (h2 : n ≤ 140737488355328) : wrap64 (8 * (n : Int) - (p : Int)) = 8 * (n : Int) - (p : Int) := IntWalk.wrap64_in _ ⟨by omega, by omega⟩
theorem tailMea {p n : Nat} (h : (p : Int) < 8 * (n : Int)) : 8 * n - (intOf ((some (I ((p + 1 : Nat)))).getD undef)).toNat < 8 * n - (intOf ((some (I p)).getD undef)).toNat := by
  simp [intOf]; omega
theorem frontNone {l : List Int} (hr : Right l) {R : List Bool} {s : Nat} (hno : ∀ t, 1 ≤ t → t ≤ s → signOf l 16 (val (R.take t), t) = none) (hs : R.length ≤ s ∨ 15 < s) : frontP l R = none := by
  cases h : frontP l R with
  | none => rfl
  | some x =>
    exfalso
    obtain ⟨h1, h2, h3, h4⟩ := word_of_front hr h
    have h5 := hr.one x
    exact signOf_none (hno (ln l x) h2 (by omega)) x h1 h2 h4
theorem outStep {ks : List Nat} {N k q : Nat} (hl : ks.length = q) (hq : q < 2 * N) (hk : ∀ x ∈ ks, x < 16) (hk16 : k < 16) :
    ∃ (i r : Nat) (c0 c1 : UInt8) (y : Nat), q = 2 * i + r ∧ i < N ∧ (outO ks N)[i]? = some c0 ∧ outO (ks ++ [k]) N = (outO ks N).set i c1 ∧ y < 256 ∧ bits .or .u8 (c0.toNat : Int) (y : Int) = (c1.toNat : Int) ∧ ((r = 0 ∧ y = k * 16) ∨ (r = 1 ∧ y = k)) := by
  have h1 : ∀ y : Fin 256, bits .or .u8 0 (y.val : Int) = (y.val : Int) := by decide +kernel
  have h2 : ∀ a k : Fin 16, bits .or .u8 ((16 * a.val : Nat) : Int) (k.val : Int) = ((16 * a.val + k.val : Nat) : Int) := by decide +kernel
  rcases (show q % 2 = 0 ∨ q % 2 = 1 by omega) with e | e
  · obtain ⟨e1, e2⟩ := outO_even (ks := ks) (N := N) (q := q / 2) (k := k) (by omega) (by omega)
    have e3 : (UInt8.ofNat (16 * k)).toNat = k * 16 := by rw [UInt8.toNat_ofNat']; omega
    refine ⟨q / 2, 0, 0, UInt8.ofNat (16 * k), k * 16, by omega, by omega, e1, e2, by omega, ?_, .inl ⟨rfl, rfl⟩⟩
    rw [e3]; exact h1 ⟨k * 16, by omega⟩
  · obtain ⟨a, ha, e1, e2⟩ := outO_odd (ks := ks) (N := N) (q := q / 2) (k := k) (by omega) hk
    have e3 : (UInt8.ofNat (16 * a + k)).toNat = 16 * a + k := by rw [UInt8.toNat_ofNat']; omega
    have e4 : (UInt8.ofNat (16 * a)).toNat = 16 * a := by rw [UInt8.toNat_ofNat']; omega
    refine ⟨q / 2, 1, UInt8.ofNat (16 * a), UInt8.ofNat (16 * a + k), k, by omega, by omega, e1, e2, by omega, ?_, .inr ⟨rfl, rfl⟩⟩
    rw [e3, e4]; exact h2 ⟨a, ha⟩ ⟨k, hk16⟩
theorem outArith {q i r k y : Nat} (h : q = 2 * i + r) (hr : (r = 0 ∧ y = k * 16) ∨ (r = 1 ∧ y = k)) (hk : k < 16) :
    (q : Int).tdiv 2 = (i : Int) ∧ (q : Int) / 2 = (i : Int) ∧ (q : Int).tmod 2 = (r : Int) ∧ IntKind.u8.wrap (y : Int) = (y : Int) ∧ (y : Int) % 256 = (y : Int) := by
  refine ⟨by rw [Int.tdiv_eq_ediv_of_nonneg (by omega)]; omega, by omega, by rw [Int.tmod_eq_emod_of_nonneg (by omega)]; omega, by rw [IntKind.wrap_u8]; omega, by omega⟩
theorem shlArith {k : Nat} (hk : k < 16) : IntKind.i64.wrap ((k : Int) * 16) = ((k * 16 : Nat) : Int) ∧ wrap64 ((k : Int) * 16) = ((k * 16 : Nat) : Int) ∧ IntKind.i64.wrap (k : Int) = (k : Int) ∧ wrap64 (k : Int) = (k : Int) := by
  have e : (k : Int) * 16 = ((k * 16 : Nat) : Int) := by omega
  exact ⟨by rw [e]; exact IntWalk.i64_in _ ⟨by omega, by omega⟩, by rw [e]; exact IntWalk.wrap64_in _ ⟨by omega, by omega⟩, IntWalk.i64_in _ ⟨by omega, by omega⟩, IntWalk.wrap64_in _ ⟨by omega, by omega⟩⟩
theorem rdMea_false {wr : World} {E s : Nat} (h : wr.cell? ⟨E, 1, none⟩ = some (I s)) : rdMea E (.bool false) wr = 100 - s := by unfold rdMea; simp [h]
theorem RdIn.less {wr w' : World} {E s : Nat} (h : wr.cell? ⟨E, 1, none⟩ = some (I s)) (hs : s ≤ 15) : rdMea E (.bool true) w' < rdMea E (.bool false) wr := by
  rw [rdMea_false h]
  show 0 < 100 - s
  omega
theorem valLe (R : List Bool) {s : Nat} (h : s ≤ 15) : val (R.take (s + 1)) ≤ 65536 := by
  have h1 := val_lt (R.take (s + 1))
  have h2 : 2 ^ (R.take (s + 1)).length ≤ 2 ^ 16 := Nat.pow_le_pow_right (by decide) (Nat.le_trans (by rw [List.length_take]; exact Nat.min_le_left _ _) (Nat.succ_le_succ h))
  exact Nat.le_of_lt (Nat.lt_of_lt_of_le h1 h2)
theorem readWord {v z : Nat} (h : v ≤ 32768) (hz : z ≤ 1) : ∃ v2 : Nat, IntKind.i64.wrap ((v : Int) * 2) = (v2 : Int) ∧ bits .or .i64 (v2 : Int) (z : Int) = ((2 * v + z : Nat) : Int) := by
  refine ⟨2 * v, ?_, ?_⟩
  · rw [show (v : Int) * 2 = ((2 * v : Nat) : Int) from by omega]
    exact IntWalk.i64_in _ ⟨by omega, by omega⟩
  · rw [i64_or_nat _ _ (by omega) (by omega)]
    congr 1
    have := Nat.shiftLeft_add_eq_or_of_lt (b := z) (i := 1) (by omega) v
    rw [Nat.shiftLeft_eq, show v * 2 ^ 1 = 2 * v from by omega] at this
    exact this.symm
theorem pow15 {v m : Nat} (h : v < 2 ^ m) (hm : m ≤ 15) : v ≤ 1000000000 := by
  have h2 : 2 ^ m ≤ 32768 := Nat.pow_le_pow_right (n := 2) (by decide) hm
  exact Nat.le_trans (Nat.le_of_lt (Nat.lt_of_lt_of_le h h2)) (by decide)
set_option maxHeartbeats 8000000 in
set_option maxRecDepth 100000 in
theorem codeRead_any (KW : WordsSpec) (l : List Int) (b : Bytes) (n : Int) (w : World) (hl : l.length = 16) (hb : b.length ≤ 140737488355328) (hn1 : -9223372036854775808 ≤ n) (hn2 : n ≤ 9223372036854775807) :
    Calls Tryz.prog 180 #[A16 l, S b, .int .i64 n] w fun e w' => e = .returned (.tuple #[S (readS l b n), I (readE l b n)]) ∧ Below w.heap.size w w' := by
  obtain ⟨i0, hi, hz0, hz1, hz2⟩ := info_parts info_u8
  obtain ⟨B0, hB⟩ : ∃ B0, B0 = w.heap.size := ⟨_, rfl⟩
  obtain ⟨w0, hw0⟩ : ∃ w0, w0 = (w.alloc (.cells (cells16 l) 145)).alloc (.cells #[S b] 9) := ⟨_, rfl⟩
  have h1 : w0.heap[B0]? = some (.cells (cells16 l) 145 (0, 0)) := by subst hB; rw [hw0]; exact heap_alloc2_old _ _ _
  have h2 : w0.heap[B0 + 1]? = some (.cells #[S b] 9 (0, 0)) := by subst hB; rw [hw0]; exact heap_alloc2_new _ _ _
  have h3 : Below B0 w w0 := by subst hB; rw [hw0]; exact ((Below.refl _ _).alloc (Nat.le_refl _) _).alloc (by simp) _
  have h4 : w0.heap.size = B0 + 2 := by subst hB; rw [hw0]; simp
  have CK := checkCode_any l w0 hl
  obtain ⟨e0, he0⟩ : ∃ e0, e0 = checkE l := ⟨_, rfl⟩
  rw [← he0] at CK
  have CK := hide CK
  have HE0 := hide he0
  have HB := hide hB
  have HW0 := hide hw0
  have H1 := hide h1
  have H2 := hide h2
  have H3 := hide h3
  have H4 := hide h4
  have HL := hide hl
  have KW := hide KW
  have hmm : ∀ (w : World), (Instr.makeMap 247 none).run Tryz.prog w = .ok (.map (some w.heap.size)) (w.alloc (.map #[] 0)) := fun _ => rfl
  clear he0 hB hw0 h1 h2 h3 h4 hl
  go_enter Tryz.func180, Tryz.ntmps180
  by_cases h0 : e0 = 0
  · subst h0
    have HR := hide (right_of (unhide HL) (unhide HE0).symm)
    by_cases hn : n < 0 ∨ 1024 < n
    · have HN := hide hn
      have hcs : (n < 0 ∧ decide (n < 0) = true) ∨ (¬ n < 0 ∧ decide (n < 0) = false ∧ 1024 < n) := by
        rcases Int.lt_or_le n 0 with h | h
        · exact .inl ⟨h, by simpa using h⟩
        · exact .inr ⟨by omega, by simpa using h, by omega⟩
      clear hn hn1 hn2
      rcases hcs with ⟨d1, d2⟩ | ⟨d1, d2, d3⟩
      all_goals
        go_wp2_with (first
          | (refine wpList_load16 rfl (.tmp 3) rfl B0 (by rw [unhide HB]; rfl) l (unhide HL) (by rw [← unhide HW0]; exact (unhide H1)) ?_; rw [← unhide HW0, ← unhide HB])
          | (go_at_call 175; refine (unhide CK).mono ?_; rintro e w1 ⟨rfl, hb1⟩; have HB1 := hide hb1; clear hb1))
        go_ret2
        obtain ⟨e1, e2⟩ := readE_range (b := b) (unhide HE0).symm (unhide HN)
        rw [e1, e2, ← unhide HB]
        exact ⟨rfl, (unhide H3).trans ((unhide HB1).mono (by rw [unhide H4]; omega))⟩
    · have HN := hide hn
      obtain ⟨N, rfl⟩ := Int.eq_ofNat_of_zero_le (show 0 ≤ n by omega)
      have hN : N ≤ 1024 := by omega
      have n1 : ¬ (N : Int) < 0 := by omega
      have n2 : ¬ (1024 : Int) < (N : Int) := by omega
      clear hn hn1 hn2
      go_wp2_with (first
        | (refine wpList_load16 rfl (.tmp 3) rfl B0 (by rw [unhide HB]; rfl) l (unhide HL) (by rw [← unhide HW0]; exact (unhide H1)) ?_; rw [← unhide HW0, ← unhide HB])
        | (go_at_call 175; refine (unhide CK).mono ?_; rintro e w1 ⟨rfl, hb1⟩; have HB1 := hide hb1; clear hb1)
        | (refine wpList_load16 rfl (.tmp 3) rfl B0 rfl l (unhide HL) (by exact (Below.heap_alloc _ _ _ (by have := unhide H4; have := (unhide HB1).size; omega)).trans (((unhide HB1).block B0 (by have := unhide H4; omega)).trans (unhide H1))) ?_)
        | (go_at_call 176; refine (unhide KW l _ (unhide HR)).mono ?_; rintro e w2 ⟨rfl, hb2⟩; have HB2 := hide hb2; clear hb2))
      obtain ⟨M, hM⟩ : ∃ M, M = w1.heap.size := ⟨_, rfl⟩
      have hs1 := (unhide HB1).size
      rw [unhide H4] at hs1
      have hma : MapAt l b w w2 B0 M 0 (signOf l 0) := by
        refine MapAt.below ?_ (unhide HB2)
        rw [hM]
        have hB1 := unhide HB1
        exact ⟨(Below.heap_alloc _ _ _ (by omega)).trans ((hB1.block B0 (by rw [unhide H4]; omega)).trans (unhide H1)), (Below.heap_alloc _ _ _ (by omega)).trans ((hB1.block (B0 + 1) (by rw [unhide H4]; omega)).trans (unhide H2)), WordMap.made w1, hs1, ((unhide H3).trans (hB1.mono (by rw [unhide H4]; omega))).alloc (by omega) _⟩
      rw [← hM]
      have HMA := hide hma
      have hMB : B0 + 2 ≤ M := by omega
      clear hs1 hM hma
      go_loopw [10, 11, 33] (fun _ _ i wr => ∃ k : Nat, k ≤ 16 ∧ i = .int .i64 k ∧ MapAt l b w wr B0 M k (signOf l k)) (fun _ _ i _ => 16 - (intOf i).toNat)
      case atStart => exact ⟨0, by omega, rfl, unhide HMA⟩
      case round =>
        obtain ⟨k, hk, rfl, hma⟩ := hrel
        have HMK := hide hma
        clear hma
        by_cases hk16 : k < 16
        · have hix := fun (W : World) => run_indexP (fun j => (wv l j, ln l j)) k hk16 W
          have hsg : signOf l (k + 1) = if 0 < ln l k then updW (signOf l k) (wv l k) (ln l k) k else signOf l k := by
            funext q
            rw [signOf]
            by_cases e : 0 < ln l k
            · rw [if_pos e, if_pos e]; rfl
            · rw [if_neg e, if_neg e]
          have hwvl : 0 < ln l k → wv l k < 2 ^ ln l k := fun h => wv_lt (unhide HR) hk16 h
          have hm15 := (unhide HR).one k
          simp only at hix
          obtain ⟨m, hm⟩ : ∃ m, m = ln l k := ⟨_, rfl⟩
          obtain ⟨v, hv⟩ : ∃ v, v = wv l k := ⟨_, rfl⟩
          rw [← hm, ← hv] at hix hsg hwvl
          rw [← hm] at hm15
          by_cases hm0 : 0 < m
          · rw [if_pos hm0] at hsg
            have hvb : v ≤ 1000000000 := pow15 (hwvl hm0) hm15
            have HSG := hide hsg
            clear hsg hwvl hm hv
            go_wp2_with (at_mapUpdate; refine wpList_putW rfl _ _ _ rfl M k (signOf l k) rfl (((unhide HMK).alloc _).m) v m k rfl hvb (by omega) rfl (by omega) (by omega) ?_; intro w' hm' hg')
            go_roundw
            case rel => exact ⟨k + 1, by omega, by go_num, by rw [unhide HSG]; exact ((unhide HMK).alloc _).put hm' hg'⟩
            case measure => exact meas_up hk16
          · rw [if_neg hm0] at hsg
            have HSG := hide hsg
            clear hsg hwvl hm hv
            go_wp2_with fail
            go_roundw
            case rel => exact ⟨k + 1, by omega, by go_num, by rw [unhide HSG]; exact ((unhide HMK).mono (by omega)).alloc _⟩
            case measure => exact meas_up hk16
        · have hk' : k = 16 := by omega
          rw [hk'] at HMK
          have hk17 : ¬ (k : Int) < 16 := by omega
          clear hk' hk hk16
          have hmk := fun (W : World) => run_make_row' (P := Tryz.prog) 77 5 (.int .u8 0) 1 Tryz.underlying77 info_u8 rfl .i64 .i64 N (by omega) (by omega) W
          have hmf : ∀ (fn : Fn) (first cap : Array Value) (w : World), (Instr.makeFunc fn first cap).run Tryz.prog w = .ok (.func fn first cap) w := fun _ _ _ _ => rfl
          go_wp2_with fail
          obtain ⟨G, hG⟩ : ∃ G, G = wr.heap.size := ⟨_, rfl⟩
          obtain ⟨w4, hw4⟩ : ∃ w4, w4 = (wr.alloc (.cells (madeCells #[.int .u8 0] N) 5)).alloc (.cells #[.int .i64 0] 3) := ⟨_, rfl⟩
          have hrd : RdSt l b w w4 B0 M G 0 (outO [] N) := by
            have hma := ((unhide HMK).alloc (.cells (madeCells #[.int .u8 0] N) 5)).alloc (.cells #[.int .i64 0] 3)
            have hlt := (unhide HMK).m.lt
            rw [← hw4] at hma
            refine ⟨hma.s, hma.m, ?_, ?_, hma.bel, hma.lt, by rw [hG]; exact hlt⟩
            · rw [hw4, hG, made_zeros, show outO [] N = List.replicate N 0 from by simp [outO, half]]; exact heap_alloc2_old _ _ _
            · rw [hw4, hG]; exact heap_alloc2_new _ _ _
          rw [← hw4, ← hG]
          have HRD := hide hrd
          clear hw4 hG hrd hmk
          go_loopw [15, 16, 17, 18, 49] (fun _ _ _ _ i wr => ∃ (q p : Nat) (ks : List Nat) (R : List Bool), i = .int .i64 q ∧ DecAt l (unpackB b) (2 * N) q ks R ∧ p + R.length = 8 * b.length ∧ (unpackB b).drop p = R ∧ RdSt l b w wr B0 M G p (outO ks N)) (fun _ _ _ _ i _ => 2 * N - (intOf i).toNat)
          case atStart => exact ⟨0, 0, [], unpackB b, rfl, DecAt.start l _ _, by rw [unpackB_len]; omega, rfl, unhide HRD⟩
          case round =>
            obtain ⟨q, p, ks, R, rfl, hdec, hpR, hdr, hrd⟩ := hrel
            have HDEC := hide hdec
            have hqN := hdec.le
            have HRK := hide hrd
            have HPR := hide hpR
            have HDR := hide hdr
            clear hdec hpR hdr hrd
            by_cases hq : q < 2 * N
            · have dq : decide ((q : Int) < 2 * (N : Int)) = true := by rw [decide_eq_true_eq]; omega
              go_wp2_with fail
              obtain ⟨E, hE⟩ : ∃ E, E = wr.heap.size := ⟨_, rfl⟩
              obtain ⟨w5, hw5⟩ : ∃ w5, w5 = wr.alloc (.cells #[.int .i64 0, .int .i64 0] 213) := ⟨_, rfl⟩
              have hin : RdIn l b w w5 B0 M G E N p ks R (.bool false) := by
                refine .inl ⟨rfl, 0, by omega, by omega, fun t h1 h2 => absurd h1 (by omega), ?_, ?_⟩
                · rw [hw5]; exact (unhide HRK).keep ((Below.refl _ _).alloc (unhide HRK).size _)
                · rw [hw5, hE, List.take_zero, val_nil]; exact heap_alloc_new _ _
              have hEG : G + 2 ≤ E := by rw [hE]; exact (unhide HRK).size
              rw [← hw5, ← hE]
              have HIN := hide hin
              clear hw5 hE hin
              go_loopw [17, 18] (fun f _ wr => RdIn l b w wr B0 M G E N p ks R f) (fun f _ wr => rdMea E f wr)
              case atStart => exact unhide HIN
              case round =>
                rcases hrel with ⟨rfl, s, hs16, hsR, hnone, hrd, hE⟩ | ⟨rfl, x, hx16, hfx, hrd, a, s, hE⟩
                · have cE1 : wr.cell? ⟨E, 1, none⟩ = some (I s) := by rw [cell_of_row _ _ _ _ _ _ hE]; rfl
                  have cE0 : wr.cell? ⟨E, 0, none⟩ = some (I (val (R.take s))) := by rw [cell_of_row _ _ _ _ _ _ hE]; rfl
                  have cA := hrd.at_
                  have cT := hrd.text
                  have HRD5 := hide hrd
                  have HE5 := hide hE
                  have HNO := hide hnone
                  clear hrd hE hnone
                  by_cases hs15 : s ≤ 15
                  · by_cases hse : s < R.length
                    · obtain ⟨x, hx⟩ : ∃ x, R[s]? = some x := ⟨_, List.getElem?_eq_getElem hse⟩
                      have hvs := val_take_succ hx
                      have hux : (unpackB b)[p + s]? = some x := by rw [← hx, ← unhide HDR, List.getElem?_drop]
                      obtain ⟨v, hv⟩ : ∃ v, v = val (R.take s) := ⟨_, rfl⟩
                      obtain ⟨z, hz⟩ : ∃ z, z = bvT x := ⟨_, rfl⟩
                      obtain ⟨u, hu⟩ : ∃ u, u = 2 * v + z := ⟨_, rfl⟩
                      obtain ⟨pp, hpp⟩ : ∃ pp, pp = p + s := ⟨_, rfl⟩
                      rw [← hv] at cE0
                      rw [← hpp] at cA hux
                      rw [← hv, ← hz, ← hu] at hvs
                      have hpb : pp ≤ 2000000000000000 := by
                        have := unhide HPR
                        rw [hpp]; exact readBound this hse hb
                      have hne : ((pp : Int) == 8 * (b.length : Int)) = false := by
                        have := unhide HPR
                        rw [hpp]; exact readNe this hse
                      obtain ⟨v2, f1, f2⟩ := readWord (v := v) (z := z) (by rw [hv]; exact valBound R hs15) (by rw [hz]; exact bvT_le x)
                      rw [← hu] at f2
                      have HVS := hide hvs
                      have HV := hide hv
                      have HPP := hide hpp
                      have HX := hide hx
                      have KB := hide (fun (W : World) (h1 : W.cell? ⟨B0 + 1, 0, none⟩ = some (S b)) (h2 : W.cell? ⟨G + 1, 0, none⟩ = some (I pp)) (h3 : W.frozen? ⟨G + 1, 0, none⟩ = false) => hz ▸ readBit_any (B0 + 1) (G + 1) b pp x W h1 h2 h3 hux hpb)
                      clear hvs hv hpp hx hz hu hux
                      have fA : wr.frozen? ⟨G + 1, 0, none⟩ = false := (unhide HRD5).free
                      have fE0 : wr.frozen? ⟨E, 0, none⟩ = false := frozen_of_row _ _ 0 _ _ (unhide HE5)
                      have fE1 : wr.frozen? ⟨E, 1, none⟩ = false := frozen_of_row _ _ 1 _ _ (unhide HE5)
                      have HADD := hide (addOne hs15)
                      have F1 := hide f1
                      have F2 := hide f2
                      have d15 : (s : Int) ≤ 15 := by omega
                      clear f1 f2
                      go_wp2_with fail
                      have hadd := unhide HADD
                      have f1 := unhide F1
                      have f2 := unhide F2
                      go_cut [] from 53 to 95 (fun wx => RdSt l b w wx B0 M G (pp + 1) (outO ks N) ∧ wx.heap[E]? = some (.cells #[I u, I (s + 1 : Nat)] 213 (0, 0)))
                      case first =>
                        go_region_with (refine (unhide KB _ (by exact cT) (by exact cA) (by exact fA)).mono ?_; rintro e w7 ⟨rfl, hw7⟩; obtain ⟨r7, e7⟩ := rdMid (unhide HRD5) hEG (unhide HE5) hw7 (by first | exact Below.refl _ _ | exact (Below.refl _ _).drew | exact below_drewN (Below.refl _ _) _); rw [← unhide HV] at e7; obtain ⟨c70, c71, f70, f71⟩ := rdCells e7; have R7 := hide r7; have E7 := hide e7; clear hw7 r7 e7)
                        all_goals
                          obtain ⟨r8, e8⟩ := rdEnd (unhide R7) hEG (unhide E7) (I u) (I (s + 1 : Nat))
                          go_wp2_with fail
                          go_meet
                          exact ⟨r8, e8⟩
                      case rest =>
                        obtain ⟨r9, e9⟩ := hcut
                        obtain ⟨s1, hs1⟩ : ∃ s1, s1 = s + 1 := ⟨_, rfl⟩
                        rw [← hs1] at e9
                        obtain ⟨c90, c91, f90, f91⟩ := rdCells e9
                        have R9 := hide r9
                        have E9 := hide e9
                        have hu9 : u ≤ 1000000000 := by
                          rw [← unhide HVS]
                          exact Nat.le_trans (valLe R hs15) (by decide)
                        have hs9 : s1 ≤ 1000000000 := by omega
                        have hs1R : s1 ≤ R.length := by omega
                        have HS1 := hide hs1
                        have CE1 := hide cE1
                        clear r9 e9 hs1 f1 f2 hadd fA fE0 fE1 cE0 cE1 cA cT hne hpb
                        cases hsg : signOf l 16 (u, s1) with
                        | none =>
                          have HSG := hide hsg
                          go_wp2_with (at_lookup; refine wpList_lookW rfl _ _ rfl M 16 (signOf l 16) rfl (unhide R9).m u s1 rfl hu9 hs9 ?_; rw [unhide HSG])
                          go_roundw
                          case rel =>
                            refine .inl ⟨rfl, s1, by have := unhide HS1; omega, hs1R, fun t h1 h2 => ?_, by rw [show p + s1 = pp + 1 from by have := unhide HS1; have := unhide HPP; omega]; exact unhide R9, ?_⟩
                            · by_cases e : t = s1
                              · rw [e, unhide HS1, unhide HVS, ← unhide HS1]; exact unhide HSG
                              · exact unhide HNO t h1 (by have := unhide HS1; omega)
                            · rw [unhide HS1, unhide HVS, ← unhide HS1]; exact unhide E9
                          case measure =>
                            rw [rdMea_false c91, rdMea_false (unhide CE1), unhide HS1]
                            omega
                        | some y =>
                          have HSG := hide hsg
                          obtain ⟨hy16, hy0, hyq⟩ := signOf_some hsg
                          have hfy : frontP l R = some y := front_of_word (unhide HR) (t := s1) hs1R hy16 hy0 (by rw [unhide HS1, unhide HVS, ← unhide HS1]; exact hyq)
                          have hly : s1 = ln l y := (Prod.ext_iff.1 hyq).2
                          obtain ⟨i, r, c0, c1, y8, a1, a2, a3, a4, a5, a6, a7⟩ := outStep (unhide HDEC).len hq (fun x hx => ((unhide HDEC).fine x hx).1) hy16
                          obtain ⟨b1, b2, b3, b4, b5⟩ := outArith a1 a7 hy16
                          obtain ⟨d1, d2, d3, d4⟩ := shlArith hy16
                          have cG := (unhide R9).byte a3
                          have fG : wc.frozen? ⟨G, i, none⟩ = false := frozen_of_row _ _ i _ _ (unhide R9).o
                          have hiN : (i : Int) < (N : Int) := by omega
                          have HFY := hide hfy
                          have HLY := hide hly
                          have HA4 := hide a4
                          have HY0 := hide hy0
                          clear hsg hyq hfy hly a1 a3 a4 hy0
                          rcases a7 with ⟨rfl, a7⟩ | ⟨rfl, a7⟩
                          · rw [← a7] at d1 d2
                            clear a7
                            go_wp2_with (at_lookup; refine wpList_lookW rfl _ _ rfl M 16 (signOf l 16) rfl (unhide R9).m u s1 rfl hu9 hs9 ?_; rw [unhide HSG])
                            go_region
                            go_roundw
                            case rel =>
                              have hrf := RdIn.found hEG (unhide R9) (unhide E9) hy16 (unhide HFY) (unhide HLY) (unhide HPP) (unhide HS1) (unhide HA4)
                              first
                                | exact hrf
                                | ((repeat apply Exists.intro); exact ⟨hrf, rfl⟩)
                            case measure => exact RdIn.less (unhide CE1) hs15
                          · subst a7
                            go_wp2_with (at_lookup; refine wpList_lookW rfl _ _ rfl M 16 (signOf l 16) rfl (unhide R9).m u s1 rfl hu9 hs9 ?_; rw [unhide HSG])
                            go_region
                            go_roundw
                            case rel =>
                              have hrf := RdIn.found hEG (unhide R9) (unhide E9) hy16 (unhide HFY) (unhide HLY) (unhide HPP) (unhide HS1) (unhide HA4)
                              first
                                | exact hrf
                                | ((repeat apply Exists.intro); exact ⟨hrf, rfl⟩)
                            case measure => exact RdIn.less (unhide CE1) hs15
                    · have hsl : s = R.length := by omega
                      have hfn := frontNone (unhide HR) (unhide HNO) (.inl (by omega))
                      obtain ⟨e1, e2⟩ := readE_none (b := b) (unhide HE0).symm (unhide HN) ((unhide HDEC).none hq hfn)
                      have heq : ((p + s : Nat) : Int) = 8 * (b.length : Int) := by have := unhide HPR; omega
                      obtain ⟨pp, hpp⟩ : ∃ pp, pp = p + s := ⟨_, rfl⟩
                      rw [← hpp] at cA heq
                      have hbq : ((pp : Int) == 8 * (b.length : Int)) = true := by rw [beq_iff_eq]; exact heq
                      have d15 : (s : Int) ≤ 15 := by omega
                      have HE1 := hide e1
                      have HE2 := hide e2
                      clear hpp heq hfn e1 e2
                      go_wp2_with fail
                      go_ret2
                      rw [unhide HE1, unhide HE2, ← unhide HB]
                      exact ⟨rfl, (unhide HRD5).bel⟩
                  · have hfn := frontNone (unhide HR) (unhide HNO) (.inr (by omega))
                    obtain ⟨e1, e2⟩ := readE_none (b := b) (unhide HE0).symm (unhide HN) ((unhide HDEC).none hq hfn)
                    have d15 : ¬ (s : Int) ≤ 15 := by omega
                    have HE1 := hide e1
                    have HE2 := hide e2
                    clear hfn e1 e2
                    go_wp2_with fail
                    go_ret2
                    rw [unhide HE1, unhide HE2, ← unhide HB]
                    exact ⟨rfl, (unhide HRD5).bel⟩
                · have cE1 : wr.cell? ⟨E, 1, none⟩ = some (I s) := by rw [cell_of_row _ _ _ _ _ _ hE]; rfl
                  have hst := (unhide HDEC).step hq hfx
                  obtain ⟨_, _, hlx, _⟩ := word_of_front (unhide HR) hfx
                  have HST := hide hst
                  have HRD6 := hide hrd
                  clear hst hrd hE hfx
                  go_wp2_with fail
                  go_roundw
                  case rel => exact ⟨q + 1, p + ln l x, ks ++ [x], R.drop (ln l x), by go_num, unhide HST, by have := unhide HPR; rw [List.length_drop]; omega, by rw [← unhide HDR, List.drop_drop], unhide HRD6⟩
                  case measure => exact meas_up hq
            · have hq' : q = 2 * N := by omega
              have dq : decide ((q : Int) < 2 * (N : Int)) = false := by rw [decide_eq_false_iff_not]; omega
              have hdone := unhide HDEC
              rw [hq'] at hdone
              have hdd := hdone.done
              have hof := outO_full (ks := ks) (N := N) hdone.len
              have hks : ks.length = 2 * N := hdone.len
              have cA := (unhide HRK).at_
              have cT := (unhide HRK).text
              have hst := run_str_row (unhide HRK).o (by rw [outO_len (by omega)])
              have HDD := hide hdd
              have HOF := hide hof
              clear hdone hdd hof hks hq' hq
              by_cases h8 : 8 ≤ R.length
              · have hbg : goodRest R = false := by
                  cases hg : goodRest R with
                  | false => rfl
                  | true => have := ((goodRest_iff R).1 hg).1; omega
                obtain ⟨e1, e2⟩ := readE_left (b := b) (n := (N : Int)) (unhide HE0).symm (unhide HN) (unhide HDD) hbg
                have d8 : (8 : Int) ≤ 8 * (b.length : Int) - (p : Int) := by have := unhide HPR; omega
                have dw : wrap64 (8 * (b.length : Int) - (p : Int)) = 8 * (b.length : Int) - (p : Int) := tailWrap (unhide HPR) hb
                have HE1 := hide e1
                have HE2 := hide e2
                clear hbg e1 e2 h8
                go_wp2_with fail
                go_ret2
                rw [unhide HE1, unhide HE2, ← unhide HB]
                exact ⟨rfl, (unhide HRK).bel⟩
              · have d8 : ¬ (8 : Int) ≤ 8 * (b.length : Int) - (p : Int) := by have := unhide HPR; omega
                have dw : wrap64 (8 * (b.length : Int) - (p : Int)) = 8 * (b.length : Int) - (p : Int) := tailWrap (unhide HPR) hb
                go_wp2_with fail
                go_loopw [] (fun wr => ∃ t, t ≤ R.length ∧ (R.take t).all (fun b => !b) = true ∧ RdSt l b w wr B0 M G (p + t) (outO ks N)) (fun wr => 8 * b.length - (intOf ((wr.cell? ⟨G + 1, 0, none⟩).getD undef)).toNat)
                case atStart => exact ⟨0, by omega, rfl, unhide HRK⟩
                case round =>
                  obtain ⟨t, htR, hall, hrd⟩ := hrel
                  have cA4 := hrd.at_
                  have cT4 := hrd.text
                  have fA4 := hrd.free
                  have hst4 := run_str_row hrd.o (by rw [outO_len (by have := (unhide HDEC).len; have := (unhide HDEC).le; omega)])
                  have HR4 := hide hrd
                  have HALL := hide hall
                  clear hrd hall
                  by_cases htr : t < R.length
                  · obtain ⟨x, hx⟩ : ∃ x, R[t]? = some x := ⟨_, List.getElem?_eq_getElem htr⟩
                    have hux : (unpackB b)[p + t]? = some x := by rw [← hx, ← unhide HDR, List.getElem?_drop]
                    have dl : ((p + t : Nat) : Int) < 8 * (b.length : Int) := by have := unhide HPR; omega
                    have hpb : p + t ≤ 2000000000000000 := by
                      have := unhide HPR
                      exact readBound this htr hb
                    obtain ⟨pt, hpt⟩ : ∃ pt, pt = p + t := ⟨_, rfl⟩
                    rw [← hpt] at cA4 dl hux hpb
                    have KB := hide (fun (W : World) (h1 : W.cell? ⟨B0 + 1, 0, none⟩ = some (S b)) (h2 : W.cell? ⟨G + 1, 0, none⟩ = some (I pt)) (h3 : W.frozen? ⟨G + 1, 0, none⟩ = false) => readBit_any (B0 + 1) (G + 1) b pt x W h1 h2 h3 hux hpb)
                    have hsn : (R.take (t + 1)).all (fun b => !b) = !x := by rw [List.take_add_one, hx, List.all_append, unhide HALL]; simp
                    have hgx : x = true → goodRest R = false := by
                      intro e
                      unfold goodRest
                      rw [Bool.and_eq_false_iff]
                      right
                      rw [List.all_eq_false]
                      exact ⟨x, List.mem_of_getElem? hx, by rw [e]; simp⟩
                    have HPT := hide hpt
                    have HSN := hide hsn
                    clear hux hx hpt hsn hpb
                    cases x with
                    | true =>
                      obtain ⟨e1, e2⟩ := readE_left (b := b) (n := (N : Int)) (unhide HE0).symm (unhide HN) (unhide HDD) (hgx rfl)
                      have HE1 := hide e1
                      have HE2 := hide e2
                      clear e1 e2 hgx
                      go_wp2_with (go_at_call 204; refine (unhide KB _ (by exact cT4) (by exact cA4) (by exact fA4)).mono ?_; rintro e w7 ⟨rfl, hw7⟩; have HW7 := hide hw7; clear hw7)
                      go_ret2
                      obtain ⟨q7, e7⟩ := unhide HW7
                      rw [unhide HE1, unhide HE2, ← unhide HB, e7]
                      exact ⟨rfl, below_drewN ((unhide HR4).setAt _).bel _⟩
                    | false =>
                      clear hgx
                      go_wp2_with (go_at_call 204; refine (unhide KB _ (by exact cT4) (by exact cA4) (by exact fA4)).mono ?_; rintro e w7 ⟨rfl, hw7⟩; have HW7 := hide hw7; clear hw7)
                      go_roundw
                      case rel =>
                        obtain ⟨q7, e7⟩ := unhide HW7
                        have r7 := (unhide HR4).setAt (pt + 1)
                        refine ⟨t + 1, htr, unhide HSN, ?_⟩
                        rw [e7, show p + (t + 1) = pt + 1 from by have := unhide HPT; omega]
                        exact ⟨r7.s, r7.m, r7.o, r7.c, below_drewN r7.bel _, r7.l1, r7.l2⟩
                      case measure =>
                        obtain ⟨q7, e7⟩ := unhide HW7
                        have r7 := ((unhide HR4).setAt (pt + 1)).at_
                        have c7 : w7.cell? ⟨G + 1, 0, none⟩ = some (I ((pt + 1 : Nat))) := by rw [e7]; exact r7
                        rw [c7, cA4]
                        exact tailMea dl
                  · have hg : goodRest R = true := by
                      unfold goodRest
                      have := unhide HALL
                      rw [List.take_of_length_le (by omega)] at this
                      rw [this]; simp; omega
                    obtain ⟨e1, e2⟩ := readE_ok (b := b) (n := (N : Int)) (unhide HE0).symm (unhide HN) (unhide HDD) hg
                    have dl : ¬ ((p + t : Nat) : Int) < 8 * (b.length : Int) := by have := unhide HPR; omega
                    obtain ⟨pt, hpt⟩ : ∃ pt, pt = p + t := ⟨_, rfl⟩
                    rw [← hpt] at cA4 dl
                    have HE1 := hide e1
                    have HE2 := hide e2
                    clear e1 e2 hg hpt
                    go_wp2_with fail
                    go_ret2
                    rw [unhide HE1, unhide HE2, ← unhide HOF, ← unhide HB]
                    exact ⟨rfl, (unhide HR4).bel⟩
  · have z1 : ((e0 : Int) == 0) = false := by rw [beq_eq_false_iff_ne]; omega
    have z2 : ((e0 : Int) != 0) = true := by rw [bne_iff_ne]; omega
    have H0 := hide h0
    clear h0
    go_wp2_with (first
      | (refine wpList_load16 rfl (.tmp 3) rfl B0 (by rw [unhide HB]; rfl) l (unhide HL) (by rw [← unhide HW0]; exact (unhide H1)) ?_; rw [← unhide HW0, ← unhide HB])
      | (go_at_call 175; refine (unhide CK).mono ?_; rintro e w1 ⟨rfl, hb1⟩; have HB1 := hide hb1; clear hb1))
    go_ret2
    obtain ⟨e1, e2⟩ := readE_code (l := l) (b := b) (n := n) (by rw [← unhide HE0]; exact unhide H0)
    rw [e1, e2, ← unhide HE0, ← unhide HB]
    exact ⟨rfl, (unhide H3).trans ((unhide HB1).mono (by rw [unhide H4]; omega))⟩
end Go.Proofs.YtjpgoeimclipjaaGreat
namespace Go.Proofs.YtjpgoeimclipjaaGreat
open Go.RowKit Go.Lib Pl
attribute [local go_sem] ext_list app_list
set_option maxHeartbeats 2000000 in
set_option maxRecDepth 100000 in
theorem decoded_any (s : Bytes) (w : World) (hs : s.length ≤ 140737488355328) :
    Calls Tryz.prog 161 #[S s] w fun e w' => TextRes (decoded s) e ∧ Below w.heap.size w w' := by
  by_cases h8 : s.length < 8
  · have hd : decoded s = none := by unfold decoded; rw [if_pos h8]
    rw [hd]
    have h8i : (s.length : Int) < 8 := by omega
    go_enter Tryz.func161, Tryz.ntmps161
    go_wp2_with fail
    go_ret2
    exact ⟨.inr ⟨1, rfl, by decide, rfl⟩, Below.refl _ _⟩
  · have hz := zero16v
    obtain ⟨L, hL⟩ : ∃ L, L = unHd s := ⟨_, rfl⟩
    have hl16 : L.length = 16 := by rw [hL]; exact unHd_len (by omega)
    obtain ⟨X, hX⟩ : ∃ X, X = slice s 8 s.length := ⟨_, rfl⟩
    have hX2 : X = s.drop 8 := by rw [hX, slice_end]
    have hXl : X.length ≤ s.length := by rw [hX2, List.length_drop]; omega
    have hdec : decoded s = decodeO L X := by
      unfold decoded; rw [if_neg h8, hX2, hL]
    rw [hdec]
    have HL := hide hL
    have HL16 := hide hl16
    have HX := hide hX
    obtain ⟨B, hB⟩ : ∃ B, B = w.heap.size := ⟨_, rfl⟩
    obtain ⟨w0, hw0⟩ : ∃ w0, w0 = w.alloc (.cells (cells16 (Lf fun _ => 0)) 145) := ⟨_, rfl⟩
    have H0 := hide (show BoxL (Lf fun _ => 0) w w0 B B by rw [hw0, hB]; exact BoxL.new _ _)
    have HB := hide hB
    have h8n : 8 ≤ s.length := by omega
    have h8i : ¬ ((s.length : Int) < 8) := by omega
    clear h8 hX2 hL hl16 hdec
    go_enter Tryz.func161, Tryz.ntmps161
    go_wp2_with fail
    rw [← hw0, ← unhide HB]
    clear hw0 hB
    go_loopw [12] (fun iv wr => ∃ k : Nat, k ≤ 16 ∧ iv = .int .i64 k ∧ BoxL (firstL L k) w wr B B) (fun iv _ => 16 - (intOf iv).toNat)
    case atStart => exact ⟨0, by omega, rfl, by rw [firstL_zero]; exact unhide H0⟩
    case round =>
      obtain ⟨k, hk, rfl, hat⟩ := hrel
      have HAT := hide hat
      have hsz := hat.lt
      clear hat
      by_cases hk16 : k < 16
      · obtain ⟨q, r, hkq, hr2⟩ : ∃ q r, k = 2 * q + r ∧ r < 2 := ⟨k / 2, k % 2, by omega, by omega⟩
        have hq : q < s.length := by omega
        obtain ⟨c, hcc⟩ : ∃ c, (⟨s.toArray⟩ : ByteArray)[q]'hq = c := ⟨_, rfl⟩
        have hsc : s[q]? = some c := by rw [List.getElem?_eq_getElem hq]; exact congrArg some hcc
        obtain ⟨n1, n2⟩ := unHd_get (b := s) (q := q) (by omega) hsc
        rw [← unhide HL] at n1 n2
        have hc256 := c.toNat_lt
        have t1 : (k : Int).tdiv 2 = (q : Int) := by rw [Int.tdiv_eq_ediv_of_nonneg (by omega)]; omega
        have t2 : (k : Int) / 2 = (q : Int) := by omega
        have t3 : (k : Int).tmod 2 = (r : Int) := by rw [Int.tmod_eq_emod_of_nonneg (by omega)]; omega
        have t4 : (k : Int) % 2 = (r : Int) := by omega
        have a1 := and15i c
        have a2 := and15ihi c
        obtain ⟨x, hxk, hx16, aa⟩ : ∃ x : Nat, L[k]? = some (x : Int) ∧ x < 16 ∧ ((r = 0 ∧ bits .and .i64 ((c.toNat : Int) / 16) 15 = (x : Int)) ∨ (r = 1 ∧ bits .and .i64 (c.toNat : Int) 15 = (x : Int))) := by
          rcases (show r = 0 ∨ r = 1 by omega) with e | e
          · exact ⟨c.toNat / 16, by rw [hkq, e]; exact n1, by omega, .inl ⟨e, a2⟩⟩
          · exact ⟨c.toNat % 16, by rw [hkq, e]; exact n2, by omega, .inr ⟨e, a1⟩⟩
        have hst := (unhide HAT).put k (x : Int)
        rw [firstL_next hxk] at hst
        have HST := hide hst
        have f1 := (unhide HAT).free k
        obtain ⟨y, hy⟩ : ∃ y, (firstL L k)[k]? = some y := ⟨_, List.getElem?_eq_getElem (by rw [firstL_len]; exact hk16)⟩
        have c1 := (unhide HAT).get hy
        have HKQ := hide hkq
        clear hsc n1 n2 a1 a2 hxk hst hy hkq
        rcases aa with ⟨rfl, a1⟩ | ⟨rfl, a1⟩
        all_goals
          go_wp2_with fail
          go_roundw
          case rel => exact ⟨k + 1, by omega, by go_num, unhide HST⟩
          case measure => simp [intOf]; omega
      · have hk' : k = 16 := by omega
        subst hk'
        rw [firstL_all (unhide HL16)] at HAT
        cases ht : take X with
        | none =>
          have HD := hide (decodeO_none (L := L) ht)
          have c1 := hide (fun W => take_no ht W (by omega))
          have HXX := unhide HX
          clear ht
          go_wp2_with fail
          rw [← HXX]
          refine (unhide c1 _).mono ?_
          rintro e w1 ⟨rfl, hb1⟩
          have H1 := hide ((unhide HAT).below hb1)
          clear hb1
          go_wp2_with fail
          go_ret2
          rw [unhide HD, ← unhide HB]
          exact ⟨.inr ⟨1, rfl, by decide, rfl⟩, (unhide H1).bel⟩
        | some p =>
          obtain ⟨n, r⟩ := p
          have hd := decodeO_some (L := L) ht
          obtain ⟨e1, e2⟩ := take_some ht
          have hrl : r.length ≤ X.length := by rw [e1, List.length_append]; omega
          have hn : n ≤ 2147483647 := e2
          have c1 := hide (fun W => take_ok ht W (by omega))
          have c2 := fun (W : World) => codeRead_any codeWords_any L r (n : Int) W (unhide HL16) (by omega) (by omega) (by omega)
          obtain ⟨te, hte⟩ : ∃ te, te = readE L r (n : Int) := ⟨_, rfl⟩
          obtain ⟨T, hT⟩ : ∃ T, T = readS L r (n : Int) := ⟨_, rfl⟩
          have hres : TextRes (if te = 0 then some T else none) (.returned (.tuple #[S T, I (te : Int)])) := by
            by_cases h0 : te = 0
            · rw [if_pos h0, h0]; exact .inl ⟨T, rfl, rfl⟩
            · rw [if_neg h0]
              have : T = [] := by rw [hT]; exact readS_none (by rw [← hte]; exact h0)
              rw [this]; exact .inr ⟨te, rfl, h0, rfl⟩
          rw [← hte, ← hT] at c2 hd
          have HD := hide hd
          have c2 := hide c2
          have HRES := hide hres
          have HXX := unhide HX
          clear hte hT hres e1 e2 ht hd
          go_wp2_with fail
          rw [← HXX]
          refine (unhide c1 _).mono ?_
          rintro e w1 ⟨rfl, hb1⟩
          have H1 := hide ((unhide HAT).below hb1)
          clear hb1
          go_wp2_with (first
            | (refine wpList_load16 rfl (.tmp 4) rfl B rfl L (unhide HL16) (unhide H1).o ?_))
          refine (unhide c2 _).mono ?_
          rintro e w2 ⟨rfl, hb2⟩
          have H2 := hide ((unhide H1).below hb2)
          clear hb2
          go_wp2_with fail
          go_ret2
          rw [unhide HD, ← unhide HB]
          exact ⟨unhide HRES, (unhide H2).bel⟩
end Go.Proofs.YtjpgoeimclipjaaGreat
namespace Go.Proofs.YtjpgoeimclipjaaGreat
open Go.RowKit Go.Lib Pl
attribute [local go_sem] ext_list app_list
theorem tokFrom_none {s : Bytes} (h : take s = none) : tokFrom s = none := by unfold tokFrom; rw [h]
theorem tokFrom_short {s r : Bytes} {n : Nat} (h : take s = some (n, r)) (e : n % 2 = 0) (hl : r.length < n / 2) : tokFrom s = none := by
  unfold tokFrom; rw [h]; simp only; rw [if_pos e, if_pos hl]
theorem tokFrom_even {s r : Bytes} {n : Nat} (h : take s = some (n, r)) (e : n % 2 = 0) (hl : ¬ r.length < n / 2) : tokFrom s = some (⟨slice r 0 (n / 2), 0, 0⟩, slice r (n / 2) r.length) := by
  unfold tokFrom; rw [h]; simp only; rw [if_pos e, if_neg hl, slice_head, slice_end]
theorem tokFrom_oddno {s r : Bytes} {n : Nat} (h : take s = some (n, r)) (e : ¬ n % 2 = 0) (h2 : take r = none) : tokFrom s = none := by
  unfold tokFrom; rw [h]; simp only; rw [if_neg e, h2]
theorem tokFrom_odd {s r r2 : Bytes} {n f : Nat} (h : take s = some (n, r)) (e : ¬ n % 2 = 0) (h2 : take r = some (f, r2)) : tokFrom s = some (⟨[], (f : Nat), ((n / 2 : Nat) : Int)⟩, r2) := by
  unfold tokFrom; rw [h]; simp only; rw [if_neg e, h2]
def strLen : Value → Nat
  | .string b => b.data.toList.length
  | _ => 0
/-- what ToksFrom hands back -/
def FromToks (w' : World) (e : Ending) (r : Option (List Tok)) : Prop :=
  ∃ v is, e = .returned (.tuple #[v, .bool is]) ∧ ((is = false ∧ v = .slice none 0 0 ∧ r = none) ∨ (is = true ∧ ∃ l, r = some l ∧ ToksV w' v l))
theorem FromToks.no {w' : World} {r : Option (List Tok)} (h : r = none) : FromToks w' (.returned (.tuple #[.slice none 0 0, .bool false])) r := ⟨_, _, rfl, .inl ⟨rfl, rfl, h⟩⟩
theorem toksOf_map {s rest r : Bytes} {o : List Tok} {t : Tok} (h : toksOf s = (toksOf rest).map (o ++ ·)) (hs : rest ≠ []) (ht : tokFrom rest = some (t, r)) :
    toksOf s = (toksOf r).map ((o ++ [t]) ++ ·) := by
  rw [h, toksOf_some hs ht, Option.map_map]
  congr 1
  funext x; simp
def FromRel (w wr : World) (s : Bytes) (v sv : Value) : Prop :=
  ∃ (n : Nat) (o : List Tok) (rest : Bytes), sv = S rest ∧ n ≤ 512 ∧ rest.length ≤ s.length ∧ wr.ownsRow w.heap.size 183 3 v n (toksCells o) ∧ toksOf s = (toksOf rest).map (o ++ ·) ∧ Below w.heap.size w wr
set_option maxHeartbeats 2000000 in
set_option maxRecDepth 100000 in
theorem toksFrom_any (dict s : Bytes) (w : World) (hd : dict.length ≤ 256) (hs : s.length ≤ 4611686018427387904) :
    Calls Tryz.prog 117 #[S dict, S s] w fun e w' => FromToks w' e (read dict s) ∧ Below w.heap.size w w' := by
  go_enter Tryz.func117, Tryz.ntmps117
  go_wp2_with fail
  go_loopw [6, 1] (fun v sv wr => FromRel w wr s v sv) (fun _ sv _ => strLen sv)
  case atStart => exact ⟨0, [], s, rfl, by omega, Nat.le_refl _, World.ownsRow_nil _ _ _ _, by simp, Below.refl _ _⟩
  case round =>
    obtain ⟨n, o, rest, rfl, hn, hrl, hown, hto, hbel⟩ := hrel
    obtain ⟨A, cap, rfl⟩ := own_slice hown
    have HTO := hide hto
    have HOWN := hide hown
    clear hto hown
    by_cases hr : rest = []
    · subst hr
      have hto2 : toksOf s = some o := by rw [unhide HTO, toksOf_nil]; simp
      obtain ⟨A', cap', hAe, hat, hlen⟩ := toksAt_of_own (unhide HOWN)
      obtain ⟨rfl, rfl⟩ : A = A' ∧ cap = cap' := by injection hAe with a b c; exact ⟨a, c⟩
      have HT2 := hide hto2
      have HAT := hide hat
      clear hto2 hAe hlen hat
      have C1 := hide (checkToks_any dict A n cap o wr (unhide HAT) (by omega) (by omega))
      by_cases hp : (play dict o).2 = 0
      · have hrd := read_good hd (unhide HT2) hp
        have HRD := hide hrd
        have e1 : (((play dict o).2 : Int) == 0) = true := by rw [hp]; rfl
        have e2 : (((play dict o).2 : Int) != 0) = false := by rw [hp]; rfl
        clear hrd hp
        go_wp2_with fail
        refine (unhide C1).mono ?_
        rintro e w1 ⟨rfl, hb1⟩
        go_wp2_with fail
        go_ret2
        have hat1 := (unhide HAT).below hb1
        refine ⟨⟨_, _, rfl, .inr ⟨rfl, o, unhide HRD, A, n, cap, rfl, ?_⟩⟩, hbel.trans (hb1.mono hbel.size)⟩
        exact ⟨hat1.1, fun hn => by obtain ⟨b, off, e, hb, hc⟩ := hat1.2 hn; exact ⟨b, off, e, Nat.lt_of_lt_of_le hb hb1.size, hc⟩⟩
      · have hrd := read_bad hd (unhide HT2) hp
        have HRD := hide hrd
        have e1 : (((play dict o).2 : Int) == 0) = false := by rw [beq_eq_false_iff_ne]; omega
        have e2 : (((play dict o).2 : Int) != 0) = true := by rw [bne_iff_ne]; omega
        clear hrd hp
        go_wp2_with fail
        refine (unhide C1).mono ?_
        rintro e w1 ⟨rfl, hb1⟩
        go_wp2_with fail
        go_ret2
        exact ⟨FromToks.no (unhide HRD), hbel.trans (hb1.mono hbel.size)⟩
    · have hr1 : rest.isEmpty = false := by simpa using hr
      have hr2 : (rest == []) = false := by simpa using hr
      have HR := hide hr
      have hsl : rest.length ≤ 9223372036854775807 := by omega
      clear hr
      cases hk : take rest with
      | none =>
        have C1 := hide (fun W => numFrom_no hk W hsl)
        have hrd : read dict s = none := read_none hd (by rw [unhide HTO, toksOf_none (unhide HR) (tokFrom_none hk)]; rfl)
        have HRD := hide hrd
        clear hrd hk
        go_wp2_with fail
        refine (unhide C1 _).mono ?_
        rintro e w1 ⟨rfl, hb1⟩
        go_wp2_with fail
        go_ret2
        exact ⟨FromToks.no (unhide HRD), hbel.trans (hb1.mono hbel.size)⟩
      | some p =>
        obtain ⟨q, r⟩ := p
        have C1 := hide (fun W => numFrom_ok hk W hsl)
        have hq : q ≤ 2147483647 := (take_some hk).2
        have hrlen := Pl.take_len hk
        obtain ⟨m, hm⟩ : ∃ m, m = q / 2 := ⟨_, rfl⟩
        have hm2 : (q : Int) / 2 = (m : Int) := by omega
        have hmb : m ≤ 1073741824 := by omega
        by_cases he : q % 2 = 0
        · have he2 : (q : Int) % 2 = 0 := by omega
          by_cases hsh : r.length < m
          · have hrd : read dict s = none := read_none hd (by rw [unhide HTO, toksOf_none (unhide HR) (tokFrom_short hk he (by omega))]; rfl)
            have HRD := hide hrd
            have hsh2 : decide (r.length < m) = true := by simp; omega
            clear hrd hk hm he
            go_wp2_with fail
            refine (unhide C1 _).mono ?_
            rintro e w1 ⟨rfl, hb1⟩
            go_wp2_with fail
            go_ret2
            exact ⟨FromToks.no (unhide HRD), (hbel.trans (hb1.mono hbel.size)).alloc (Nat.le_trans hbel.size hb1.size) _⟩
          · have hsh2 : decide (r.length < m) = false := by simp; omega
            have htf := tokFrom_even hk he (by omega)
            rw [← hm] at htf
            have htm := toksOf_map (unhide HTO) (unhide HR) htf
            have HTM := hide htm
            have HM := hide hm
            have hsl2 := slice_len r m r.length
            clear hk hm he htf htm
            go_wp2_with fail
            refine (unhide C1 _).mono ?_
            rintro e w1 ⟨rfl, hb1⟩
            have hbw := Nat.le_trans hbel.size hb1.size
            by_cases hmany : 512 < n + 1
            · go_wp2_with (at_builtin; refine wpList_push_tok_at rfl (.tmp 52) (.tmp 54) rfl w.heap.size _ n o rfl ((own_below (unhide HOWN) hb1).alloc _) (slice r 0 m) 0 0 (w1.heap.size + 1) (by simp) rfl (by omega) (by simp; omega) ?_; intro A4 cap4 w4 hown4 hb4 hg4)
              go_ret2
              have hrd : read dict s = none := read_many hd (unhide HTM) (by have := hown4.1; rw [toksCells_len] at this; omega)
              exact ⟨FromToks.no hrd, ((hbel.trans (hb1.mono hbel.size)).alloc hbw _).trans hb4⟩
            · go_wp2_with (at_builtin; refine wpList_push_tok_at rfl (.tmp 52) (.tmp 54) rfl w.heap.size _ n o rfl ((own_below (unhide HOWN) hb1).alloc _) (slice r 0 m) 0 0 (w1.heap.size + 1) (by simp) rfl (by omega) (by simp; omega) ?_; intro A4 cap4 w4 hown4 hb4 hg4)
              go_roundw
              case rel => exact ⟨n + 1, _, slice r m r.length, rfl, by omega, by omega, hown4, unhide HTM, ((hbel.trans (hb1.mono hbel.size)).alloc hbw _).trans hb4⟩
              case measure => simp [strLen]; omega
        · have he2 : (q : Int) % 2 = 1 := by omega
          cases hk2 : take r with
          | none =>
            have C2 := hide (fun W => numFrom_no hk2 W (by omega))
            have hrd : read dict s = none := read_none hd (by rw [unhide HTO, toksOf_none (unhide HR) (tokFrom_oddno hk he hk2)]; rfl)
            have HRD := hide hrd
            clear hrd hk hm he hk2
            go_wp2_with fail
            refine (unhide C1 _).mono ?_
            rintro e w1 ⟨rfl, hb1⟩
            have hbw := Nat.le_trans hbel.size hb1.size
            go_wp2_with fail
            refine (unhide C2 _).mono ?_
            rintro e w2 ⟨rfl, hb2⟩
            have B0 := (hb2.block w1.heap.size (by simp)).trans (heap_alloc_new w1 _)
            have K0 : w2.cell? ⟨w1.heap.size, 0, none⟩ = some (S []) := by rw [cell_of_row w2 _ 0 _ _ _ B0]; rfl
            have K1 : w2.cell? ⟨w1.heap.size, 1, none⟩ = some (I 0) := by rw [cell_of_row w2 _ 1 _ _ _ B0]; rfl
            have K2 : w2.cell? ⟨w1.heap.size, 2, none⟩ = some (I m) := by rw [cell_of_row w2 _ 2 _ _ _ B0]; rfl
            have F1 : w2.frozen? ⟨w1.heap.size, 1, none⟩ = false := free_row w2 _ 1 _ _ B0
            clear B0
            go_wp2_with fail
            go_ret2
            exact ⟨FromToks.no (unhide HRD), (((hbel.trans (hb1.mono hbel.size)).alloc hbw _).trans (hb2.mono (by simp; omega))).setCell (by simpa using hbw) _⟩
          | some p2 =>
            obtain ⟨f, r2⟩ := p2
            have C2 := hide (fun W => numFrom_ok hk2 W (by omega))
            have hr2len := Pl.take_len hk2
            have htf := tokFrom_odd hk he hk2
            rw [← hm] at htf
            have htm := toksOf_map (unhide HTO) (unhide HR) htf
            have HTM := hide htm
            clear hk hm he hk2 htf htm
            go_wp2_with fail
            refine (unhide C1 _).mono ?_
            rintro e w1 ⟨rfl, hb1⟩
            have hbw := Nat.le_trans hbel.size hb1.size
            go_wp2_with fail
            refine (unhide C2 _).mono ?_
            rintro e w2 ⟨rfl, hb2⟩
            have hz2 : w1.heap.size + 1 ≤ w2.heap.size := by have := hb2.size; simpa using this
            have B0 := (hb2.block w1.heap.size (by simp)).trans (heap_alloc_new w1 _)
            have K0 : w2.cell? ⟨w1.heap.size, 0, none⟩ = some (S []) := by rw [cell_of_row w2 _ 0 _ _ _ B0]; rfl
            have K1 : w2.cell? ⟨w1.heap.size, 1, none⟩ = some (I 0) := by rw [cell_of_row w2 _ 1 _ _ _ B0]; rfl
            have K2 : w2.cell? ⟨w1.heap.size, 2, none⟩ = some (I m) := by rw [cell_of_row w2 _ 2 _ _ _ B0]; rfl
            have F1 : w2.frozen? ⟨w1.heap.size, 1, none⟩ = false := free_row w2 _ 1 _ _ B0
            clear B0
            have hbX : Below w.heap.size w (w2.setCell ⟨w1.heap.size, 1, none⟩ (I f)) := (((hbel.trans (hb1.mono hbel.size)).alloc hbw _).trans (hb2.mono (by simp; omega))).setCell (by simpa using hbw) _
            have hownX : (w2.setCell ⟨w1.heap.size, 1, none⟩ (I f)).ownsRow w.heap.size 183 3 (.slice A n cap) n (toksCells o) := by
              have h1 := own_below (unhide HOWN) hb1
              have h2 := own_below (h1.alloc _) hb2
              exact row_keep h2 fun g hg => Below.heap_setCell _ _ _ _ (by have := (h1.lt g hg).2; simp; omega)
            have HBX := hide hbX
            have HOX := hide hownX
            clear hbX hownX
            by_cases hmany : 512 < n + 1
            · go_wp2_with (at_builtin; refine wpList_push_tok_at rfl (.tmp 52) (.tmp 54) rfl w.heap.size _ n o rfl (unhide HOX) [] f m w2.heap.size (by simp) rfl (by omega) (by simp; omega) ?_; intro A4 cap4 w4 hown4 hb4 hg4)
              go_ret2
              have hrd : read dict s = none := read_many hd (unhide HTM) (by have := hown4.1; rw [toksCells_len] at this; omega)
              exact ⟨FromToks.no hrd, (unhide HBX).trans hb4⟩
            · go_wp2_with (at_builtin; refine wpList_push_tok_at rfl (.tmp 52) (.tmp 54) rfl w.heap.size _ n o rfl (unhide HOX) [] f m w2.heap.size (by simp) rfl (by omega) (by simp; omega) ?_; intro A4 cap4 w4 hown4 hb4 hg4)
              go_roundw
              case rel => exact ⟨n + 1, _, r2, rfl, by omega, by omega, hown4, unhide HTM, (unhide HBX).trans hb4⟩
              case measure => simp [strLen]; omega
end Go.Proofs.YtjpgoeimclipjaaGreat
