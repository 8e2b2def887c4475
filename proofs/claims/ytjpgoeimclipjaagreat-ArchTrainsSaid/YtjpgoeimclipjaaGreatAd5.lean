/- Parts of the proofs. -/
import Derived.Test.YtjpgoeimclipjaaGreatAd4
import Derived.Laws.Rows
import Derived.Deep.QuietTactic
import Derived.BigQuiet
namespace Go.Proofs.YtjpgoeimclipjaaGreat
open Go.RowKit Go.Lib Pl
namespace Pl
def Least (l : List Tr) (k i : Nat) : Prop := ∀ a, l[k]? = some a → ∀ j b, j < i → j ≠ k → l[j]? = some b → keyLt a b = true
theorem Least.one (l : List Tr) : Least l 0 1 := fun a _ j b h1 h2 _ => absurd h1 (by omega)
theorem Least.up {l : List Tr} {k i : Nat} {a b : Tr} (h : Least l k i) (ha : l[k]? = some a) (hb : l[i]? = some b) (hlt : keyLt b a = true) : Least l i (i + 1) := by
 intro x hx j y hj hne hy
 rw [hb] at hx; cases hx
 by_cases e : j = k
 ·subst e; rw [ha] at hy; cases hy; exact hlt
 ·have h1 := h a ha j y (by omega) e hy
  rw [keyLt_iff] at h1 hlt ⊢; omega
theorem KD.get {l : List Tr} (h : KD l) {i j : Nat} {a b : Tr} (hi : l[i]? = some a) (hj : l[j]? = some b) (hne : i ≠ j) : hd a ≠ hd b := by
 obtain ⟨h1, rfl⟩ := List.getElem?_eq_some_iff.1 hi
 obtain ⟨h2, rfl⟩ := List.getElem?_eq_some_iff.1 hj
 have hp := List.pairwise_iff_getElem.1 h
 rcases Nat.lt_or_gt_of_ne hne with h3 | h3
 ·exact hp i j h1 h2 h3
 ·exact (hp j i h2 h1 h3).symm
theorem Least.stay {l : List Tr} {k i : Nat} {a b : Tr} (hk : KD l) (h : Least l k i) (ha : l[k]? = some a) (hb : l[i]? = some b) (hlt : keyLt b a = false) (hki : k < i) : Least l k (i + 1) := by
 intro x hx j y hj hne hy
 rw [ha] at hx; cases hx
 by_cases e : j = i
 ·subst e; rw [hb] at hy; cases hy
  have := hk.get ha hb (by omega)
  rw [Bool.eq_false_iff, ne_eq, keyLt_iff] at hlt
  rw [keyLt_iff]; omega
 ·exact h a ha j y (by omega) hne hy
theorem perm_erase {α : Type} : ∀ {l : List α} {k : Nat} {a : α}, l[k]? = some a → (a :: l.eraseIdx k).Perm l
 | [], k, a, h => by simp at h
 | x :: l, 0, a, h => by simp at h; subst h; exact List.Perm.refl _
 | x :: l, k + 1, a, h => by
  have h' : l[k]? = some a := by simpa using h
  rw [List.eraseIdx_cons_succ]
  exact (List.Perm.swap x a _).trans ((perm_erase h').cons x)
theorem mem_erase {α : Type} {l : List α} {k : Nat} {y : α} (h : y ∈ l.eraseIdx k) : ∃ j, j ≠ k ∧ l[j]? = some y := by
 obtain ⟨j, hj⟩ := List.mem_iff_getElem?.1 h
 rw [List.getElem?_eraseIdx] at hj
 split at hj
 ·exact ⟨j, by omega, hj⟩
 ·exact ⟨j + 1, by omega, hj⟩
theorem take_least {l : List Tr} {k : Nat} {a : Tr} (hF : Forest l) (ha : l[k]? = some a) (h : Least l k l.length) : sortT l = a :: sortT (l.eraseIdx k) ∧ (a :: l.eraseIdx k).Perm l := by
 have hp := perm_erase ha
 have hF2 := hF.perm hp.symm
 have hFr : Forest (l.eraseIdx k) := ⟨fun t ht => hF2.vt t (by simp [ht]), (List.pairwise_cons.1 hF2.dis).2⟩
 refine ⟨sortT_of_srt hF.kd (((sortT_perm _).cons a).trans hp) (List.pairwise_cons.2 ⟨fun y hy => ?_, sortT_srt _ hFr.kd⟩), hp⟩
 obtain ⟨j, hj, hy2⟩ := mem_erase ((sortT_perm _).mem_iff.1 hy)
 exact h a ha j y (List.getElem?_eq_some_iff.1 hy2).1 hj hy2
def less (l : List Tr) (k i : Nat) : List Tr := (l.take i).eraseIdx k
theorem less_skip (l : List Tr) (k : Nat) : less l k (k + 1) = less l k k := by
 unfold less
 rw [List.eraseIdx_of_length_le (l := l.take k) (by rw [List.length_take]; omega)]
 rw [List.eraseIdx_eq_take_drop_succ, List.take_take, List.drop_eq_nil_of_le (by rw [List.length_take]; omega), Nat.min_eq_left (by omega), List.append_nil]
theorem less_step {l : List Tr} {k i : Nat} {x : Tr} (hx : l[i]? = some x) (hne : i ≠ k) : less l k (i + 1) = less l k i ++ [x] := by
 unfold less
 have hlt := (List.getElem?_eq_some_iff.1 hx).1
 rw [List.take_add_one, hx, Option.toList_some]
 rcases Nat.lt_or_gt_of_ne hne with h | h
 ·rw [List.eraseIdx_of_length_le (by rw [List.length_append, List.length_take]; simp; omega), List.eraseIdx_of_length_le (by rw [List.length_take]; omega)]
 ·rw [List.eraseIdx_append_of_lt_length (by rw [List.length_take]; omega)]
theorem less_all (l : List Tr) (k : Nat) : less l k l.length = l.eraseIdx k := by unfold less; rw [List.take_length]
theorem less_len (l : List Tr) (k i : Nat) : (less l k i).length ≤ i := by
 unfold less
 have := List.length_eraseIdx_le (l.take i) k
 rw [List.length_take] at this; omega
end Pl
theorem encs_get : ∀ (l : List Tr) (i : Nat) (t : Tr), l[i]? = some t → ∀ j v, (encR t)[j]? = some v → (l.flatMap encR)[i * 17 + j]? = some v
 | [], i, t, h => by simp at h
 | u :: l, 0, t, h => fun j v hv => by
  simp at h; subst h
  have hj := (List.getElem?_eq_some_iff.1 hv).1
  rw [List.flatMap_cons, Nat.zero_mul, Nat.zero_add, List.getElem?_append_left hj]; exact hv
 | u :: l, i + 1, t, h => fun j v hv => by
  have h' : l[i]? = some t := by simpa using h
  rw [List.flatMap_cons, List.getElem?_append_right (by rw [encR_len]; omega), encR_len, show (i + 1) * 17 + j - 17 = i * 17 + j from by omega]
  exact encs_get l i t h' j v hv
theorem own_range {w : World} {base g n cap : Nat} {l : List Tr} (h : w.ownsRow base 219 17 (.slice (some ⟨g, 0, none⟩) n cap) n (l.flatMap encR)) {i : Nat} {t : Tr} (hi : l[i]? = some t) : w.rangeAt g (i * 17) (encR t) := by
 intro j v hv
 have := h.cells (g := g) rfl (i * 17 + j) v (encs_get l i t hi j v hv)
 rwa [Addr.add_mid, Nat.zero_add] at this
structure TwoR (w : World) (g oi : Nat) (x : Tr) (ok : Nat) (y : Tr) : Prop where
 lt : g < w.heap.size
 a : w.rangeAt g oi (encR x)
 b : w.rangeAt g ok (encR y)
theorem TwoR.below {w w' : World} {g oi ok : Nat} {x y : Tr} (h : TwoR w g oi x ok y) (hb : Below w.heap.size w w') : TwoR w' g oi x ok y :=
 ⟨Nat.lt_of_lt_of_le h.lt hb.size, fun j v hv => (hb.cell (p := ⟨g, _, none⟩) h.lt).trans (h.a j v hv), fun j v hv => (hb.cell (p := ⟨g, _, none⟩) h.lt).trans (h.b j v hv)⟩
theorem info_treeR : (Tryz.prog.info? 219).map (fun i => (i.zero, i.size, i.bytes)) = some (some (.agg #[.bool false, .bool false, .bool false, .bool false, .bool false, .bool false, .bool false, .bool false, .bool false, .bool false, .bool false, .bool false, .bool false, .bool false, .bool false, .bool false, .int .i64 0]), 17, 24) := by kernel_rfl
abbrev zeroR : Array Value := #[.bool false, .bool false, .bool false, .bool false, .bool false, .bool false, .bool false, .bool false, .bool false, .bool false, .bool false, .bool false, .bool false, .bool false, .bool false, .bool false, .int .i64 0]
theorem zeroRv (w : World) : (zeroValue 219).run Tryz.prog w = .ok (.agg zeroR) w := (zero_of_info (n := 17) (by kernel_rfl)).1 w
theorem cells17_new (w : World) (t : Tr) (T : TypeId) : ∀ j u, (encR t)[j]? = some u → (w.alloc (.cells #[.bool (has t 0), .bool (has t 1), .bool (has t 2), .bool (has t 3), .bool (has t 4), .bool (has t 5), .bool (has t 6), .bool (has t 7), .bool (has t 8), .bool (has t 9), .bool (has t 10), .bool (has t 11), .bool (has t 12), .bool (has t 13), .bool (has t 14), .bool (has t 15), I t.1] T)).cell? ((⟨w.heap.size, 0, none⟩ : Addr).add j) = some u := by
 intro j u hj
 rw [Addr.add_mid, Nat.zero_add, World.cell?_alloc_new, List.getElem?_toArray]; exact hj
theorem encR_one (t : Tr) : ∀ v ∈ encR t, v.oneCell' = true := by
 intro v hv
 unfold encR at hv
 simp only [List.mem_cons, List.not_mem_nil, or_false] at hv
 rcases hv with rfl | rfl | rfl | rfl | rfl | rfl | rfl | rfl | rfl | rfl | rfl | rfl | rfl | rfl | rfl | rfl | rfl <;> rfl
theorem own_slice17 {w : World} {base e size n : Nat} {v : Value} {xs : List Value} (h : w.ownsRow base e size v n xs) : ∃ A cap, v = .slice A n cap := by
 rcases h.2 with ⟨rfl, rfl⟩ | ⟨g, cap, cur, rfl, _⟩
 ·exact ⟨_, _, rfl⟩
 ·exact ⟨_, _, rfl⟩
theorem foldl_set_get : ∀ (cs : List Value) (k : Nat) (z : Array Value) (j : Nat), (List.foldl (fun (cs : Array Value) (x : Value × Nat) => cs.setIfInBounds x.snd x.fst) z (cs.zipIdx k))[j]? = if k ≤ j ∧ j < k + cs.length ∧ j < z.size then cs[j - k]? else z[j]?
 | [], k, z, j => by simp; omega
 | c :: cs, k, z, j => by
  rw [List.zipIdx_cons, List.foldl_cons, foldl_set_get cs (k + 1) _ j]
  simp only [Array.size_setIfInBounds, List.length_cons, Array.getElem?_setIfInBounds]
  by_cases h1 : k = j
  ·subst h1
   rw [if_neg (by omega), if_pos rfl]
   by_cases h2 : k < z.size
   ·rw [if_pos h2, if_pos (by omega)]; simp
   ·rw [if_neg h2, if_neg (by omega)]; simp [h2]
  ·by_cases h2 : k + 1 ≤ j ∧ j < k + 1 + cs.length ∧ j < z.size
   ·rw [if_pos h2, if_pos (by omega), show j - k = (j - (k + 1)) + 1 from by omega, List.getElem?_cons_succ]
   ·rw [if_neg h2, if_neg h1, if_neg (by omega)]
theorem foldl_set (cs : List Value) (z : Array Value) (h : z.size = cs.length) : List.foldl (fun (cs : Array Value) (x : Value × Nat) => cs.setIfInBounds x.snd x.fst) z cs.zipIdx = cs.toArray := by
 apply Array.ext_getElem?
 intro j
 rw [foldl_set_get cs 0 z j]
 by_cases hj : j < cs.length
 ·rw [if_pos (by omega)]; simp
 ·rw [if_neg (by omega), Array.getElem?_eq_none (by omega)]; simp; omega
theorem buildR (x : Tr) : List.foldl (fun (cs : Array Value) (x : Value × Nat) => cs.setIfInBounds x.snd x.fst) #[.bool false, .bool false, .bool false, .bool false, .bool false, .bool false, .bool false, .bool false, .bool false, .bool false, .bool false, .bool false, .bool false, .bool false, .bool false, .bool false, .int .i64 0] (encR x).zipIdx = (encR x).toArray := foldl_set _ _ (by rw [encR_len]; rfl)
theorem wpList_push_R {w : World} {ops : Array Oper} {rest : List Oper} {o : Oper} {a : Act} {Q : Exit → Act → World → Prop} (hgd : o.guard = none) (s x : Operand)
  (ho : o.op = .call { callee := .builtin .append, args := #[s, x], argTypes := #[216, 216] })
  (base : Nat) (v : Value) (n : Nat) (l : List Tr) (hs : a.eval s = v) (hown : w.ownsRow base 219 17 v n (l.flatMap encR)) (t : Tr)
  (H : Nat) (hH : w.heap.size = H) (hx : a.eval x = .slice (some ⟨H, 0, none⟩) 1 1)
  (hn : n ≤ 1000000) (hbase : base ≤ w.heap.size)
  (h : ∀ A' cap' w', w'.ownsRow base 219 17 (.slice A' (n + 1) cap') (n + 1) ((l ++ [t]).flatMap encR) → Below base w w' → (w.alloc (.cells #[.bool (has t 0), .bool (has t 1), .bool (has t 2), .bool (has t 3), .bool (has t 4), .bool (has t 5), .bool (has t 6), .bool (has t 7), .bool (has t 8), .bool (has t 9), .bool (has t 10), .bool (has t 11), .bool (has t 12), .bool (has t 13), .bool (has t 14), .bool (has t 15), I t.1] 219)).grownBy w' v.ownBlock → wpList Tryz.prog ops Q rest (a.put o.dst (.slice A' (n + 1) cap')) w') :
  wpList Tryz.prog ops Q (o :: rest) a (w.alloc (.cells #[.bool (has t 0), .bool (has t 1), .bool (has t 2), .bool (has t 3), .bool (has t 4), .bool (has t 5), .bool (has t 6), .bool (has t 7), .bool (has t 8), .bool (has t 9), .bool (has t 10), .bool (has t 11), .bool (has t 12), .bool (has t 13), .bool (has t 14), .bool (has t 15), I t.1] 219)) := by
 subst hH
 obtain ⟨i0, hi, hz0, hz1, hz2⟩ := info_parts info_treeR
 refine wpList_append_own _ hgd s x _ ho base 219 i0 _ 17 24 Tryz.underlying216 hi hz0 hz1 hz2 rfl (by decide) v n (l.flatMap encR) hs (hown.alloc _) ⟨w.heap.size, 0, none⟩ 1 1 (encR t) hx (by rw [encR_len]) (cells17_new w t _) (encR_one t) (by unfold maxLen; omega) (by omega) (by simp; omega) ?_
 intro v' w' hown' hg _
 have hown2 : w'.ownsRow base 219 17 v' (n + 1) ((l ++ [t]).flatMap encR) := by
  rw [List.flatMap_append, List.flatMap_singleton]; exact hown'
 obtain ⟨A', cap', rfl⟩ := own_slice17 hown2
 refine h A' cap' w' hown2 ?_ hg
 exact ((Below.refl _ _).alloc hbase _).grown hg (by simp; omega) (fun k hk => (hown.lt k hk).1)
theorem own_setRow_other {w : World} {base n D : Nat} {v : Value} {e : TypeId} {size : Nat} {xs : List Value} (h : w.ownsRow base e size v n xs) (hD : D < base) (cs : Array Value) : (w.setRow D cs).ownsRow base e size v n xs := by
 refine ⟨h.1, ?_⟩
 rcases h.2 with hn | ⟨g, cap, cur, hv, hb, hg, rest⟩
 ·exact .inl hn
 ·exact .inr ⟨g, cap, cur, hv, hb, (setRow_other w D g cs (by omega)).trans hg, rest⟩
theorem own_lower {w : World} {base b n : Nat} {v : Value} {e : TypeId} {size : Nat} {xs : List Value} (h : w.ownsRow base e size v n xs) (hb : b ≤ base) : w.ownsRow b e size v n xs := by
 refine ⟨h.1, ?_⟩
 rcases h.2 with hn | ⟨g, cap, cur, hv, hb', rest⟩
 ·exact .inl hn
 ·exact .inr ⟨g, cap, cur, hv, Nat.le_trans hb hb', rest⟩
def TakeRes (l : List Tr) (n B : Nat) (w : World) (e : Ending) (w' : World) : Prop := ∃ a k v, l[k]? = some a ∧ Least l k n ∧ e = .returned (.tuple #[VR a, v]) ∧ w'.ownsRow B 219 17 v (n - 1) ((l.eraseIdx k).flatMap encR) ∧ Below B w w'
set_option maxHeartbeats 4000000 in
set_option maxRecDepth 100000 in
theorem takeLeast_any (l : List Tr) (base g n cap : Nat) (w : World) (hF : Forest l) (hn : l.length = n) (h1 : 1 ≤ n) (h16 : n ≤ 16) (hown : w.ownsRow base 219 17 (.slice (some ⟨g, 0, none⟩) n cap) n (l.flatMap encR)) :
  Calls Tryz.prog 179 #[.slice (some ⟨g, 0, none⟩) n cap] w (TakeRes l n w.heap.size w) := by
 obtain ⟨B, hB⟩ : ∃ B, B = w.heap.size := ⟨_, rfl⟩
 have hgl : g < w.heap.size := (hown.lt g rfl).2
 obtain ⟨w0, hw0⟩ : ∃ w0, w0 = w.alloc (.cells zeroR 219) := ⟨_, rfl⟩
 have h2 : w0.heap[B]? = some (.cells zeroR 219 (0, 0)) := by subst hB; rw [hw0]; exact heap_alloc_new _ _
 have h3 : Below B w w0 := by subst hB; rw [hw0]; exact (Below.refl _ _).alloc (Nat.le_refl _) _
 have h4 : w0.heap.size = B + 1 := by subst hB; rw [hw0]; simp
 have h5 : w0.ownsRow base 219 17 (.slice (some ⟨g, 0, none⟩) n cap) n (l.flatMap encR) := by rw [hw0]; exact hown.alloc _
 have hgB : g < B := by rw [hB]; exact hgl
 rw [← hB]
 have H2 := hide h2
 have H3 := hide h3
 have H4 := hide h4
 have H5 := hide h5
 have HB := hide hB
 have HN := hide hn
 have HF := hide hF
 have KL := hide (fun (x y : Tr) (W : World) => lighter_any x y W)
 have hz := zeroRv
 clear hB hn hF h2 h3 h4 h5 hown hgl
 go_enter Tryz.func179, Tryz.ntmps179
 go_wp2_with fail
 rw [← hw0, ← unhide HB]
 clear hw0
 go_loopw [4, 5] (fun kv iv wr => ∃ k i : Nat, k < i ∧ i ≤ n ∧ kv = .int .i64 k ∧ iv = .int .i64 i ∧ Least l k i ∧ Below (B + 1) w0 wr) (fun _ iv _ => n - (intOf iv).toNat)
 case atStart => exact ⟨0, 1, by omega, by omega, rfl, rfl, Least.one l, Below.refl _ _⟩
 case round =>
  obtain ⟨k, i, hki, hin, rfl, rfl, hle, hbel⟩ := hrel
  have HLE := hide hle
  clear hle
  have hsz : B + 1 ≤ wr.heap.size := by have := unhide H4; have := hbel.size; omega
  have hown : wr.ownsRow base 219 17 (.slice (some ⟨g, 0, none⟩) n cap) n (l.flatMap encR) := own_below (unhide H5) (hbel.mono (by have := unhide H4; omega))
  have HO := hide hown
  clear hown
  by_cases hlt : i < n
  ·obtain ⟨x, hx⟩ : ∃ x, l[i]? = some x := ⟨_, List.getElem?_eq_getElem (by have := unhide HN; omega)⟩
   obtain ⟨y, hy⟩ : ∃ y, l[k]? = some y := ⟨_, List.getElem?_eq_getElem (by have := unhide HN; omega)⟩
   have hvx := (unhide HF).vt x (List.mem_of_getElem? hx)
   have hvy := (unhide HF).vt y (List.mem_of_getElem? hy)
   have hkn : k < n := by omega
   have K0 := fun (W : World) => unhide KL x y W hvx hvy
   have ht : TwoR wr g (i * 17) x (k * 17) y := ⟨by omega, own_range (unhide HO) hx, own_range (unhide HO) hy⟩
   have HX := hide hx
   have HY := hide hy
   clear hvx hvy hx hy
   obtain ⟨oi, hoi⟩ : ∃ oi, oi = i * 17 := ⟨_, rfl⟩
   obtain ⟨ok, hok⟩ : ∃ ok, ok = k * 17 := ⟨_, rfl⟩
   rw [← hoi, ← hok] at ht
   have HT := hide ht
   clear ht
   have hoi' := hoi.symm
   have hok' := hok.symm
   clear hoi hok
   cases hk : keyLt x y
   all_goals
    rw [hk] at K0
    have K1 := hide K0
    have HK := hide hk
    clear K0 hk
    go_upto_region 5 with fail
    refine wp_region_noPanic ?_
    refine wp_region_held_drew (S := fun w' => TwoR w' g oi x ok y) (by kernel_rfl) ((unhide HT).below (Below.drew (Below.refl _ _))) (fun hHeld => ?_)
    refine wpAnyH_take (i := 0) (oi := _) (v := .slice (some ⟨g, 0, none⟩) n cap) rfl (by kernel_rfl) (by kernel_rfl) (by kernel_rfl) (fun _ _ _ h => h) (Or.inl ⟨rfl, fun w _ => by go_simp⟩) hHeld ?_
    try simp only [Act.put, List.setIfInBounds_toArray]
    refine wpAnyH_take (i := 1) (oi := _) (v := .int .i64 i) rfl (by kernel_rfl) (by kernel_rfl) (by kernel_rfl) (fun _ _ _ h => h) (Or.inl ⟨rfl, fun w _ => by go_simp⟩) hHeld ?_
    try simp only [Act.put]
    refine wpAnyH_take (i := 2) (oi := _) (v := .pointer (some ⟨g, oi, none⟩)) rfl (by kernel_rfl) (by kernel_rfl) (by kernel_rfl) (fun _ _ _ h => h) (Or.inl ⟨rfl, fun w _ => by go_simp⟩) hHeld ?_
    try simp only [Act.put]
    refine wpAnyH_take (i := 3) (oi := _) (v := .agg (encR x).toArray) rfl (by kernel_rfl) (by kernel_rfl) (by kernel_rfl) (fun _ _ _ h => h) (yieldsIf_load_mid rfl _ _ rfl g oi rfl _ _ (fun w h => h.a) Tryz.underlying219 rfl sizeP) hHeld ?_
    try simp only [Act.put]
    refine wpAnyH_take (i := 4) (oi := _) (v := .slice (some ⟨g, 0, none⟩) n cap) rfl (by kernel_rfl) (by kernel_rfl) (by kernel_rfl) (fun _ _ _ h => h) (Or.inl ⟨rfl, fun w _ => by go_simp⟩) hHeld ?_
    try simp only [Act.put]
    refine wpAnyH_take (i := 5) (oi := _) (v := .int .i64 k) rfl (by kernel_rfl) (by kernel_rfl) (by kernel_rfl) (fun _ _ _ h => h) (Or.inl ⟨rfl, fun w _ => by go_simp⟩) hHeld ?_
    try simp only [Act.put]
    refine wpAnyH_take (i := 6) (oi := _) (v := .pointer (some ⟨g, ok, none⟩)) rfl (by kernel_rfl) (by kernel_rfl) (by kernel_rfl) (fun _ _ _ h => h) (Or.inl ⟨rfl, fun w _ => by go_simp⟩) hHeld ?_
    try simp only [Act.put]
    refine wpAnyH_take (i := 7) (oi := _) (v := .agg (encR y).toArray) rfl (by kernel_rfl) (by kernel_rfl) (by kernel_rfl) (fun _ _ _ h => h) (yieldsIf_load_mid rfl _ _ rfl g ok rfl _ _ (fun w h => h.b) Tryz.underlying219 rfl sizeP) hHeld ?_
    try simp only [Act.put]
    refine wpAnyH_ready (rs := [8]) (by kernel_rfl) (by simp) ?_
    refine AllReadyH.cons (o := _) rfl (fun K hK => ?_) AllReadyH.nil
    go_simp
    refine (unhide K1 _).mono ?_
    rintro e w1 ⟨rfl, hb⟩
    refine hK.out _ _ (hHeld.below hb) (fun hHeld2 => ?_)
    clear hK K hHeld
    try simp only [Act.put, List.setIfInBounds_toArray, List.set_cons_zero, List.set_cons_succ]
    refine wpAnyH_done (by kernel_rfl) ?_ _
    refine NoPanic.normal ?_
    clear hHeld2
    all_goals
     have hb9 : Below (B + 1) w0 w1 := (Below.drew hbel).trans (hb.mono (by exact hsz))
     have HB9 := hide hb9
     clear hb hb9 hbel
     go_wp2_with fail
     go_roundw
     case rel =>
      first
       | exact ⟨k, i + 1, by omega, by omega, rfl, by go_num, (unhide HLE).stay (unhide HF).kd (unhide HY) (unhide HX) (unhide HK) hki, unhide HB9⟩
       | exact ⟨i, i + 1, by omega, by omega, rfl, by go_num, (unhide HLE).up (unhide HY) (unhide HX) (unhide HK), unhide HB9⟩
     case measure => simp [intOf]; omega
  ·have hd : decide ((i : Int) < (n : Int)) = false := by rw [decide_eq_false_iff_not]; omega
   have hle2 : Least l k n := by rw [show n = i from by omega]; exact unhide HLE
   have hkn : k < n := by omega
   have HL2 := hide hle2
   clear hle2
   obtain ⟨a, ha⟩ : ∃ a, l[k]? = some a := ⟨_, List.getElem?_eq_getElem (by have := unhide HN; omega)⟩
   have HA := hide ha
   have hBw : wr.heap[B]? = some (.cells zeroR 219 (0, 0)) := (hbel.block B (by omega)).trans (unhide H2)
   have HBW := hide hBw
   have HBEL := hide ((unhide H3).trans (hbel.mono (by omega)))
   clear ha hBw hbel
   go_wp2_with fail
   go_loopw [6, 7] (fun rv jv w2 => ∃ j : Nat, j ≤ n ∧ jv = .int .i64 j ∧ w2.ownsRow (B + 1) 219 17 rv (less l k j).length ((less l k j).flatMap encR) ∧ Below (B + 1) wr w2) (fun _ jv _ => n - (intOf jv).toNat)
   case atStart => exact ⟨0, by omega, rfl, by rw [show less l k 0 = [] from rfl]; exact World.ownsRow_nil _ _ _ _, Below.refl _ _⟩
   case round =>
    obtain ⟨j, hjn, rfl, hown2, hbel2⟩ := hrel
    have hsz2 : B + 1 ≤ wr.heap.size := by have := hbel2.size; omega
    have ho : wr.ownsRow base 219 17 (.slice (some ⟨g, 0, none⟩) n cap) n (l.flatMap encR) := by
     refine ⟨(unhide HO).1, ?_⟩
     rcases (unhide HO).2 with ⟨hv, _⟩ | ⟨g', cap', cur, hv, hb, hg', rest⟩
     ·cases hv
     ·refine .inr ⟨g', cap', cur, hv, hb, ?_, rest⟩
      injection hv with e1; injection e1 with e1; injection e1 with e1
      exact (hbel2.block g' (by omega)).trans hg'
    by_cases hjl : j < n
    ·obtain ⟨x, hx⟩ : ∃ x, l[j]? = some x := ⟨_, List.getElem?_eq_getElem (by have := unhide HN; omega)⟩
     have hr := own_range ho hx
     by_cases hjk : j = k
     ·have z1 : ((j : Int) != (k : Int)) = false := by rw [hjk]; simp
      have z2 : (j != k) = false := by rw [hjk]; simp
      have hsk : less l k (j + 1) = less l k j := by rw [hjk]; exact less_skip l k
      have HSK := hide hsk
      clear hjk hsk hx hr ho
      go_wp2_with fail
      go_roundw
      case rel => exact ⟨j + 1, by omega, by go_num, by rw [unhide HSK]; exact hown2, hbel2⟩
      case measure => simp [intOf]; omega
     ·have z1 : ((j : Int) != (k : Int)) = true := by rw [bne_iff_ne]; omega
      have z2 : (j != k) = true := by rw [bne_iff_ne]; exact hjk
      have hst := less_step hx hjk
      obtain ⟨m, hm⟩ : ∃ m, m = (less l k j).length := ⟨_, rfl⟩
      have hm16 : m ≤ 16 := by have := less_len l k j; omega
      rw [← hm] at hown2
      have HST := hide hst
      have HM := hide hm
      have HOWN2 := hide hown2
      obtain ⟨oi, hoi⟩ : ∃ oi, oi = j * 17 := ⟨_, rfl⟩
      rw [← hoi] at hr
      have q0 : wr.cell? ⟨g, oi, none⟩ = some (.bool (has x 0)) := hr 0 _ rfl
      have q1 : wr.cell? ⟨g, oi + 1, none⟩ = some (.bool (has x 1)) := hr 1 _ rfl
      have q2 : wr.cell? ⟨g, oi + 2, none⟩ = some (.bool (has x 2)) := hr 2 _ rfl
      have q3 : wr.cell? ⟨g, oi + 3, none⟩ = some (.bool (has x 3)) := hr 3 _ rfl
      have q4 : wr.cell? ⟨g, oi + 4, none⟩ = some (.bool (has x 4)) := hr 4 _ rfl
      have q5 : wr.cell? ⟨g, oi + 5, none⟩ = some (.bool (has x 5)) := hr 5 _ rfl
      have q6 : wr.cell? ⟨g, oi + 6, none⟩ = some (.bool (has x 6)) := hr 6 _ rfl
      have q7 : wr.cell? ⟨g, oi + 7, none⟩ = some (.bool (has x 7)) := hr 7 _ rfl
      have q8 : wr.cell? ⟨g, oi + 8, none⟩ = some (.bool (has x 8)) := hr 8 _ rfl
      have q9 : wr.cell? ⟨g, oi + 9, none⟩ = some (.bool (has x 9)) := hr 9 _ rfl
      have q10 : wr.cell? ⟨g, oi + 10, none⟩ = some (.bool (has x 10)) := hr 10 _ rfl
      have q11 : wr.cell? ⟨g, oi + 11, none⟩ = some (.bool (has x 11)) := hr 11 _ rfl
      have q12 : wr.cell? ⟨g, oi + 12, none⟩ = some (.bool (has x 12)) := hr 12 _ rfl
      have q13 : wr.cell? ⟨g, oi + 13, none⟩ = some (.bool (has x 13)) := hr 13 _ rfl
      have q14 : wr.cell? ⟨g, oi + 14, none⟩ = some (.bool (has x 14)) := hr 14 _ rfl
      have q15 : wr.cell? ⟨g, oi + 15, none⟩ = some (.bool (has x 15)) := hr 15 _ rfl
      have q16 : wr.cell? ⟨g, oi + 16, none⟩ = some (I x.1) := hr 16 _ rfl
      have hoi' := hoi.symm
      have HRG := hide hr
      have h17 := encR_len x
      clear hjk hst hm hx hr ho hown2 hoi
      go_wp2_with (first
       | (refine wpList_load_mid rfl 219 (.tmp 36) rfl g oi rfl (encR x) _ (unhide HRG) Tryz.underlying219 rfl sizeP ?_)
       | at_builtin; rw [buildR x]; refine wpList_push_R rfl _ _ rfl (B + 1) _ m (less l k j) rfl (unhide HOWN2) x wr.heap.size rfl rfl (by omega) hsz2 ?_; intro A' cap' w3 hown3 hb3 hg3; have HOWN3 := hide hown3; have HB3 := hide hb3; clear hown3 hb3 hg3)
      go_roundw
      case rel => exact ⟨j + 1, by omega, by go_num, by rw [unhide HST, List.length_append, ← unhide HM]; exact unhide HOWN3, hbel2.trans (unhide HB3)⟩
      case measure => simp [intOf]; omega
    ·have hd2 : decide ((j : Int) < (n : Int)) = false := by rw [decide_eq_false_iff_not]; omega
     have hall : less l k j = l.eraseIdx k := by rw [show j = l.length from by have := unhide HN; omega]; exact less_all l k
     have hlen : (less l k j).length = n - 1 := by rw [hall, List.length_eraseIdx_of_lt (by have := unhide HN; omega), unhide HN]
     rw [hall] at hown2
     rw [hall] at hlen
     rw [hlen] at hown2
     have hr := own_range ho (unhide HA)
     have HOWN2 := hide hown2
     have hb2 : wr.heap[B]? = some (.cells zeroR 219 (0, 0)) := (hbel2.block B (by omega)).trans (unhide HBW)
     have HB2 := hide hb2
     have HBEL2 := hide ((unhide HBEL).trans (hbel2.mono (by omega)))
     obtain ⟨oi, hoi⟩ : ∃ oi, oi = k * 17 := ⟨_, rfl⟩
     rw [← hoi] at hr
     have q0 : wr.cell? ⟨g, oi, none⟩ = some (.bool (has a 0)) := hr 0 _ rfl
     have q1 : wr.cell? ⟨g, oi + 1, none⟩ = some (.bool (has a 1)) := hr 1 _ rfl
     have q2 : wr.cell? ⟨g, oi + 2, none⟩ = some (.bool (has a 2)) := hr 2 _ rfl
     have q3 : wr.cell? ⟨g, oi + 3, none⟩ = some (.bool (has a 3)) := hr 3 _ rfl
     have q4 : wr.cell? ⟨g, oi + 4, none⟩ = some (.bool (has a 4)) := hr 4 _ rfl
     have q5 : wr.cell? ⟨g, oi + 5, none⟩ = some (.bool (has a 5)) := hr 5 _ rfl
     have q6 : wr.cell? ⟨g, oi + 6, none⟩ = some (.bool (has a 6)) := hr 6 _ rfl
     have q7 : wr.cell? ⟨g, oi + 7, none⟩ = some (.bool (has a 7)) := hr 7 _ rfl
     have q8 : wr.cell? ⟨g, oi + 8, none⟩ = some (.bool (has a 8)) := hr 8 _ rfl
     have q9 : wr.cell? ⟨g, oi + 9, none⟩ = some (.bool (has a 9)) := hr 9 _ rfl
     have q10 : wr.cell? ⟨g, oi + 10, none⟩ = some (.bool (has a 10)) := hr 10 _ rfl
     have q11 : wr.cell? ⟨g, oi + 11, none⟩ = some (.bool (has a 11)) := hr 11 _ rfl
     have q12 : wr.cell? ⟨g, oi + 12, none⟩ = some (.bool (has a 12)) := hr 12 _ rfl
     have q13 : wr.cell? ⟨g, oi + 13, none⟩ = some (.bool (has a 13)) := hr 13 _ rfl
     have q14 : wr.cell? ⟨g, oi + 14, none⟩ = some (.bool (has a 14)) := hr 14 _ rfl
     have q15 : wr.cell? ⟨g, oi + 15, none⟩ = some (.bool (has a 15)) := hr 15 _ rfl
     have q16 : wr.cell? ⟨g, oi + 16, none⟩ = some (I a.1) := hr 16 _ rfl
     have hoi' := hoi.symm
     have HRG := hide hr
     clear hall hlen hown2 hr ho hb2 hbel2 hoi
     go_wp2_with (first
      | (refine wpList_load_mid rfl 219 (.tmp 42) rfl g oi rfl (encR a) _ (unhide HRG) Tryz.underlying219 rfl sizeP ?_)
      | (refine wpList_store_row rfl 219 (.tmp 2) (.tmp 43) rfl B (encR a).toArray rfl rfl 219 _ (unhide HB2) (by kernel_rfl) rfl (all_oneCell_toArray (encR_one a)) ?_))
     refine bodyPost_ret (results_row_tmp rfl _ _ B 219 (encR a).toArray (0, 0) _ rfl (setRow_heap _ _ _ _ _ _ (unhide HB2)) Tryz.underlying219 rfl (by kernel_rfl)) rfl ?_
     refine ⟨a, k, _, unhide HA, unhide HL2, rfl, ?_, below_setRow (unhide HBEL2) (Nat.le_refl _) _⟩
     exact own_lower (own_setRow_other (unhide HOWN2) (Nat.lt_succ_self B) _) (by omega)
end Go.Proofs.YtjpgoeimclipjaaGreat
namespace Go.Proofs.YtjpgoeimclipjaaGreat
open Go.RowKit Go.Lib Pl
abbrev cells16 (l : List Int) : Array Value := (l.map (Value.int .i64)).toArray
abbrev A16 (l : List Int) : Value := .agg (cells16 l)
theorem info16 : (Tryz.prog.info? 145).map (·.size) = some 16 := by kernel_rfl
theorem wpList_load16 {ops : Array Oper} {rest : List Oper} {o : Oper} {a : Act} {w : World} {Q : Exit → Act → World → Prop} (hgd : o.guard = none) (x : Operand) (ho : o.op = .load 145 x)
  (g : Nat) (hx : a.eval x = .pointer (some ⟨g, 0, none⟩)) (l : List Int) (hl : l.length = 16) {t : TypeId} {fz : Nat × Nat} (hg : w.heap[g]? = some (.cells (cells16 l) t fz))
  (h : wpList Tryz.prog ops Q rest (a.put o.dst (A16 l)) w) : wpList Tryz.prog ops Q (o :: rest) a w :=
 wpList_load_row hgd 145 x ho g hx t (cells16 l) fz _ hg Tryz.underlying145 rfl (by rw [info16]; simp [hl]) h
theorem cell16 {w : World} {g : Nat} {l : List Int} {t : TypeId} {fz : Nat × Nat} (hg : w.heap[g]? = some (.cells (cells16 l) t fz)) {k : Nat} {x : Int} (hk : l[k]? = some x) : w.cell? ⟨g, k, none⟩ = some (.int .i64 x) := by
 rw [cell_of_row w _ k _ _ _ hg]
 simp [cells16, hk]
theorem run_index16 (l : List Int) (hl : l.length = 16) (k : Nat) (x : Int) (hk : l[k]? = some x) (w : World) : (Instr.index 145 (A16 l) (.int .i64 k)).run Tryz.prog w = .ok (.int .i64 x) w := by
 have hk2 : k < l.length := (List.getElem?_eq_some_iff.1 hk).1
 have hk3 : l[k] = x := (List.getElem?_eq_some_iff.1 hk).2
 unfold Instr.index
 simp [run_underlying Tryz.underlying145, asIntOf, Result.andThen, part, Tryz.isAgg3, Tryz.sizeOf3, cells16, hk]
 intro h2; omega
end Go.Proofs.YtjpgoeimclipjaaGreat
namespace Go.Proofs.YtjpgoeimclipjaaGreat
open Go.RowKit Go.Lib Pl
attribute [local go_sem] ext_list app_list
theorem drop_cons {α : Type} {l : List α} {k : Nat} {t : α} (h : l[k]? = some t) : l.drop k = t :: l.drop (k + 1) := by
 have hk : k < l.length := (List.getElem?_eq_some_iff.1 h).1
 rw [List.drop_eq_getElem_cons hk]
 congr 1
 rw [List.getElem?_eq_getElem hk] at h
 injection h
set_option maxHeartbeats 1000000 in
set_option maxRecDepth 100000 in
theorem play_walk (dict : Bytes) (A : Option Addr) (n cap : Nat) (l : List Tok) (w : World) (hl : ToksAt w w.heap.size A n l) (hd : dict.length ≤ 256) (hn : n ≤ 4611686018427387904) :
  Calls Tryz.prog 163 #[S dict, .slice A n cap] w fun e w' => e = .returned (.tuple #[S (play dict l).1, I (play dict l).2]) ∧ Below w.heap.size w w' := by
 have kb := fun (W : World) => run_bytes_of_string (P := Tryz.prog) W 9 77 5 ⟨dict.toArray⟩ Tryz.underlying9 Tryz.underlying77 Tryz.underlying5
 go_enter Tryz.func163, Tryz.ntmps163
 go_wp2_with fail
 go_loopw [21] (fun i wr => ∃ (k : Nat) (lit : Bool) (s : Bytes), k ≤ n ∧ i = .int .i64 k ∧ Mk wr w.heap.size (w.heap.size + 1) dict.length lit s ∧ dict.length ≤ s.length ∧ s.length ≤ dict.length + 512 ∧
   playF dict.length s lit (l.drop k) = play dict l ∧ Below w.heap.size w wr)
  (fun i _ => n - (intOf i).toNat)
 case atStart =>
  refine ⟨0, false, dict, by omega, rfl, Mk.made w _ dict (Nat.le_refl _) (by omega), by omega, by omega, ?_, ?_⟩
  ·unfold play; rw [if_neg (by unfold maxDict; omega)]; rfl
  ·exact ((Below.refl _ _).drew.alloc (Nat.le_refl _) _).alloc (by simp) _
 case round =>
  obtain ⟨k, lit, s, hk, rfl, hMk, hs1, hs2, hpl, hbel⟩ := hrel
  by_cases hkn : k < n
  ·obtain ⟨b, off, t, rfl, hb, ht, q0, q1, q2⟩ := (hl.below hbel).at_ hkn
   obtain ⟨c, hc⟩ : ∃ c, c = tokE dict.length s lit t := ⟨_, rfl⟩
   have c1 := fun (W : World) (h : Mk W w.heap.size (w.heap.size + 1) dict.length lit s) => tok_any w.heap.size (w.heap.size + 1) dict.length lit s t W h hs1 hs2 hd
   rw [← hc] at c1
   have C1 := hide c1
   have HC := hide hc
   have HP := hide hpl
   have HT := hide ht
   clear c1 hc hpl ht
   by_cases hz : c = 0
   ·subst hz
    go_wp2_with fail
    refine (unhide C1 _ (hMk.alloc _)).mono ?_
    rintro e w1 ⟨rfl, hmk1, hb1, _⟩
    have hmk1 := hmk1 (by first | trivial | exact (unhide HC).symm)
    go_wp2_with fail
    go_roundw
    case rel =>
     obtain ⟨h1, h2, _⟩ := tokS_len (unhide HC).symm hs2 hs1
     refine ⟨k + 1, isLit t, tokS s t, by omega, by go_num, hmk1, h1, h2, ?_, (hbel.alloc hbel.size _).trans hb1⟩
     rw [← unhide HP, drop_cons (unhide HT), playF, if_neg (by rw [← unhide HC]; omega)]
    case measure => simp [intOf]; omega
   ·have HZ := hide hz
    have z1 : ((c : Int) == 0) = false := beq_eq_false_iff_ne.2 (by omega)
    have z2 : ((c : Int) != 0) = true := by rw [bne_iff_ne]; omega
    clear hz
    go_wp2_with fail
    refine (unhide C1 _ (hMk.alloc _)).mono ?_
    rintro e w1 ⟨rfl, _, hb1, _⟩
    go_wp2_with fail
    go_ret2
    rw [← unhide HP, drop_cons (unhide HT), playF, if_pos (by rw [← unhide HC]; exact unhide HZ), ← unhide HC]
    exact ⟨rfl, (hbel.alloc hbel.size _).trans hb1⟩
  ·have hkn2 : k = n := by omega
   have hpl2 : play dict l = (s.drop dict.length, 0) := by
    rw [← hpl, hkn2, List.drop_of_length_le (by have := hl.1; omega), playF]
   obtain ⟨hbM, A1, cap1, hblk, hown⟩ := hMk
   have c0 : wr.cell? ⟨w.heap.size + 1, 0, none⟩ = some (.slice A1 s.length cap1) := by rw [cell_of_row wr _ 0 _ _ _ hblk]; rfl
   have HP := hide hpl2
   have HO := hide hown
   clear hpl2 hkn2 hblk hown hpl
   have st1 := run_str_cut (P := Tryz.prog) (k := dict.length) (unhide HO) 77 9 Tryz.underlying77 Tryz.underlying5 Tryz.underlying9
   have hnc : s.length ≤ cap1 := by
    rcases (unhide HO).2 with ⟨hv, h0⟩ | ⟨g, cap', cur, fz, hv, _, _, _, h5, _⟩
    ·omega
    ·injection hv with _ _ h6; omega
   by_cases hcd : cap1 = dict.length
   ·have hsl : s.length - dict.length = 0 := by omega
    have st0 := fun (p : Option Addr) (c : Nat) => run_str_zero (P := Tryz.prog) wr p c 77 9 5 Tryz.underlying77 Tryz.underlying5 Tryz.underlying9
    have hdr : s.drop dict.length = [] := List.drop_of_length_le (by omega)
    have HD := hide hdr
    clear st1 hdr
    go_wp2_with fail
    go_ret2
    rw [unhide HP, unhide HD]
    exact ⟨rfl, hbel⟩
   ·go_wp2_with fail
    go_ret2
    rw [unhide HP]
    exact ⟨rfl, hbel⟩
set_option maxHeartbeats 1000000 in
set_option maxRecDepth 100000 in
theorem play_many (dict : Bytes) (A : Option Addr) (n cap : Nat) (w : World) (hd : 256 < dict.length) (hd2 : dict.length ≤ 9223372036854775807) :
  Calls Tryz.prog 163 #[S dict, .slice A n cap] w fun e w' => e = .returned (.tuple #[S [], I 2]) ∧ Below w.heap.size w w' := by
 go_enter Tryz.func163, Tryz.ntmps163
 go_wp2_with fail
 go_ret2
 exact ⟨rfl, Below.refl _ _⟩
theorem play_any (dict : Bytes) (A : Option Addr) (n cap : Nat) (l : List Tok) (w : World) (hl : ToksAt w w.heap.size A n l) (hd : dict.length ≤ 9223372036854775807) (hn : n ≤ 4611686018427387904) :
  Calls Tryz.prog 163 #[S dict, .slice A n cap] w fun e w' => e = .returned (.tuple #[S (play dict l).1, I (play dict l).2]) ∧ Below w.heap.size w w' := by
 by_cases h : dict.length ≤ 256
 ·exact play_walk dict A n cap l w hl h hn
 ·have e : play dict l = ([], 2) := by unfold play; exact if_pos (by unfold maxDict; omega)
  rw [e]; exact play_many dict A n cap w (by omega) hd
set_option maxHeartbeats 1000000 in
set_option maxRecDepth 100000 in
theorem check_any (dict : Bytes) (A : Option Addr) (n cap : Nat) (l : List Tok) (w : World) (hl : ToksAt w w.heap.size A n l) (hd : dict.length ≤ 9223372036854775807) (hn : n ≤ 4611686018427387904) :
  Calls Tryz.prog 153 #[S dict, .slice A n cap] w fun e w' => e = .returned (I (play dict l).2) ∧ Below w.heap.size w w' := by
 have c1 := hide (play_any dict A n cap l w hl hd hn)
 go_enter Tryz.func153, Tryz.ntmps153
 go_wp2_with fail
 refine (unhide c1).mono ?_
 rintro e w1 ⟨rfl, hb⟩
 go_wp2_with fail
 go_ret
 exact ⟨rfl, hb⟩
end Go.Proofs.YtjpgoeimclipjaaGreat
namespace Go.Proofs.YtjpgoeimclipjaaGreat
open Go.RowKit Go.Lib Pl
attribute [local go_sem] ext_list app_list
theorem within_any (a b c : Int) (w : World) : Calls Tryz.prog 78 #[I a, I b, I c] w fun e w' => e = .returned (.bool (decide (b ≤ a ∧ a ≤ c))) ∧ w = w' := by
 by_cases h1 : b ≤ a
 ·by_cases h2 : a ≤ c
  ·rw [decide_eq_true ⟨h1, h2⟩]
   go_enter Tryz.func78, Tryz.ntmps78
   go_wp2
   go_ret
   exact ⟨rfl, rfl⟩
  ·rw [decide_eq_false (by omega)]
   go_enter Tryz.func78, Tryz.ntmps78
   go_wp2
   go_ret
   exact ⟨rfl, rfl⟩
 ·rw [decide_eq_false (by omega)]
  go_enter Tryz.func78, Tryz.ntmps78
  go_wp2
  go_ret
  exact ⟨rfl, rfl⟩
theorem within_yes (a b c : Int) (w : World) (h : b ≤ a ∧ a ≤ c) : Calls Tryz.prog 78 #[I a, I b, I c] w fun e w' => e = .returned (.bool true) ∧ w = w' :=
 (within_any a b c w).mono fun _ _ ⟨he, hw⟩ => ⟨by rw [he, decide_eq_true h], hw⟩
theorem within_no (a b c : Int) (w : World) (h : ¬ (b ≤ a ∧ a ≤ c)) : Calls Tryz.prog 78 #[I a, I b, I c] w fun e w' => e = .returned (.bool false) ∧ w = w' :=
 (within_any a b c w).mono fun _ _ ⟨he, hw⟩ => ⟨by rw [he, decide_eq_false h], hw⟩
theorem slice_one {s : Bytes} {a : Nat} {c : UInt8} (h : s[a]? = some c) : slice s a (a + 1) = [c] := by
 unfold slice
 rw [List.take_add_one, h]
 have : a < s.length := (List.getElem?_eq_some_iff.1 h).1
 rw [List.drop_append_of_le_length (by simp; omega), List.drop_of_length_le (by simp; omega)]
 rfl
def prevLit (l : List Tok) (k : Nat) : Bool := decide (0 < k) && (match l[k - 1]? with | some t => isLit t | none => false)
theorem prevLit_succ {l : List Tok} {k : Nat} {t : Tok} (h : l[k]? = some t) : prevLit l (k + 1) = isLit t := by
 unfold prevLit; simp [h]
set_option maxHeartbeats 4000000 in
set_option maxRecDepth 100000 in
theorem checkToks_walk (dict : Bytes) (A : Option Addr) (n cap : Nat) (l : List Tok) (w : World) (hl : ToksAt w w.heap.size A n l) (hd : dict.length ≤ 256) (hn : n ≤ 4611686018427387904) :
  Calls Tryz.prog 142 #[S dict, .slice A n cap] w fun e w' => e = .returned (.tuple #[S (play dict l).1, I (play dict l).2]) ∧ Below w.heap.size w w' := by
 go_enter Tryz.func142, Tryz.ntmps142
 go_wp2_with fail
 go_loopw [6, 7] (fun sv i wr => ∃ (k : Nat) (s : Bytes), k ≤ n ∧ i = .int .i64 k ∧ sv = S s ∧ dict.length ≤ s.length ∧ s.length ≤ dict.length + 512 ∧
   playF dict.length s (prevLit l k) (l.drop k) = play dict l ∧ Below w.heap.size w wr)
  (fun _ i _ => n - (intOf i).toNat)
 case atStart =>
  refine ⟨0, dict, by omega, rfl, rfl, by omega, by omega, ?_, Below.refl _ _⟩
  unfold play; rw [if_neg (by unfold maxDict; omega)]; rfl
 case round =>
  obtain ⟨k, s, hk, rfl, rfl, hs1, hs2, hpl, hbel⟩ := hrel
  have hd0 : (0 : Int) ≤ (s.length : Int) - (dict.length : Int) := by omega
  have hd1 : (s.length : Int) - (dict.length : Int) ≤ 512 := by omega
  by_cases hkn : k < n
  ·obtain ⟨b, off, rfl, hb, hc⟩ := (hl.below hbel).2 (by omega)
   have hkl : k < l.length := by have := hl.1; omega
   have hbw : b < wr.heap.size := Nat.lt_of_lt_of_le hb hbel.size
   obtain ⟨t, ht⟩ : ∃ t, l[k]? = some t := ⟨_, List.getElem?_eq_getElem hkl⟩
   obtain ⟨q0, q1, q2⟩ := hc k t ht
   obtain ⟨tl, tf, tn⟩ := t
   by_cases hlit : tl = []
   ·subst hlit
    have HP := hide hpl
    have HT := hide ht
    clear hpl ht hc
    by_cases h1 : 3 ≤ tn ∧ tn ≤ 64
    ·obtain ⟨h1, h2⟩ := h1
     by_cases h3 : 1 ≤ tf ∧ tf ≤ (s.length : Int)
     ·obtain ⟨h3, h4⟩ := h3
      obtain ⟨f, rfl⟩ := Int.eq_ofNat_of_zero_le (show 0 ≤ tf by omega)
      obtain ⟨m, rfl⟩ := Int.eq_ofNat_of_zero_le (show 0 ≤ tn by omega)
      have hgd : ¬ ((m : Int) < 3 ∨ 64 < (m : Int) ∨ (f : Int) < 1 ∨ (s.length : Int) < (f : Int)) := by omega
      by_cases h5 : 512 < m + (s.length - dict.length)
      ·have hE : tokE dict.length s (prevLit l k) ⟨[], f, m⟩ = 2 := by unfold tokE; rw [if_neg (by simp), if_neg hgd, if_pos (by show 512 < (m : Int) + _; omega)]
       have HE := hide hE
       have h6 : 512 - ((s.length : Int) - (dict.length : Int)) < (m : Int) := by omega
       clear hE hgd
       go_wp2_with ((go_at_call 78; first | (refine (within_yes _ _ _ _ ⟨by omega, by omega⟩).mono ?_; rintro e w1 ⟨rfl, rfl⟩) | (refine (within_no _ _ _ _ (by omega)).mono ?_; rintro e w1 ⟨rfl, rfl⟩)))
       go_ret2
       rw [← unhide HP, drop_cons (unhide HT), playF, if_pos (by rw [unhide HE]; omega), unhide HE]
       exact ⟨rfl, hbel.alloc hbel.size _⟩
      ·have hE : tokE dict.length s (prevLit l k) ⟨[], f, m⟩ = 0 := by unfold tokE; rw [if_neg (by simp), if_neg hgd, if_neg (by show ¬ 512 < (m : Int) + _; omega)]
       have HE := hide hE
       have h6 : (m : Int) ≤ 512 - ((s.length : Int) - (dict.length : Int)) := by omega
       have h6n : decide (512 - ((s.length : Int) - (dict.length : Int)) < (m : Int)) = false := by simp; omega
       have h4n : decide (s.length < f) = false := by simp; omega
       clear hE hgd
       go_wp2_with ((go_at_call 78; first | (refine (within_yes _ _ _ _ ⟨by omega, by omega⟩).mono ?_; rintro e w1 ⟨rfl, rfl⟩) | (refine (within_no _ _ _ _ (by omega)).mono ?_; rintro e w1 ⟨rfl, rfl⟩)))
       obtain ⟨wo, hwo⟩ : ∃ wo : World, wo = wr := ⟨_, rfl⟩
       go_loop [6, 9] (fun sv i => ∃ j : Nat, j ≤ m ∧ i = .int .i64 j ∧ sv = S (copyB j f s)) (fun _ i => m - (intOf i).toNat)
       case atStart => exact ⟨0, by omega, rfl, rfl⟩
       case round =>
        obtain ⟨j, hj, rfl, rfl⟩ := hrel
        have hcl := copyB_len j f s
        obtain ⟨s', hs'⟩ : ∃ s', s' = copyB j f s := ⟨_, rfl⟩
        rw [← hs'] at hcl
        rw [← hs']
        have HS := hide hs'
        by_cases hjm : j < m
        ·obtain ⟨a, ha⟩ : ∃ a : Nat, a = s'.length - f := ⟨_, rfl⟩
         have ha1 : (s'.length : Int) - (f : Int) = (a : Int) := by omega
         have ha2 : a < s'.length := by omega
         obtain ⟨c, hcc⟩ : ∃ c, s'[a]? = some c := ⟨_, List.getElem?_eq_getElem ha2⟩
         have hso := slice_one hcc
         have hb3 : s'.length ≤ 832 := by omega
         have HCC := hide hcc
         have HA := hide ha
         clear hcl hs' hcc ha hwo
         go_wp2_with fail
         go_round
         case rel =>
          refine ⟨j + 1, by omega, by go_num, ?_⟩
          rw [copyB_snoc, ← unhide HS, ← unhide HA, List.getD_eq_getElem?_getD, unhide HCC]
          rfl
         case measure => simp [intOf]; omega
        ·have hjm2 : j = m := by omega
         have HJ := hide hjm2
         have hb3 : s'.length ≤ dict.length + 512 := by omega
         have hb4 : dict.length ≤ s'.length := by omega
         clear hcl hs' hjm2 hwo
         go_wp2_with fail
         go_roundw
         case rel =>
          refine ⟨k + 1, s', by omega, by go_num, rfl, hb4, hb3, ?_, hbel.alloc hbel.size _⟩
          have e1 : tokS s ⟨[], f, m⟩ = s' := by rw [unhide HS, unhide HJ]; simp [tokS]
          rw [← unhide HP, drop_cons (unhide HT), playF, if_neg (by rw [unhide HE]; omega), prevLit_succ (unhide HT), e1]
         case measure => simp [intOf]; omega
     ·have hE : tokE dict.length s (prevLit l k) ⟨[], tf, tn⟩ = 1 := by unfold tokE; rw [if_neg (by simp), if_pos (by show tn < 3 ∨ 64 < tn ∨ tf < 1 ∨ (s.length : Int) < tf; omega)]
      have HE := hide hE
      clear hE
      go_wp2_with ((go_at_call 78; first | (refine (within_yes _ _ _ _ ⟨by omega, by omega⟩).mono ?_; rintro e w1 ⟨rfl, rfl⟩) | (refine (within_no _ _ _ _ (by omega)).mono ?_; rintro e w1 ⟨rfl, rfl⟩)))
      go_ret2
      rw [← unhide HP, drop_cons (unhide HT), playF, if_pos (by rw [unhide HE]; omega), unhide HE]
      exact ⟨rfl, hbel.alloc hbel.size _⟩
    ·have hE : tokE dict.length s (prevLit l k) ⟨[], tf, tn⟩ = 1 := by unfold tokE; rw [if_neg (by simp), if_pos (by show tn < 3 ∨ 64 < tn ∨ tf < 1 ∨ (s.length : Int) < tf; omega)]
     have HE := hide hE
     clear hE
     go_wp2_with ((go_at_call 78; first | (refine (within_yes _ _ _ _ ⟨by omega, by omega⟩).mono ?_; rintro e w1 ⟨rfl, rfl⟩) | (refine (within_no _ _ _ _ (by omega)).mono ?_; rintro e w1 ⟨rfl, rfl⟩)))
     go_ret2
     rw [← unhide HP, drop_cons (unhide HT), playF, if_pos (by rw [unhide HE]; omega), unhide HE]
     exact ⟨rfl, hbel.alloc hbel.size _⟩
   ·have hl1 : tl.isEmpty = false := by simpa using hlit
    have hl2 : (tl == []) = false := by simpa using hlit
    have HL := hide hlit
    have HP := hide hpl
    have HT := hide ht
    have HCELL := hide hc
    clear hlit hpl ht hc
    by_cases h1 : tf = 0
    ·subst h1
     by_cases h2 : tn = 0
     ·subst h2
      by_cases hk0 : 0 < k
      ·have hk1 : k - 1 < l.length := by omega
       obtain ⟨tp, htp⟩ : ∃ t, l[k - 1]? = some t := ⟨_, List.getElem?_eq_getElem hk1⟩
       obtain ⟨r0, _, _⟩ := (unhide HCELL) (k - 1) tp htp
       obtain ⟨pl, pf, pn⟩ := tp
       have hv : prevLit l k = !pl.isEmpty := by unfold prevLit; rw [htp]; simp [hk0, isLit]
       have hj2 : ((k : Int) - 1).toNat = k - 1 := by omega
       clear htp
       by_cases hpe : pl = []
       ·subst hpe
        have HV := hide (show prevLit l k = false by rw [hv]; rfl)
        clear hv
        by_cases h4 : 512 < tl.length + (s.length - dict.length)
        ·have hE : tokE dict.length s (prevLit l k) ⟨tl, 0, 0⟩ = 2 := by rw [unhide HV]; simp [tokE, unhide HL, h4]
         have HE := hide hE
         have h5 : 512 - ((s.length : Int) - (dict.length : Int)) < (tl.length : Int) := by omega
         clear hE
         go_wp2_with fail
         go_ret2
         rw [← unhide HP, drop_cons (unhide HT), playF, if_pos (by rw [unhide HE]; omega), unhide HE]
         exact ⟨rfl, hbel.alloc hbel.size _⟩
        ·have hE : tokE dict.length s (prevLit l k) ⟨tl, 0, 0⟩ = 0 := by rw [unhide HV]; simp [tokE, unhide HL]; omega
         have HE := hide hE
         have h5 : (tl.length : Int) ≤ 512 - ((s.length : Int) - (dict.length : Int)) := by omega
         clear hE
         go_wp2_with fail
         go_roundw
         case rel =>
          refine ⟨k + 1, s ++ tl, by omega, by go_num, rfl, by rw [List.length_append]; omega, by rw [List.length_append]; omega, ?_, hbel.alloc hbel.size _⟩
          have e1 : tokS s ⟨tl, 0, 0⟩ = s ++ tl := by simp [tokS, unhide HL]
          rw [← unhide HP, drop_cons (unhide HT), playF, if_neg (by rw [unhide HE]; omega), prevLit_succ (unhide HT), e1]
         case measure => simp [intOf]; omega
       ·have hp1 : pl.isEmpty = false := by simpa using hpe
        have hp2 : (pl == []) = false := by simpa using hpe
        have hE : tokE dict.length s (prevLit l k) ⟨tl, 0, 0⟩ = 1 := by rw [hv, hp1]; simp [tokE, unhide HL]
        have HE := hide hE
        clear hpe hE hv
        go_wp2_with fail
        go_ret2
        rw [← unhide HP, drop_cons (unhide HT), playF, if_pos (by rw [unhide HE]; omega), unhide HE]
        exact ⟨rfl, hbel.alloc hbel.size _⟩
      ·have hk1 : k < 1 := by omega
       have HV := hide (show prevLit l k = false by unfold prevLit; simp [hk0])
       by_cases h4 : 512 < tl.length + (s.length - dict.length)
       ·have hE : tokE dict.length s (prevLit l k) ⟨tl, 0, 0⟩ = 2 := by rw [unhide HV]; simp [tokE, unhide HL, h4]
        have HE := hide hE
        have h5 : 512 - ((s.length : Int) - (dict.length : Int)) < (tl.length : Int) := by omega
        clear hE
        go_wp2_with fail
        go_ret2
        rw [← unhide HP, drop_cons (unhide HT), playF, if_pos (by rw [unhide HE]; omega), unhide HE]
        exact ⟨rfl, hbel.alloc hbel.size _⟩
       ·have hE : tokE dict.length s (prevLit l k) ⟨tl, 0, 0⟩ = 0 := by rw [unhide HV]; simp [tokE, unhide HL]; omega
        have HE := hide hE
        have h5 : (tl.length : Int) ≤ 512 - ((s.length : Int) - (dict.length : Int)) := by omega
        clear hE
        go_wp2_with fail
        go_roundw
        case rel =>
         refine ⟨k + 1, s ++ tl, by omega, by go_num, rfl, by rw [List.length_append]; omega, by rw [List.length_append]; omega, ?_, hbel.alloc hbel.size _⟩
         have e1 : tokS s ⟨tl, 0, 0⟩ = s ++ tl := by simp [tokS, unhide HL]
         rw [← unhide HP, drop_cons (unhide HT), playF, if_neg (by rw [unhide HE]; omega), prevLit_succ (unhide HT), e1]
        case measure => simp [intOf]; omega
     ·have z1 : (tn == 0) = false := beq_eq_false_iff_ne.2 h2
      have z2 : (tn != 0) = true := by rw [bne_iff_ne]; exact h2
      have hE : tokE dict.length s (prevLit l k) ⟨tl, 0, tn⟩ = 1 := by simp [tokE, unhide HL, h2]
      have HE := hide hE
      clear h2 hE
      go_wp2_with fail
      go_ret2
      rw [← unhide HP, drop_cons (unhide HT), playF, if_pos (by rw [unhide HE]; omega), unhide HE]
      exact ⟨rfl, hbel.alloc hbel.size _⟩
    ·have z1 : (tf == 0) = false := beq_eq_false_iff_ne.2 h1
     have z2 : (tf != 0) = true := by rw [bne_iff_ne]; exact h1
     have hE : tokE dict.length s (prevLit l k) ⟨tl, tf, tn⟩ = 1 := by simp [tokE, unhide HL, h1]
     have HE := hide hE
     clear h1 hE
     go_wp2_with fail
     go_ret2
     rw [← unhide HP, drop_cons (unhide HT), playF, if_pos (by rw [unhide HE]; omega), unhide HE]
     exact ⟨rfl, hbel.alloc hbel.size _⟩
  ·have hkn2 : k = n := by omega
   have hpl2 : play dict l = (slice s dict.length s.length, 0) := by
    rw [← hpl, hkn2, List.drop_of_length_le (by have := hl.1; omega), playF, slice_end]
   have HP := hide hpl2
   clear hpl2 hkn2 hpl
   go_wp2_with fail
   go_ret2
   rw [unhide HP]
   exact ⟨rfl, hbel⟩
set_option maxHeartbeats 1000000 in
set_option maxRecDepth 100000 in
theorem checkToks_many (dict : Bytes) (A : Option Addr) (n cap : Nat) (w : World) (hd : 256 < dict.length) (hd2 : dict.length ≤ 9223372036854775807) :
  Calls Tryz.prog 142 #[S dict, .slice A n cap] w fun e w' => e = .returned (.tuple #[S [], I 2]) ∧ Below w.heap.size w w' := by
 go_enter Tryz.func142, Tryz.ntmps142
 go_wp2_with fail
 go_ret2
 exact ⟨rfl, Below.refl _ _⟩
theorem checkToks_any (dict : Bytes) (A : Option Addr) (n cap : Nat) (l : List Tok) (w : World) (hl : ToksAt w w.heap.size A n l) (hd : dict.length ≤ 9223372036854775807) (hn : n ≤ 4611686018427387904) :
  Calls Tryz.prog 142 #[S dict, .slice A n cap] w fun e w' => e = .returned (.tuple #[S (play dict l).1, I (play dict l).2]) ∧ Below w.heap.size w w' := by
 by_cases h : dict.length ≤ 256
 ·exact checkToks_walk dict A n cap l w hl h hn
 ·have e : play dict l = ([], 2) := by unfold play; exact if_pos (by unfold maxDict; omega)
  rw [e]; exact checkToks_many dict A n cap w (by omega) hd
end Go.Proofs.YtjpgoeimclipjaaGreat
namespace Go.Proofs.YtjpgoeimclipjaaGreat
open Go.RowKit Go.Lib Pl
theorem pw_wrap (m : Nat) : wrap64 ((2 : Int) ^ (15 - m)) = (pw m : Int) := by
 have h : (2 : Int) ^ (15 - m) = ((pw m : Nat) : Int) := by unfold pw; norm_cast
 have := pw_le m
 rw [h]; exact IntWalk.wrap64_in _ ⟨by omega, by omega⟩
theorem kr1_zero {x : Int} (h : ¬ 0 < x) : kr1 x = 0 := by unfold kr1; rw [if_neg h]
theorem kr1_pos {m : Nat} (h : 0 < m) : kr1 (m : Int) = pw m := by unfold kr1; rw [if_pos (by omega)]; rfl
theorem kr_take_le (l : List Int) (k : Nat) (hk : k ≤ 16) : kr (l.take k) ≤ 524288 := by
 have := kr_le (l.take k)
 rw [List.length_take] at this
 omega
set_option maxHeartbeats 2000000 in
set_option maxRecDepth 100000 in
theorem checkCode_any (l : List Int) (w : World) (hl : l.length = 16) :
  Calls Tryz.prog 175 #[A16 l] w fun e w' => e = .returned (I (checkE l)) ∧ Below w.heap.size w w' := by
 have hg0 := heap_alloc_new w (.cells (cells16 l) 145)
 have HG0 := hide hg0
 have HL := hide hl
 have hbel := (Below.refl w.heap.size w).alloc (Nat.le_refl _) (.cells (cells16 l) 145)
 have HBEL := hide hbel
 clear hl hg0 hbel
 go_enter Tryz.func175, Tryz.ntmps175
 go_wp2_with (first | (refine wpList_load16 rfl (.tmp 1) rfl w.heap.size rfl l (unhide HL) (unhide HG0) ?_) | fail)
 go_loop [3, 5, 7] (fun s _ i => ∃ (k : Nat) (r : Int), k ≤ 16 ∧ i = .int .i64 k ∧ s = .int .i64 r ∧ r = 32768 - (kr (l.take k) : Int) ∧ (l.take k).any badL = false) (fun _ _ i => 16 - (intOf i).toNat)
 case atStart => exact ⟨0, 32768, by omega, rfl, rfl, by simp [kr], by simp⟩
 case round =>
  obtain ⟨k, r, hk, rfl, rfl, hr, hnb⟩ := hrel
  have hkl := kr_take_le l k hk
  have hr1 : -1000000 ≤ r := by omega
  have hr2 : r ≤ 32768 := by omega
  have HR := hide hr
  have HNB := hide hnb
  clear hr hnb hkl
  by_cases hk16 : k < 16
  ·obtain ⟨x, hx⟩ : ∃ x, l[k]? = some x := ⟨_, List.getElem?_eq_getElem (by have := unhide HL; omega)⟩
   have hix := run_index16 l (unhide HL) k x hx
   have HX := hide hx
   clear hx
   by_cases hb : x < 0 ∨ 15 < x
   ·have hres : checkE l = 3 := checkE_bad (bad_of_take (k := k + 1) (by rw [bad_take (unhide HX)]; simp [badL, hb]))
    have HRES := hide hres
    have hsz : (x < 0) ∨ (decide (x < 0) = false ∧ 15 < x) := by
     rcases hb with h | h
     ·exact .inl h
     ·exact .inr ⟨by simp; omega, h⟩
    clear hres hb
    rcases hsz with h0 | ⟨h0, h1⟩
    all_goals
     go_wp2_with fail
     go_ret
     exact ⟨by rw [unhide HRES]; rfl, unhide HBEL⟩
   ·have hnb2 : (l.take (k + 1)).any badL = false := by rw [bad_take (unhide HX), unhide HNB]; simp [badL]; omega
    have HN2 := hide hnb2
    obtain ⟨m, rfl⟩ := Int.eq_ofNat_of_zero_le (show 0 ≤ x by omega)
    have hm15 : m ≤ 15 := by omega
    have d1 : decide ((m : Int) < 0) = false := by simp
    have hkt := kr_take (unhide HX)
    have HKT := hide hkt
    have hpw := pw_wrap m
    have hpl := pw_le m
    clear hnb2 hkt hb
    by_cases hp : 0 < m
    ·have hk1 := kr1_pos hp
     have HK1 := hide hk1
     clear hk1
     go_wp2_with fail
     go_round
     case rel => exact ⟨k + 1, r - (pw m : Nat), by omega, by go_num, rfl, by rw [unhide HR, unhide HKT, unhide HK1]; omega, unhide HN2⟩
     case measure => simp [intOf]; omega
    ·have hk1 := kr1_zero (x := (m : Int)) (by omega)
     have HK1 := hide hk1
     clear hk1
     go_wp2_with fail
     go_round
     case rel => exact ⟨k + 1, r, by omega, by go_num, rfl, by rw [unhide HR, unhide HKT, unhide HK1]; omega, unhide HN2⟩
     case measure => simp [intOf]; omega
  ·have hfin : l.take k = l := List.take_of_length_le (by have := unhide HL; omega)
   have hnb := unhide HNB
   have hr := unhide HR
   rw [hfin] at hnb hr
   by_cases hbad : kr l = 0 ∨ 32768 < kr l
   ·have hres := checkE_form hnb hbad
    have HRES := hide hres
    have hsz : (r < 0) ∨ (decide (r < 0) = false ∧ (r == 32768) = true) := by
     rcases hbad with h | h
     ·exact .inr ⟨by simp; omega, by rw [beq_iff_eq]; omega⟩
     ·exact .inl (by omega)
    clear hres hbad hnb hr hfin
    rcases hsz with h0 | ⟨h0, h1⟩
    all_goals
     go_wp2_with fail
     go_ret
     exact ⟨by rw [unhide HRES]; rfl, unhide HBEL⟩
   ·have hres := checkE_ok hnb hbad
    have HRES := hide hres
    have h0 : decide (r < 0) = false := by simp; omega
    have h1 : (r == 32768) = false := by rw [beq_eq_false_iff_ne]; omega
    clear hres hbad hnb hr hfin
    go_wp2_with fail
    go_ret
    exact ⟨by rw [unhide HRES]; rfl, unhide HBEL⟩
set_option maxHeartbeats 2000000 in
set_option maxRecDepth 100000 in
theorem checkCodeR_any (l : List Int) (w : World) (hl : l.length = 16) :
  Calls Tryz.prog 137 #[A16 l] w fun e w' => e = .returned (I (checkE l)) ∧ Below w.heap.size w w' := by
 have hg0 := heap_alloc_new w (.cells (cells16 l) 145)
 have HG0 := hide hg0
 have HL := hide hl
 have hbel := (Below.refl w.heap.size w).alloc (Nat.le_refl _) (.cells (cells16 l) 145)
 have HBEL := hide hbel
 clear hl hg0 hbel
 go_enter Tryz.func137, Tryz.ntmps137
 go_wp2_with fail
 go_loop [3, 4, 5] (fun s u i => ∃ (k r : Nat) (b : Bool), k ≤ 16 ∧ i = .int .i64 k ∧ s = .int .i64 r ∧ u = .bool b ∧ r = kr (l.take k) ∧ (l.take k).any badL = false ∧ b = decide (0 < r)) (fun _ _ i => 16 - (intOf i).toNat)
 case atStart => exact ⟨0, 0, false, by omega, rfl, rfl, rfl, by simp [kr], by simp, rfl⟩
 case round =>
  obtain ⟨k, r, b, hk, rfl, rfl, rfl, hr, hnb, hbb⟩ := hrel
  have hkl := kr_take_le l k hk
  have hr2 : r ≤ 524288 := by omega
  have HR := hide hr
  have HNB := hide hnb
  have HBB := hide hbb
  clear hr hnb hkl hbb
  by_cases hk16 : k < 16
  ·obtain ⟨x, hx⟩ : ∃ x, l[k]? = some x := ⟨_, List.getElem?_eq_getElem (by have := unhide HL; omega)⟩
   have hc := cell16 (unhide HG0) hx
   have HX := hide hx
   clear hx
   by_cases hb : x < 0 ∨ 15 < x
   ·have hres : checkE l = 3 := checkE_bad (bad_of_take (k := k + 1) (by rw [bad_take (unhide HX)]; simp [badL, hb]))
    have HRES := hide hres
    have C1 := hide (fun (W : World) => within_no x 0 15 W (by omega))
    clear hres hb
    go_wp2_with (go_at_call 78; refine (unhide C1 _).mono ?_; rintro e w1 ⟨rfl, rfl⟩)
    go_ret
    exact ⟨by rw [unhide HRES]; rfl, unhide HBEL⟩
   ·have hnb2 : (l.take (k + 1)).any badL = false := by rw [bad_take (unhide HX), unhide HNB]; simp [badL]; omega
    have HN2 := hide hnb2
    obtain ⟨m, rfl⟩ := Int.eq_ofNat_of_zero_le (show 0 ≤ x by omega)
    have hm15 : m ≤ 15 := by omega
    have C1 := hide (fun (W : World) => within_yes (m : Int) 0 15 W ⟨by omega, by omega⟩)
    have hkt := kr_take (unhide HX)
    have HKT := hide hkt
    have hpw := pw_wrap m
    have hpl := pw_le m
    have hpp := pw_pos m
    clear hnb2 hkt hb
    by_cases hp : 0 < m
    ·have hk1 := kr1_pos hp
     have HK1 := hide hk1
     clear hk1
     go_wp2_with (go_at_call 78; refine (unhide C1 _).mono ?_; rintro e w1 ⟨rfl, rfl⟩)
     go_round
     case rel => exact ⟨k + 1, r + pw m, true, by omega, by go_num, by go_num, rfl, by rw [unhide HR, unhide HKT, unhide HK1], unhide HN2, by simp; omega⟩
     case measure => simp [intOf]; omega
    ·have hk1 := kr1_zero (x := (m : Int)) (by omega)
     have HK1 := hide hk1
     clear hk1
     go_wp2_with (go_at_call 78; refine (unhide C1 _).mono ?_; rintro e w1 ⟨rfl, rfl⟩)
     go_round
     case rel => exact ⟨k + 1, r, b, by omega, by go_num, rfl, rfl, by rw [unhide HR, unhide HKT, unhide HK1]; omega, unhide HN2, unhide HBB⟩
     case measure => simp [intOf]; omega
  ·have hfin : l.take k = l := List.take_of_length_le (by have := unhide HL; omega)
   have hnb := unhide HNB
   have hr := unhide HR
   have hbb := unhide HBB
   rw [hfin] at hnb hr
   by_cases h0 : r = 0
   ·have hb0 : b = false := by rw [hbb, h0]; rfl
    subst hb0
    have hres := checkE_form hnb (.inl (by omega))
    have HRES := hide hres
    clear hres hnb hr hfin hbb h0
    go_wp2_with fail
    go_ret
    exact ⟨by rw [unhide HRES]; rfl, unhide HBEL⟩
   ·have hb1 : b = true := by rw [hbb]; simp; omega
    subst hb1
    by_cases hbig : 32768 < r
    ·have hres := checkE_form hnb (.inr (by omega))
     have HRES := hide hres
     clear hres hnb hr hfin hbb h0
     go_wp2_with fail
     go_ret
     exact ⟨by rw [unhide HRES]; rfl, unhide HBEL⟩
    ·have hres := checkE_ok hnb (by omega)
     have HRES := hide hres
     clear hres hnb hr hfin hbb h0
     go_wp2_with fail
     go_ret
     exact ⟨by rw [unhide HRES]; rfl, unhide HBEL⟩
end Go.Proofs.YtjpgoeimclipjaaGreat
namespace Go.Proofs.YtjpgoeimclipjaaGreat
open Go.RowKit Go.Lib Pl
theorem fold_min_ge : ∀ (l : List Int) (a b : Int), b ≤ l.foldl min a ↔ b ≤ a ∧ ∀ x ∈ l, b ≤ x
 | [], a, b => by simp
 | x :: l, a, b => by
  rw [List.foldl_cons, fold_min_ge l]
  simp only [List.mem_cons, forall_eq_or_imp]
  constructor
  ·rintro ⟨h1, h2⟩; exact ⟨by omega, by omega, h2⟩
  ·rintro ⟨h1, h2, h3⟩; exact ⟨by omega, h3⟩
theorem fold_max_le : ∀ (l : List Int) (a b : Int), l.foldl max a ≤ b ↔ a ≤ b ∧ ∀ x ∈ l, x ≤ b
 | [], a, b => by simp
 | x :: l, a, b => by
  rw [List.foldl_cons, fold_max_le l]
  simp only [List.mem_cons, forall_eq_or_imp]
  constructor
  ·rintro ⟨h1, h2⟩; exact ⟨by omega, by omega, h2⟩
  ·rintro ⟨h1, h2, h3⟩; exact ⟨by omega, h3⟩
theorem minOf_ge {l : List Int} (h : l ≠ []) (b : Int) : b ≤ Lib.minOf l ↔ ∀ x ∈ l, b ≤ x := by
 unfold Lib.minOf
 rw [fold_min_ge]
 cases l with
 | nil => exact absurd rfl h
 | cons a l =>
  simp only [List.headD_cons, List.mem_cons, forall_eq_or_imp]
  exact ⟨fun h => h.2, fun h => ⟨h.1, h⟩⟩
theorem maxOf_le {l : List Int} (h : l ≠ []) (b : Int) : Lib.maxOf l ≤ b ↔ ∀ x ∈ l, x ≤ b := by
 unfold Lib.maxOf
 rw [fold_max_le]
 cases l with
 | nil => exact absurd rfl h
 | cons a l =>
  simp only [List.headD_cons, List.mem_cons, forall_eq_or_imp]
  exact ⟨fun h => h.2, fun h => ⟨h.1, h⟩⟩
theorem fine_iff (c : List Int) : fineB c = true ↔ (∀ x ∈ c, 0 ≤ x) ∧ ∀ x ∈ c, x ≤ 2048 := by
 constructor
 ·intro h
  have := fine_all h
  exact ⟨fun x hx => (this x hx).1, fun x hx => (this x hx).2⟩
 ·rintro ⟨h1, h2⟩
  exact fine_of_all fun x hx => ⟨h1 x hx, h2 x hx⟩
set_option maxHeartbeats 1000000 in
set_option maxRecDepth 100000 in
theorem fine_any (c : List Int) (w : World) (hc : c.length = 16) :
  Calls Tryz.prog 170 #[A16 c] w fun e w' => e = .returned (.bool (fineB c)) ∧ Below w.heap.size w w' := by
 have hg0 := heap_alloc_new w (.cells (cells16 c) 145)
 have hbel := (Below.refl w.heap.size w).alloc (Nat.le_refl _) (.cells (cells16 c) 145)
 have HBEL := hide hbel
 have hne : c ≠ [] := by intro e; rw [e] at hc; simp at hc
 have hcell : ∀ j, j < c.length → (w.alloc (.cells (cells16 c) 145)).cell? ⟨w.heap.size, 0 + j, none⟩ = some (.int .i64 (c.getD j 0)) := fun j hj => by
  rw [Nat.zero_add]
  refine cell16 hg0 ?_
  rw [List.getD_eq_getElem?_getD, List.getElem?_eq_getElem hj]; rfl
 have ht : c.take 16 = c := List.take_of_length_le (by omega)
 have K1 := Tryz.slices_Min_int w.heap.size 0 16 16 c (w.alloc (.cells (cells16 c) 145)) (by omega) (by omega) (by omega) hcell
 have K2 := Tryz.slices_Max_int w.heap.size 0 16 16 c (w.alloc (.cells (cells16 c) 145)) (by omega) (by omega) (by omega) hcell
 rw [ht] at K1 K2
 have hf := fine_iff c
 rw [← minOf_ge hne, ← maxOf_le hne] at hf
 obtain ⟨a, ha⟩ : ∃ a, a = Lib.minOf c := ⟨_, rfl⟩
 obtain ⟨b, hb⟩ : ∃ b, b = Lib.maxOf c := ⟨_, rfl⟩
 rw [← ha] at K1 hf
 rw [← hb] at K2 hf
 have K1 := hide K1
 have K2 := hide K2
 clear ha hb hcell hg0 hbel ht hne
 cases hfb : fineB c with
 | true =>
  obtain ⟨h1, h2⟩ := hf.1 hfb
  clear hf hfb
  go_enter Tryz.func170, Tryz.ntmps170
  go_wp2_with (first
   | (go_at_call 196; refine (unhide K1).mono ?_; rintro e w1 ⟨rfl, rfl⟩)
   | (go_at_call 197; refine (unhide K2).mono ?_; rintro e w1 ⟨rfl, rfl⟩))
  go_ret
  exact ⟨rfl, unhide HBEL⟩
 | false =>
  have hcs : (a < 0) ∨ (0 ≤ a ∧ 2048 < b ∧ decide (b ≤ 2048) = false) := by
   by_cases h1 : a < 0
   ·exact .inl h1
   ·refine .inr ⟨by omega, ?_⟩
    rcases Int.lt_or_le 2048 b with h2 | h2
    ·exact ⟨h2, by simp; omega⟩
    ·have := hf.2 ⟨by omega, h2⟩
     rw [hfb] at this; cases this
  clear hf hfb
  rcases hcs with h1 | ⟨h1, h2, h3⟩
  all_goals
   go_enter Tryz.func170, Tryz.ntmps170
   go_wp2_with (first
    | (go_at_call 196; refine (unhide K1).mono ?_; rintro e w1 ⟨rfl, rfl⟩)
    | (go_at_call 197; refine (unhide K2).mono ?_; rintro e w1 ⟨rfl, rfl⟩))
   go_ret
   exact ⟨rfl, unhide HBEL⟩
theorem badC_take {l : List Int} {k : Nat} {x : Int} (h : l[k]? = some x) : (l.take (k + 1)).any badC = ((l.take k).any badC || badC x) := by
 rw [List.take_add_one, h, List.any_append]; simp
theorem badC_of_take {l : List Int} {k : Nat} (h : (l.take k).any badC = true) : l.any badC = true := by
 rw [List.any_eq_true] at h ⊢
 obtain ⟨x, hx, hb⟩ := h
 exact ⟨x, List.mem_of_mem_take hx, hb⟩
set_option maxHeartbeats 1000000 in
set_option maxRecDepth 100000 in
theorem countsFine_any (c : List Int) (w : World) (hc : c.length = 16) :
  Calls Tryz.prog 177 #[A16 c] w fun e w' => e = .returned (.bool (fineB c)) ∧ Below w.heap.size w w' := by
 have hg0 := heap_alloc_new w (.cells (cells16 c) 145)
 have hbel := (Below.refl w.heap.size w).alloc (Nat.le_refl _) (.cells (cells16 c) 145)
 have HBEL := hide hbel
 have HG0 := hide hg0
 have HL := hide hc
 clear hbel hg0 hc
 go_enter Tryz.func177, Tryz.ntmps177
 go_wp2_with fail
 go_loop [3] (fun i => ∃ k : Nat, k ≤ 16 ∧ i = .int .i64 k ∧ (c.take k).any badC = false) (fun i => 16 - (intOf i).toNat)
 case atStart => exact ⟨0, by omega, rfl, by simp⟩
 case round =>
  obtain ⟨k, hk, rfl, hnb⟩ := hrel
  have HNB := hide hnb
  clear hnb
  by_cases hk16 : k < 16
  ·obtain ⟨x, hx⟩ : ∃ x, c[k]? = some x := ⟨_, List.getElem?_eq_getElem (by have := unhide HL; omega)⟩
   have hcl := cell16 (unhide HG0) hx
   have HX := hide hx
   clear hx
   by_cases hb : x < 0 ∨ 2048 < x
   ·have hres : fineB c = false := by
     unfold fineB
     rw [badC_of_take (k := k + 1) (by rw [badC_take (unhide HX)]; simp [badC, hb])]; rfl
    have HRES := hide hres
    have C1 := hide (fun (W : World) => within_no x 0 2048 W (by omega))
    clear hres hb
    go_wp2_with (go_at_call 78; refine (unhide C1 _).mono ?_; rintro e w1 ⟨rfl, rfl⟩)
    go_ret
    exact ⟨by rw [unhide HRES]; rfl, unhide HBEL⟩
   ·have hnb2 : (c.take (k + 1)).any badC = false := by rw [badC_take (unhide HX), unhide HNB]; simp [badC]; omega
    have HN2 := hide hnb2
    have C1 := hide (fun (W : World) => within_yes x 0 2048 W ⟨by omega, by omega⟩)
    clear hnb2 hb
    go_wp2_with (go_at_call 78; refine (unhide C1 _).mono ?_; rintro e w1 ⟨rfl, rfl⟩)
    go_round
    case rel => exact ⟨k + 1, by omega, by go_num, unhide HN2⟩
    case measure => simp [intOf]; omega
  ·have hfin : c.take k = c := List.take_of_length_le (by have := unhide HL; omega)
   have hres : fineB c = true := by
    have := unhide HNB
    rw [hfin] at this
    unfold fineB; rw [this]; rfl
   have HRES := hide hres
   clear hfin hres
   go_wp2_with fail
   go_ret
   exact ⟨by rw [unhide HRES]; rfl, unhide HBEL⟩
end Go.Proofs.YtjpgoeimclipjaaGreat
namespace Go.Proofs.YtjpgoeimclipjaaGreat
open Go.RowKit Go.Lib Pl
theorem encR_set {t u : Tr} {k : Nat} {v : Bool} (hk : k < 16) (h1 : t.1 = u.1) (h : ∀ j, j < 16 → has u j = if j = k then v else has t j) : (encR t).toArray.setIfInBounds k (.bool v) = (encR u).toArray := by
 apply Array.ext_getElem?
 intro j
 rw [Array.getElem?_setIfInBounds, List.getElem?_toArray, List.getElem?_toArray, List.size_toArray, encR_len]
 by_cases hj : j < 16
 ·rw [encR_get u hj, encR_get t hj, h j hj]
  by_cases e : k = j
  ·subst e; simp; omega
  ·rw [if_neg e, if_neg (fun h => e h.symm)]
 ·rw [if_neg (by omega)]
  by_cases e : j = 16
  ·subst e; rw [encR_w, encR_w, h1]
  ·rw [List.getElem?_eq_none (by rw [encR_len]; omega), List.getElem?_eq_none (by rw [encR_len]; omega)]
theorem encR_all0 (y : Nat) : (#[.bool false, .bool false, .bool false, .bool false, .bool false, .bool false, .bool false, .bool false, .bool false, .bool false, .bool false, .bool false, .bool false, .bool false, .bool false, .bool false, .int .i64 (y : Int)] : Array Value).all (·.oneCell') = true := all_oneCell_toArray (encR_one (y, []))
theorem has_def (t : Tr) (j : Nat) : has t j = decide (j ∈ t.2) := by unfold has; rfl
theorem has_one {x k : Nat} : ∀ j, j < 16 → has (x, [k]) j = if j = k then true else has (x, []) j := by
 intro j hj
 rw [has_def, has_def]
 by_cases e : j = k
 ·subst e; simp
 ·rw [if_neg e]; simp [e]
theorem has_mgI {a b : Tr} (ha : VT a) (hb : VT b) (i : Nat) (hi : i < 16) : ∀ j, j < 16 → has (mgI a b (i + 1)) j = if j = i then (has a i || has b i) else has (mgI a b i) j := by
 intro j hj
 rw [has_def, has_def, has_def, has_def]
 unfold mgI
 simp only
 have hm := mem_mg ha.lt hb.lt j
 by_cases e : j = i
 ·subst e
  rw [if_pos rfl, ← Bool.decide_or, decide_eq_decide, List.mem_filter, hm]
  simp
 ·rw [if_neg e, decide_eq_decide, List.mem_filter, List.mem_filter]
  simp only [decide_eq_true_eq]
  constructor
  ·rintro ⟨h1, h2⟩; exact ⟨h1, by omega⟩
  ·rintro ⟨h1, h2⟩; exact ⟨h1, by omega⟩
theorem mem_mgI {a b : Tr} (ha : VT a) (hb : VT b) (i : Nat) : (i ∈ mg a.2 b.2) ↔ (has a i || has b i) = true := by
 rw [mem_mg ha.lt hb.lt, has_def, has_def, Bool.or_eq_true, decide_eq_true_eq, decide_eq_true_eq]
theorem zero16v (w : World) : (zeroValue 145).run Tryz.prog w = .ok (A16 (Lf fun _ => 0)) w := (zero_of_info (n := 16) (by kernel_rfl)).1 w
theorem cells16_set (l : List Int) (i : Nat) (v : Int) : (cells16 l).setIfInBounds i (.int .i64 v) = cells16 (l.set i v) := by
 simp [cells16, List.map_set]
theorem cells16_one (l : List Int) : (cells16 l).all (·.oneCell') = true := by
 rw [Array.all_eq_true_iff_forall_mem]
 intro v hv
 simp only [cells16, List.mem_toArray, List.mem_map] at hv
 obtain ⟨x, _, rfl⟩ := hv
 rfl
structure BAt (c L : List Int) (w wr : World) (B : Nat) : Prop where
 a : wr.heap[B]? = some (.cells (cells16 c) 145 (0, 0))
 z : wr.heap[B + 1]? = some (.cells (cells16 (Lf fun _ => 0)) 145 (0, 0))
 o : wr.heap[B + 2]? = some (.cells (cells16 L) 145 (0, 0))
 bel : Below B w wr
theorem BAt.size {c L : List Int} {w wr : World} {B : Nat} (h : BAt c L w wr B) : B + 3 ≤ wr.heap.size := (Array.getElem?_eq_some_iff.1 h.o).1
theorem BAt.below {c L : List Int} {w wr w1 : World} {B : Nat} (h : BAt c L w wr B) (hb : Below wr.heap.size wr w1) : BAt c L w w1 B := by
 have s := h.size
 exact ⟨(hb.block _ (by omega)).trans h.a, (hb.block _ (by omega)).trans h.z, (hb.block _ (by omega)).trans h.o, h.bel.trans (hb.mono (by omega))⟩
theorem BAt.below3 {c L : List Int} {w wr w1 : World} {B : Nat} (h : BAt c L w wr B) (hb : Below (B + 3) wr w1) : BAt c L w w1 B :=
 ⟨(hb.block _ (by omega)).trans h.a, (hb.block _ (by omega)).trans h.z, (hb.block _ (by omega)).trans h.o, h.bel.trans (hb.mono (by omega))⟩
theorem BAt.put {c L : List Int} {w wr : World} {B : Nat} (h : BAt c L w wr B) (i : Nat) (v : Int) : BAt c (L.set i v) w (wr.setCell ⟨B + 2, i, none⟩ (.int .i64 v)) B := by
 refine ⟨?_, ?_, ?_, ?_⟩
 ·rw [heap_setCell_other _ _ _ _ (by show B ≠ B + 2; omega)]; exact h.a
 ·rw [heap_setCell_other _ _ _ _ (by show B + 1 ≠ B + 2; omega)]; exact h.z
 ·rw [heap_setCell_same _ _ _ _ _ _ h.o, cells16_set]
 ·exact h.bel.setCell (by show B ≤ B + 2; omega) _
theorem BAt.start (c : List Int) (w : World) : BAt c (Lf fun _ => 0) w (((w.alloc (.cells (cells16 c) 145)).alloc (.cells (cells16 (Lf fun _ => 0)) 145)).alloc (.cells (cells16 (Lf fun _ => 0)) 145)) w.heap.size := by
 have e1 : (w.alloc (.cells (cells16 c) 145)).heap.size = w.heap.size + 1 := by simp
 have e2 : ((w.alloc (.cells (cells16 c) 145)).alloc (.cells (cells16 (Lf fun _ => 0)) 145)).heap.size = w.heap.size + 2 := by simp
 refine ⟨?_, ?_, ?_, (((Below.refl _ _).alloc (Nat.le_refl _) _).alloc (by simp) _).alloc (by simp; omega) _⟩
 ·exact (Below.heap_alloc _ _ _ (by rw [e2]; omega)).trans (heap_alloc2_old _ _ _)
 ·exact (Below.heap_alloc _ _ _ (by rw [e2]; omega)).trans (heap_alloc2_new _ _ _)
 ·rw [← e2]; exact heap_alloc_new _ _
theorem BAt.res {c L : List Int} {w wr : World} {B : Nat} (h : BAt c L w wr B) (cs : Array Value) : (wr.setRow (B + 1) cs).heap[B + 1]? = some (.cells cs 145 (0, 0)) := setRow_heap _ _ _ _ _ _ h.z
theorem own_part {w : World} {base n : Nat} {v : Value} {e : TypeId} {size : Nat} {xs : List Value} (h : w.ownsRow base e size v n xs) {w' : World} (hg : ∀ k, base ≤ k → k < w.heap.size → w'.heap[k]? = w.heap[k]?) : w'.ownsRow base e size v n xs := by
 refine ⟨h.1, ?_⟩
 rcases h.2 with hn | ⟨g, cap, cur, hv, hb, hg', rest⟩
 ·exact .inl hn
 ·exact .inr ⟨g, cap, cur, hv, hb, (hg g hb (Array.getElem?_eq_some_iff.1 hg').1).trans hg', rest⟩
theorem boxR (w : World) (t : Tr) (D : Nat) (hD : D = w.heap.size) : ((w.alloc (.cells zeroR 219)).setRow D (encR t).toArray).heap[D]? = some (.cells (encR t).toArray 219 (0, 0)) := by
 subst hD; exact setRow_heap _ _ _ _ _ _ (heap_alloc_new _ _)
theorem belowR {w w' : World} {B : Nat} (h : Below B w w') (hB : B ≤ w'.heap.size) (cs : Array Value) : Below B w ((w'.alloc (.cells zeroR 219)).setRow w'.heap.size cs) := below_setRow (h.alloc hB _) hB _
theorem row_at17 {w : World} {base n : Nat} {v : Value} {l : List Tr} (h : w.ownsRow base 219 17 v n (l.flatMap encR)) (hn : n ≠ 0) : ∃ g cap, v = .slice (some ⟨g, 0, none⟩) n cap := by
 rcases h.2 with ⟨_, h0⟩ | ⟨g, cap, cur, hv, _⟩
 ·exact absurd h0 hn
 ·exact ⟨g, cap, hv⟩
theorem sizeI : (Tryz.prog.info? 145).map (·.size) = some 16 := by kernel_rfl
theorem cells16_size {l : List Int} (h : l.length = 16) : (cells16 l).size = 16 := by simp [cells16, h]
def slLen : Value → Nat
 | .slice _ n _ => n
 | _ => 0
theorem own_upto {w : World} {base n : Nat} {v : Value} {e : TypeId} {size : Nat} {xs : List Value} (h : w.ownsRow base e size v n xs) {D : Nat} (hD : w.heap.size ≤ D) {w' : World} (hg : ∀ k, base ≤ k → k < D → w'.heap[k]? = w.heap[k]?) : w'.ownsRow base e size v n xs :=
 own_part h fun k h1 h2 => hg k h1 (by omega)
structure MrgAt (c : List Int) (f : Nat → Int) (a b : Tr) (w w4 w5 : World) (B D i : Nat) : Prop where
 at_ : BAt c (Lf fun j => f j + if j < i ∧ j ∈ mg a.2 b.2 then 1 else 0) w w5 B
 o : w5.heap[D]? = some (.cells (encR (mgI a b i)).toArray 219 (0, 0))
 keep : ∀ k, B + 3 ≤ k → k < D → w5.heap[k]? = w4.heap[k]?
theorem MrgAt.set {c : List Int} {f : Nat → Int} {a b : Tr} {w w4 w5 : World} {B D i : Nat} (h : MrgAt c f a b w w4 w5 B D i) (ha : VT a) (hb : VT b) (hi : i < 16) (hBD : B + 3 ≤ D) (hn : (has a i || has b i) = false) :
  MrgAt c f a b w w4 (w5.setCell ⟨D, i, none⟩ (.bool false)) B D (i + 1) := by
 refine ⟨?_, ?_, fun k h1 h2 => ?_⟩
 ·have e : Lf (fun j => f j + if j < i + 1 ∧ j ∈ mg a.2 b.2 then 1 else 0) = Lf fun j => f j + if j < i ∧ j ∈ mg a.2 b.2 then 1 else 0 := Lf_congr fun j _ => by
   congr 1
   by_cases e : j = i
   ·subst e
    rw [if_neg (fun h => by have := (mem_mgI ha hb j).1 h.2; rw [hn] at this; cases this), if_neg (by omega)]
   ·by_cases h1 : j < i
    ·simp [h1, show j < i + 1 from by omega]
    ·simp [h1, show ¬ j < i + 1 from by omega]
  rw [e]
  exact h.at_.below3 ((Below.refl _ _).setCell (by show B + 3 ≤ D; omega) _)
 ·rw [heap_setCell_same _ _ _ _ _ _ h.o, encR_set (t := mgI a b i) (u := mgI a b (i + 1)) hi rfl (by rw [← hn]; exact has_mgI ha hb i hi)]
 ·rw [heap_setCell_other _ _ _ _ (by show k ≠ D; omega)]; exact h.keep k h1 h2
theorem MrgAt.put {c : List Int} {f : Nat → Int} {a b : Tr} {w w4 w5 : World} {B D i : Nat} (h : MrgAt c f a b w w4 w5 B D i) (ha : VT a) (hb : VT b) (hi : i < 16) (hBD : B + 3 ≤ D) (hn : (has a i || has b i) = true) :
  MrgAt c f a b w w4 ((w5.setCell ⟨D, i, none⟩ (.bool true)).setCell ⟨B + 1 + 1, i, none⟩ (.int .i64 (f i + 1))) B D (i + 1) := by
 refine ⟨?_, ?_, fun k h1 h2 => ?_⟩
 ·have e : Lf (fun j => f j + if j < i + 1 ∧ j ∈ mg a.2 b.2 then 1 else 0) = (Lf fun j => f j + if j < i ∧ j ∈ mg a.2 b.2 then 1 else 0).set i (f i + 1) := by
   rw [Lf_set]
   refine Lf_congr fun j _ => ?_
   by_cases e : j = i
   ·subst e
    rw [if_pos rfl, if_pos ⟨by omega, (mem_mgI ha hb j).2 hn⟩]
   ·rw [if_neg e]
    congr 1
    by_cases h1 : j < i
    ·simp [h1, show j < i + 1 from by omega]
    ·simp [h1, show ¬ j < i + 1 from by omega]
  rw [e]
  exact (h.at_.below3 ((Below.refl _ _).setCell (by show B + 3 ≤ D; omega) _)).put i _
 ·rw [heap_setCell_other _ _ _ _ (by show D ≠ B + 1 + 1; omega), heap_setCell_same _ _ _ _ _ _ h.o, encR_set (t := mgI a b i) (u := mgI a b (i + 1)) hi rfl (by rw [← hn]; exact has_mgI ha hb i hi)]
 ·rw [heap_setCell_other _ _ _ _ (by show k ≠ B + 1 + 1; omega), heap_setCell_other _ _ _ _ (by show k ≠ D; omega)]; exact h.keep k h1 h2
theorem MrgAt.len {c : List Int} {f : Nat → Int} {a b : Tr} {w w4 w5 : World} {B D i : Nat} (h : MrgAt c f a b w w4 w5 B D i) (hi : i < 16) : w5.cell? ⟨B + 1 + 1, i, none⟩ = some (.int .i64 (f i)) := by
 refine (cell16 h.at_.o (Lf_get _ hi)).trans ?_
 rw [if_neg (by omega)]; simp
theorem MrgAt.lenF {c : List Int} {f : Nat → Int} {a b : Tr} {w w4 w5 : World} {B D i : Nat} (h : MrgAt c f a b w w4 w5 B D i) : w5.frozen? ⟨B + 1 + 1, i, none⟩ = false := frozen_of_row _ _ _ _ _ h.at_.o
theorem MrgAt.bit {c : List Int} {f : Nat → Int} {a b : Tr} {w w4 w5 : World} {B D i : Nat} (h : MrgAt c f a b w w4 w5 B D i) (hi : i < 16) : ∃ v, w5.cell? ⟨D, i, none⟩ = some v ∧ w5.frozen? ⟨D, i, none⟩ = false := by
 refine ⟨.bool (has (mgI a b i) i), ?_, frozen_of_row _ _ _ _ _ h.o⟩
 rw [cell_of_row _ _ _ _ _ _ h.o, List.getElem?_toArray, encR_get _ hi]
theorem MrgAt.of {c : List Int} {f : Nat → Int} {a b t : Tr} {w w4 w5 : World} {B D i g : Nat} (h : MrgAt c f a b w w4 w5 B D i) (hg : w4.heap[g]? = some (.cells (encR t).toArray 219 (0, 0))) (h1 : B + 3 ≤ g) (h2 : g < D) {j : Nat} (hj : j < 16) : w5.cell? ⟨g, j, none⟩ = some (.bool (has t j)) := by
 rw [cell_of_row _ _ _ _ _ _ ((h.keep g h1 h2).trans hg), List.getElem?_toArray, encR_get _ hj]
structure BldAt (c : List Int) (w wr : World) (B : Nat) (lv : Value) (l : List Tr) (f : Nat → Int) : Prop where
 fo : Forest l
 one : 1 ≤ l.length
 le : l.length ≤ 16
 sum : (l.map Prod.fst).sum ≤ 32768
 own : wr.ownsRow (B + 3) 219 17 lv l.length (l.flatMap encR)
 at_ : BAt c (Lf f) w wr B
 inv : ∀ i, i < 16 → f i + (build (l.length - 1) l i : Int) = (build ((fulF c).length - 1) (fulF c) i : Int)
theorem BldAt.bound {c : List Int} {w wr : World} {B : Nat} {lv : Value} {l : List Tr} {f : Nat → Int} (h : BldAt c w wr B lv l f) {a : Tr} (ha : a ∈ l) : a.1 ≤ 32768 := Nat.le_trans (sum_map_le Prod.fst ha) h.sum
theorem build_le : ∀ (f : Nat) (l : List Tr) (i : Nat), build f l i ≤ f
 | 0, _, _ => Nat.le_refl _
 | f + 1, l, i => by
  rw [build]
  split
  ·have := build_le f (‹List Tr› ++ [mgT ‹Tr› ‹Tr›]) i
   rename_i a b r _
   have := build_le f (r ++ [mgT a b]) i
   split <;> omega
  ·omega
theorem inv_bound {c : List Int} {w wr : World} {B : Nat} {lv : Value} {l : List Tr} {f : Nat → Int} (h : BldAt c w wr B lv l f) {i : Nat} (hi : i < 16) : -100 ≤ f i ∧ f i ≤ 100 := by
 have h1 := h.inv i hi
 have h2 := build_le (l.length - 1) l i
 have h3 := build_le ((fulF c).length - 1) (fulF c) i
 have h4 := fulF_len c
 have h5 := h.le
 omega
theorem cell_set_same {w : World} {p : Addr} {v : Value} (h : w.cell? p = some v) (u : Value) : (w.setCell p u).cell? p = some u := World.cell?_setCell_same' w p u (by rw [h]; rfl)
theorem cell_set_block {w : World} {p q : Addr} {u : Value} (h : q.block ≠ p.block) : (w.setCell p u).cell? q = w.cell? q :=
 World.cell?_of_block (Below.heap_setCell w p u q.block h)
theorem frozen_set {w : World} {p q : Addr} {u : Value} : (w.setCell p u).frozen? q = w.frozen? q := by simp
set_option maxHeartbeats 4000000 in
set_option maxRecDepth 100000 in
theorem buildOf_any (c : List Int) (w : World) (hc : c.length = 16) :
  Calls Tryz.prog 159 #[A16 c] w fun e w' => e = .returned (.tuple #[A16 (lensOf c), I (buildE c)]) ∧ Below w.heap.size w w' := by
 obtain ⟨B, hB⟩ : ∃ B, B = w.heap.size := ⟨_, rfl⟩
 obtain ⟨w0, hw0⟩ : ∃ w0, w0 = ((w.alloc (.cells (cells16 c) 145)).alloc (.cells (cells16 (Lf fun _ => 0)) 145)).alloc (.cells (cells16 (Lf fun _ => 0)) 145) := ⟨_, rfl⟩
 have h0 : BAt c (Lf fun _ => 0) w w0 B := by rw [hB, hw0]; exact BAt.start c w
 have H0 := hide h0
 have HB := hide hB
 have HC := hide hc
 have HW0 := hide hw0
 have CF := fun (W : World) => countsFine_any c W hc
 have hz := zero16v
 have hz2 := zeroRv
 obtain ⟨fb, hfb⟩ : ∃ fb, fb = fineB c := ⟨_, rfl⟩
 rw [← hfb] at CF
 have CF := hide CF
 have HFB := hide hfb
 clear h0 hB hc hw0 hfb
 cases fb with
 | false =>
  have e1 := buildE_bad (unhide HFB).symm
  have e2 := lensOf_err (c := c) (by rw [e1]; omega)
  rw [e1, e2]
  clear e1 e2
  go_enter Tryz.func159, Tryz.ntmps159
  go_wp2_with (first
   | (refine wpList_load16 rfl (.tmp 1) rfl B (by rw [unhide HB]; rfl) c (unhide HC) (by rw [← unhide HW0]; exact (unhide H0).a) ?_; rw [← unhide HW0, ← unhide HB]))
  refine (unhide CF _).mono ?_
  rintro e w1 ⟨rfl, hb⟩
  have H1 := hide ((unhide H0).below hb)
  clear hb
  go_wp2_with (first
   | (refine wpList_load16 rfl (.tmp 4) rfl (B + 2) rfl _ (Lf_len _) (unhide H1).o ?_)
   | (refine wpList_store_row rfl 145 (.tmp 2) (.tmp 16) rfl (B + 1) (cells16 (Lf fun _ => 0)) rfl rfl 145 _ (unhide H1).z (by rw [sizeI, cells16_size (Lf_len _)]) rfl (cells16_one _) ?_))
  refine bodyPost_ret (results_row_tmp rfl _ _ (B + 1) 145 (cells16 (Lf fun _ => 0)) (0, 0) _ rfl ((unhide H1).res _) Tryz.underlying145 rfl (by rw [sizeI, cells16_size (Lf_len _)])) rfl ⟨rfl, ?_⟩
  rw [← unhide HB]
  exact below_setRow (unhide H1).bel (by omega) _
 | true =>
  have HFA := hide (fine_all (unhide HFB).symm)
  go_enter Tryz.func159, Tryz.ntmps159
  go_wp2_with (first
   | (refine wpList_load16 rfl (.tmp 1) rfl B (by rw [unhide HB]; rfl) c (unhide HC) (by rw [← unhide HW0]; exact (unhide H0).a) ?_; rw [← unhide HW0, ← unhide HB]))
  refine (unhide CF _).mono ?_
  rintro e w1 ⟨rfl, hb⟩
  have H1 := hide ((unhide H0).below hb)
  clear hb
  go_wp2_with fail
  go_loopw [5, 6] (fun lv iv wr => ∃ k : Nat, k ≤ 16 ∧ iv = .int .i64 k ∧ wr.ownsRow (B + 3) 219 17 lv (startF c k).length ((startF c k).flatMap encR) ∧ BAt c (Lf fun _ => 0) w wr B) (fun _ iv _ => 16 - (intOf iv).toNat)
  case atStart => exact ⟨0, by omega, rfl, World.ownsRow_nil _ _ _ _, unhide H1⟩
  case round =>
   obtain ⟨k, hk, rfl, hown, hat⟩ := hrel
   have HOWN := hide hown
   have HAT := hide hat
   clear hown hat
   have hsz := (unhide HAT).size
   by_cases hk16 : k < 16
   ·obtain ⟨x, hx⟩ : ∃ x, c[k]? = some x := ⟨_, List.getElem?_eq_getElem (by have := unhide HC; omega)⟩
    have hcx := cell16 (unhide HAT).a hx
    have bx := unhide HFA x (List.mem_of_getElem? hx)
    have hxd : c.getD k 0 = x := by rw [List.getD_eq_getElem?_getD, hx]; rfl
    by_cases hp : 0 < x
    ·obtain ⟨y, rfl⟩ : ∃ y : Nat, x = (y : Int) := ⟨x.toNat, by omega⟩
     have hcn : cn c k = y := by unfold cn; rw [hxd]; rfl
     have hst : startF c (k + 1) = startF c k ++ [(y, [k])] := by rw [startF_pos (by rw [hxd]; exact hp), hcn]
     have HST := hide hst
     have hlen := startF_len c k
     obtain ⟨n, hn⟩ : ∃ n, n = (startF c k).length := ⟨_, rfl⟩
     have HN := hide hn
     rw [← hn] at hlen
     clear hx hxd hcn hst hn
     obtain ⟨D, hD⟩ : ∃ D, D = wr.heap.size := ⟨_, rfl⟩
     have HD := hide hD
     have hDB : B + 3 ≤ D := by omega
     clear hD
     go_upto_region 10 with (first
      | (refine wpList_store_row rfl 219 (.tmp 7) (.tmp 28) rfl wr.heap.size #[.bool false, .bool false, .bool false, .bool false, .bool false, .bool false, .bool false, .bool false, .bool false, .bool false, .bool false, .bool false, .bool false, .bool false, .bool false, .bool false, .int .i64 (y : Int)] rfl rfl 219 zeroR (heap_alloc_new _ _) sizeP rfl (encR_all0 y) ?_))
     obtain ⟨w2, hw2⟩ : ∃ w2, w2 = (wr.alloc (.cells zeroR 219)).setRow wr.heap.size #[.bool false, .bool false, .bool false, .bool false, .bool false, .bool false, .bool false, .bool false, .bool false, .bool false, .bool false, .bool false, .bool false, .bool false, .bool false, .bool false, .int .i64 (y : Int)] := ⟨_, rfl⟩
     have a2 : w2.heap[D]? = some (.cells (encR (y, [])).toArray 219 (0, 0)) := by rw [hw2, unhide HD]; exact boxR wr (y, []) wr.heap.size rfl
     have b2 : Below D wr w2 := by rw [hw2, unhide HD]; exact belowR (Below.refl _ _) (Nat.le_refl _) _
     rw [← hw2, ← unhide HD]
     clear hw2
     have c3 : w2.cell? ⟨D, k, none⟩ = some (.bool false) := by
      rw [cell_of_row _ _ _ _ _ _ a2, List.getElem?_toArray, encR_get _ hk16, has_def]; rfl
     have f3 : w2.frozen? ⟨D, k, none⟩ = false := frozen_of_row _ _ _ _ _ a2
     have A2 := hide a2
     have B2 := hide b2
     clear a2 b2
     go_upto_region 11 with fail
     obtain ⟨w3, hw3⟩ : ∃ w3, w3 = w2.setCell ⟨D, k, none⟩ (.bool true) := ⟨_, rfl⟩
     have a3 : w3.heap[D]? = some (.cells (encR (y, [k])).toArray 219 (0, 0)) := by
      rw [hw3, heap_setCell_same _ _ _ _ _ _ (unhide A2), encR_set (t := (y, [])) (u := (y, [k])) hk16 rfl has_one]
     have b3 : Below D wr w3 := by rw [hw3]; exact (unhide B2).setCell (Nat.le_refl _) _
     rw [← hw3]
     clear hw3 c3 f3
     have at3 := (unhide HAT).below3 (b3.mono hDB)
     have ow3 := own_below (unhide HOWN) (by rw [← unhide HD]; exact b3)
     have hs3 : B + 3 ≤ w3.heap.size := at3.size
     have A3 := hide a3
     have AT3 := hide at3
     have OW3 := hide ow3
     have h17 := encR_len (y, [k])
     clear a3 b3 at3 ow3
     go_wp2_with (first
      | (refine wpList_load_row rfl 219 (.tmp 7) rfl D rfl 219 (encR (y, [k])).toArray (0, 0) _ (unhide A3) Tryz.underlying219 rfl sizeP ?_)
      | at_builtin; rw [buildR (y, [k])]; refine wpList_push_R rfl _ _ rfl (B + 3) _ n (startF c k) rfl (by rw [unhide HN]; exact unhide OW3) (y, [k]) w3.heap.size rfl rfl (by omega) hs3 ?_; intro A' cap' w4 hown4 hb4 hg4; have HOWN4 := hide hown4; have HB4 := hide hb4; clear hown4 hb4 hg4)
     go_roundw
     case rel => exact ⟨k + 1, by omega, by go_num, by rw [unhide HST, List.length_append, ← unhide HN]; exact unhide HOWN4, (unhide AT3).below3 (unhide HB4)⟩
     case measure => simp [intOf]; omega
    ·have hst : startF c (k + 1) = startF c k := startF_zero (by rw [hxd]; exact hp)
     have HST := hide hst
     clear hx hxd hst
     go_wp2_with fail
     go_roundw
     case rel => exact ⟨k + 1, by omega, by go_num, by rw [unhide HST]; exact unhide HOWN, unhide HAT⟩
     case measure => simp [intOf]; omega
   ·have hk' : k = 16 := by omega
    subst hk'
    have hF := startF_forest c 16 (Nat.le_refl _)
    have hl16 := startF_len c 16
    obtain ⟨l, hl⟩ : ∃ l, l = startF c 16 := ⟨_, rfl⟩
    have hful : fulF c = l := hl.symm
    have hw0 := hide (unhide HOWN)
    rw [← hl] at hF hl16 hw0
    obtain ⟨n, hn⟩ : ∃ n, n = l.length := ⟨_, rfl⟩
    rw [← hn] at hl16 hw0
    obtain ⟨A, cap, rfl⟩ := own_slice17 (unhide hw0)
    have HF := hide hF
    have HFUL := hide hful
    have HN := hide hn
    clear hF hl hful hn
    by_cases h0 : n = 0
    ·have e1 : buildE c = 5 := buildE_none (unhide HFB).symm (by rw [unhide HFUL, ← unhide HN, h0])
     have e2 := lensOf_err (c := c) (by rw [e1]; omega)
     have HE1 := hide e1
     have HE2 := hide e2
     have z1 : ((n : Int) == 0) = true := by rw [h0]; rfl
     clear e1 e2 h0
     go_wp2_with (first
      | (refine wpList_load16 rfl (.tmp 4) rfl (B + 2) rfl _ (Lf_len _) (unhide HAT).o ?_)
      | (refine wpList_store_row rfl 145 (.tmp 2) (.tmp 39) rfl (B + 1) (cells16 (Lf fun _ => 0)) rfl rfl 145 _ (unhide HAT).z (by rw [sizeI, cells16_size (Lf_len _)]) rfl (cells16_one _) ?_))
     refine bodyPost_ret (results_row_tmp rfl _ _ (B + 1) 145 (cells16 (Lf fun _ => 0)) (0, 0) _ rfl ((unhide HAT).res _) Tryz.underlying145 rfl (by rw [sizeI, cells16_size (Lf_len _)])) rfl ⟨by rw [unhide HE1, unhide HE2]; rfl, ?_⟩
     rw [← unhide HB]
     exact below_setRow (unhide HAT).bel (by omega) _
    ·have z1 : ((n : Int) == 0) = false := by rw [beq_eq_false_iff_ne]; omega
     have e1 : buildE c = 0 := buildE_ok (unhide HFB).symm (by rw [unhide HFUL, ← unhide HN]; exact h0)
     have HE1 := hide e1
     clear e1
     obtain ⟨g, cap', hgc⟩ := row_at17 (unhide hw0) h0
     rw [hgc] at hw0
     injection hgc with hA _ hcap
     subst hA
     subst hcap
     by_cases h1 : n = 1
     ·have z2 : ((n : Int) == 1) = true := by rw [h1]; rfl
      obtain ⟨t, ht⟩ : ∃ t, l = [t] := List.length_eq_one_iff.1 ((unhide HN).symm.trans h1)
      have e2 := lens_one (unhide HFB).symm (t := t) (by rw [unhide HFUL, ht])
      have hv := (unhide HF).vt t (by rw [ht]; simp)
      have hr := own_range (unhide hw0) (i := 0) (t := t) (by rw [ht]; rfl)
      rw [Nat.zero_mul] at hr
      have hd16 := hv.lt _ (hd_mem hv)
      have LSG := fun (W : World) => leastSign_any t W hv
      obtain ⟨d, hd'⟩ : ∃ d, d = hd t := ⟨_, rfl⟩
      rw [← hd'] at e2 hd16 LSG
      have hn0 : (0 : Int) < n := by omega
      have HE2 := hide e2
      have HR := hide hr
      have LSG := hide LSG
      clear e2 hv ht hr hd' h0 h1
      go_wp2_with (first
       | (refine wpList_load_mid rfl 219 (.tmp 44) rfl g 0 rfl (encR t) _ (unhide HR) Tryz.underlying219 rfl sizeP ?_))
      refine (unhide LSG _).mono ?_
      rintro e w2 ⟨rfl, hw2⟩
      have H2 := hide ((unhide HAT).below (w1 := w2) (by rw [hw2]; exact (Below.refl _ _).alloc (Nat.le_refl _) _))
      have c3 : w2.cell? ⟨B + 1 + 1, d, none⟩ = some (.int .i64 0) := cell16 (unhide H2).o (Lf_get _ hd16)
      have f3 : w2.frozen? ⟨B + 1 + 1, d, none⟩ = false := frozen_of_row _ _ _ _ _ (unhide H2).o
      clear hw2
      go_upto_region 16 with fail
      obtain ⟨w3, hw3⟩ : ∃ w3, w3 = w2.setCell ⟨B + 1 + 1, d, none⟩ (.int .i64 1) := ⟨_, rfl⟩
      rw [← hw3]
      have h3 : BAt c (Lf fun j => if j = d then 1 else 0) w w3 B := by
       have := (unhide H2).put d 1
       rw [Lf_set] at this
       rw [hw3]; exact this
      have H3 := hide h3
      clear c3 f3 hw3 h3
      go_wp2_with (first
       | (refine wpList_load16 rfl (.tmp 4) rfl (B + 2) rfl _ (Lf_len _) (unhide H3).o ?_)
       | (refine wpList_store_row rfl 145 (.tmp 2) (.tmp 48) rfl (B + 1) (cells16 (Lf fun j => if j = d then 1 else 0)) rfl rfl 145 _ (unhide H3).z (by rw [sizeI, cells16_size (Lf_len _)]) rfl (cells16_one _) ?_))
      refine bodyPost_ret (results_row_tmp rfl _ _ (B + 1) 145 (cells16 (Lf fun j => if j = d then 1 else 0)) (0, 0) _ rfl ((unhide H3).res _) Tryz.underlying145 rfl (by rw [sizeI, cells16_size (Lf_len _)])) rfl ⟨by rw [unhide HE1, unhide HE2]; rfl, ?_⟩
      rw [← unhide HB]
      exact below_setRow (unhide H3).bel (by omega) _
     ·have z2 : ((n : Int) == 1) = false := by rw [beq_eq_false_iff_ne]; omega
      have h2 : 2 ≤ (fulF c).length := by rw [unhide HFUL, ← unhide HN]; omega
      have HRES := hide (lens_many (unhide HFB).symm h2)
      have hst : BldAt c w wr B (.slice (some ⟨g, 0, none⟩) n cap) l fun _ => 0 := by
       have hlen := unhide HN
       refine ⟨unhide HF, by omega, by omega, ?_, by rw [← hlen]; exact unhide hw0, unhide HAT, fun i _ => ?_⟩
       ·rw [← unhide HFUL]; exact sum_full (unhide HFB).symm (unhide HC)
       ·rw [unhide HFUL, Int.zero_add]
      have HST := hide hst
      clear hst h0 h1 h2
      go_wp2_with fail
      go_loopw [5] (fun lv wr => ∃ l f, BldAt c w wr B lv l f) (fun lv _ => slLen lv)
      case atStart => exact ⟨_, _, unhide HST⟩
      case round =>
       obtain ⟨l, f, hbl⟩ := hrel
       obtain ⟨n, hn⟩ : ∃ n, n = l.length := ⟨_, rfl⟩
       have hown := hbl.own
       have hl1 := hbl.one
       have hl16 := hbl.le
       have HF := hide hbl.fo
       have HAT := hide hbl.at_
       have HBL := hide hbl
       rw [← hn] at hown hl1 hl16
       have HOW := hide hown
       have HN := hide hn
       obtain ⟨g, cap, rfl⟩ := row_at17 hown (by omega)
       clear hbl hown hn
       have hsz := (unhide HAT).size
       by_cases h2 : 2 ≤ n
       ·have K := hide (takeLeast_any l (B + 3) g n cap wr (unhide HF) (unhide HN).symm hl1 hl16 (unhide HOW))
        go_wp2_with fail
        refine (unhide K).mono ?_
        rintro e w1 ⟨a, k, v, hka, hle, rfl, hown1, hb1⟩
        obtain ⟨hs1, hp1⟩ := take_least (unhide HF) hka (by rw [← unhide HN]; exact hle)
        have hF0 := (unhide HF).perm hp1.symm
        have hva := hF0.vt a (by simp)
        have hF1 : Forest (l.eraseIdx k) := ⟨fun t ht => hF0.vt t (by simp [ht]), (List.pairwise_cons.1 hF0.dis).2⟩
        have hbo1 := (unhide HBL).bound (List.mem_of_getElem? hka)
        obtain ⟨l1, hl1e⟩ : ∃ l1, l1 = l.eraseIdx k := ⟨_, rfl⟩
        rw [← hl1e] at hs1 hp1 hF1 hown1
        have hlen1 : l1.length = n - 1 := by have := hp1.length_eq; simp at this; have := unhide HN; omega
        obtain ⟨g1, cap1, rfl⟩ := row_at17 hown1 (by omega)
        have hg1 := hown1.lt g1 rfl
        have HP1 := hide (And.intro hs1 hp1)
        have HVA := hide hva
        have HF1 := hide hF1
        have HOW1 := hide hown1
        have HB1 := hide hb1
        have HAT1 := hide ((unhide HAT).below hb1)
        have hsz1 := (unhide HAT1).size
        obtain ⟨D, hD⟩ : ∃ D, D = w1.heap.size := ⟨_, rfl⟩
        have HD := hide hD
        have HL1 := hide hlen1
        clear hka hle hs1 hp1 hF0 hva hF1 hl1e hown1 hb1 hD hlen1 K
        go_wp2_with (first
         | (refine wpList_store_row rfl 219 (.tmp 8) (.tmp 55) rfl w1.heap.size (encR a).toArray rfl rfl 219 zeroR (heap_alloc_new _ _) sizeP rfl (all_oneCell_toArray (encR_one a)) ?_))
        obtain ⟨w2, hw2⟩ : ∃ w2, w2 = (w1.alloc (.cells zeroR 219)).setRow w1.heap.size (encR a).toArray := ⟨_, rfl⟩
        have a2 : w2.heap[D]? = some (.cells (encR a).toArray 219 (0, 0)) := by rw [hw2, unhide HD]; exact boxR w1 a w1.heap.size rfl
        have b2 : Below D w1 w2 := by rw [hw2, unhide HD]; exact belowR (Below.refl _ _) (Nat.le_refl _) _
        have s2 : w2.heap.size = D + 1 := by rw [hw2, unhide HD]; simp
        rw [← hw2, ← unhide HD]
        have ow2 := own_below (unhide HOW1) (by rw [← unhide HD]; exact b2)
        have K := takeLeast_any l1 wr.heap.size g1 (n - 1) cap1 w2 (unhide HF1) (unhide HL1) (by omega) (by omega) ow2
        have A2 := hide a2
        have B2 := hide b2
        have S2 := hide s2
        have HAT2 := hide ((unhide HAT1).below (by rw [← unhide HD]; exact b2))
        clear hw2 a2 b2 s2 ow2
        refine K.mono ?_
        clear K
        rintro e w3 ⟨b, k2, v2, hkb, hle2, rfl, hown3, hb3⟩
        obtain ⟨hs3, hp3⟩ := take_least (unhide HF1) hkb (by rw [unhide HL1]; exact hle2)
        have hF2 := (unhide HF1).perm hp3.symm
        have hvb := hF2.vt b (by simp)
        obtain ⟨l2, hl2e⟩ : ∃ l2, l2 = l1.eraseIdx k2 := ⟨_, rfl⟩
        rw [← hl2e] at hs3 hp3 hown3
        have hlen2 : l2.length = n - 2 := by have := hp3.length_eq; simp at this; have := unhide HL1; omega
        have hp4 : (a :: b :: l2).Perm l := (hp3.cons a).trans (unhide HP1).2
        have hstep := step_all (unhide HF) hp4 ⟨sortT l2, by rw [(unhide HP1).1, hs3], sortT_perm l2⟩
        have hsum : a.1 + b.1 ≤ 32768 := by
         have h1 := (unhide HBL).sum
         have h3 := (hp4.map Prod.fst).sum_nat
         simp at h3
         omega
        rw [show n - 1 - 1 = n - 2 from by omega] at hown3
        have hD3 : D + 1 ≤ w3.heap.size := by have := hb3.size; have := unhide S2; omega
        have A3 := hide ((hb3.block D (by have := unhide S2; omega)).trans (unhide A2))
        have HAT3 := hide ((unhide HAT2).below hb3)
        have HOW3 := hide (own_lower hown3 (by have := unhide S2; have := unhide HD; omega : B + 3 ≤ w2.heap.size))
        have HVB := hide hvb
        have HSTEP := hide hstep
        have HL2 := hide hlen2
        obtain ⟨E, hE⟩ : ∃ E, E = w3.heap.size := ⟨_, rfl⟩
        have HE := hide hE
        clear hkb hle2 hs3 hp3 hF2 hvb hl2e hp4 hstep hlen2 hown3 hb3 hE
        go_upto_region 20 with (first
         | (refine wpList_store_row rfl 219 (.tmp 10) (.tmp 60) rfl w3.heap.size (encR b).toArray rfl rfl 219 zeroR (heap_alloc_new _ _) sizeP rfl (all_oneCell_toArray (encR_one b)) ?_))
        obtain ⟨w4, hw4⟩ : ∃ w4, w4 = (w3.alloc (.cells zeroR 219)).setRow w3.heap.size (encR b).toArray := ⟨_, rfl⟩
        have a4 : w4.heap[E]? = some (.cells (encR b).toArray 219 (0, 0)) := by rw [hw4, unhide HE]; exact boxR w3 b w3.heap.size rfl
        have b4 : Below E w3 w4 := by rw [hw4, unhide HE]; exact belowR (Below.refl _ _) (Nat.le_refl _) _
        have s4 : w4.heap.size = E + 1 := by rw [hw4, unhide HE]; simp
        have hDE : D < E := by have := unhide HE; omega
        rw [← hw4, ← unhide HE]
        have ow4 := own_below (unhide HOW3) (by rw [← unhide HE]; exact b4)
        have d4 := (b4.block D hDE).trans (unhide A3)
        have at4 := (unhide HAT3).below (by rw [← unhide HE]; exact b4)
        have q1 : w4.cell? ⟨D, 16, none⟩ = some (I a.1) := by rw [cell_of_row _ _ _ _ _ _ d4, List.getElem?_toArray]; exact encR_w a
        have q2 : w4.cell? ⟨E, 16, none⟩ = some (I b.1) := by rw [cell_of_row _ _ _ _ _ _ a4, List.getElem?_toArray]; exact encR_w b
        have A4 := hide a4
        have D4 := hide d4
        have S4 := hide s4
        have OW4 := hide ow4
        have AT4 := hide at4
        obtain ⟨F, hFq⟩ : ∃ F, F = w4.heap.size := ⟨_, rfl⟩
        have HFQ := hide hFq
        have hEF : E + 1 = F := by have := unhide HFQ; have := unhide S4; omega
        clear hw4 a4 b4 s4 ow4 d4 at4 hFq
        obtain ⟨xa, hxa⟩ : ∃ xa, xa = a.1 := ⟨_, rfl⟩
        obtain ⟨xb, hxb⟩ : ∃ xb, xb = b.1 := ⟨_, rfl⟩
        rw [← hxa] at q1 hsum
        rw [← hxb] at q2 hsum
        have HXA := hide hxa
        have HXB := hide hxb
        clear hxa hxb hbo1
        go_wp2_with (first
         | (refine wpList_store_row rfl 219 (.tmp 11) (.tmp 67) rfl w4.heap.size #[.bool false, .bool false, .bool false, .bool false, .bool false, .bool false, .bool false, .bool false, .bool false, .bool false, .bool false, .bool false, .bool false, .bool false, .bool false, .bool false, .int .i64 ((xa : Int) + (xb : Int))] rfl rfl 219 zeroR (heap_alloc_new _ _) sizeP rfl (encR_all0 (xa + xb)) ?_))
        obtain ⟨w5, hw5⟩ : ∃ w5, w5 = (w4.alloc (.cells zeroR 219)).setRow w4.heap.size #[.bool false, .bool false, .bool false, .bool false, .bool false, .bool false, .bool false, .bool false, .bool false, .bool false, .bool false, .bool false, .bool false, .bool false, .bool false, .bool false, .int .i64 ((xa : Int) + (xb : Int))] := ⟨_, rfl⟩
        have hm0 : (encR (mgI a b 0)).toArray = #[.bool false, .bool false, .bool false, .bool false, .bool false, .bool false, .bool false, .bool false, .bool false, .bool false, .bool false, .bool false, .bool false, .bool false, .bool false, .bool false, .int .i64 ((xa : Int) + (xb : Int))] := by
         have e : mgI a b 0 = (xa + xb, []) := by unfold mgI; rw [unhide HXA, unhide HXB]; simp
         rw [e]; rfl
        have m5 : MrgAt c f a b w w4 w5 B F 0 := by
         rw [hw5]
         refine ⟨?_, ?_, fun k h1 h2 => ?_⟩
         ·have e : Lf (fun j => f j + if j < 0 ∧ j ∈ mg a.2 b.2 then 1 else 0) = Lf f := Lf_congr fun j _ => by simp
          rw [e]
          exact (unhide AT4).below (belowR (Below.refl _ _) (Nat.le_refl _) _)
         ·rw [hm0, unhide HFQ]; exact setRow_heap _ _ _ _ _ _ (heap_alloc_new _ _)
         ·exact (belowR (Below.refl w4.heap.size w4) (Nat.le_refl _) _).block k (by have := unhide HFQ; omega)
        rw [← hw5, ← unhide HFQ]
        have M5 := hide m5
        clear hw5 hm0 m5 q1 q2
        have hBD : B + 3 ≤ D := by have := unhide HD; omega
        go_loopw [12] (fun iv w6 => ∃ i : Nat, i ≤ 16 ∧ iv = .int .i64 i ∧ MrgAt c f a b w w4 w6 B F i) (fun iv _ => 16 - (intOf iv).toNat)
        case atStart => exact ⟨0, by omega, rfl, unhide M5⟩
        case round =>
         obtain ⟨i, hi, rfl, hm⟩ := hrel
         have HM := hide hm
         clear hm
         by_cases hi16 : i < 16
         ·have ca := (unhide HM).of (unhide D4) hBD (by omega) hi16
          have cb := (unhide HM).of (unhide A4) (by omega) (by omega) hi16
          obtain ⟨v7, cf, ff⟩ := (unhide HM).bit hi16
          have cl := (unhide HM).len hi16
          have fl := (unhide HM).lenF (i := i)
          have hfb := inv_bound (unhide HBL) hi16
          obtain ⟨y, hy⟩ : ∃ y, y = f i := ⟨_, rfl⟩
          rw [← hy] at cl hfb
          have HY := hide hy
          have hsz6 := (unhide HM).at_.size
          clear hy
          cases h1 : has a i
          ·cases h2 : has b i
           ·have hn : (has a i || has b i) = false := by rw [h1, h2]; rfl
            rw [h1] at ca
            rw [h2] at cb
            have HNX := hide hn
            clear h1 h2 hn cl fl
            go_upto_region 25 with fail
            obtain ⟨w7, hw7⟩ : ∃ w7, w7 = wr.setCell ⟨F, i, none⟩ (.bool false) := ⟨_, rfl⟩
            have c7 : w7.cell? ⟨F, i, none⟩ = some (.bool false) := by rw [hw7]; exact cell_set_same cf _
            have m7 : MrgAt c f a b w w4 w7 B F (i + 1) := by rw [hw7]; exact (unhide HM).set (unhide HVA) (unhide HVB) hi16 (by omega) (unhide HNX)
            rw [← hw7]
            have M7 := hide m7
            clear hw7 m7 ca cb cf ff
            go_wp2_with fail
            go_roundw
            case rel => exact ⟨i + 1, by omega, by go_num, unhide M7⟩
            case measure => simp [intOf]; omega
           ·have hn : (has a i || has b i) = true := by rw [h1, h2]; rfl
            rw [h1] at ca
            rw [h2] at cb
            have HNX := hide hn
            clear h1 h2 hn
            go_upto_region 25 with fail
            obtain ⟨w7, hw7⟩ : ∃ w7, w7 = wr.setCell ⟨F, i, none⟩ (.bool true) := ⟨_, rfl⟩
            have c7 : w7.cell? ⟨F, i, none⟩ = some (.bool true) := by rw [hw7]; exact cell_set_same cf _
            have c8 : w7.cell? ⟨B + 1 + 1, i, none⟩ = some (.int .i64 y) := by rw [hw7, cell_set_block (by show B + 1 + 1 ≠ F; omega)]; exact cl
            have f8 : w7.frozen? ⟨B + 1 + 1, i, none⟩ = false := by rw [hw7, frozen_set]; exact fl
            have m7 : MrgAt c f a b w w4 (w7.setCell ⟨B + 1 + 1, i, none⟩ (.int .i64 (y + 1))) B F (i + 1) := by rw [hw7, unhide HY]; exact (unhide HM).put (unhide HVA) (unhide HVB) hi16 (by omega) (unhide HNX)
            rw [← hw7]
            have M7 := hide m7
            clear hw7 m7 ca cb cf ff cl fl
            go_wp2_with fail
            go_roundw
            case rel => exact ⟨i + 1, by omega, by go_num, unhide M7⟩
            case measure => simp [intOf]; omega
          ·have hn : (has a i || has b i) = true := by rw [h1]; rfl
           rw [h1] at ca
           have HNX := hide hn
           clear h1 hn
           go_upto_region 25 with fail
           obtain ⟨w7, hw7⟩ : ∃ w7, w7 = wr.setCell ⟨F, i, none⟩ (.bool true) := ⟨_, rfl⟩
           have c7 : w7.cell? ⟨F, i, none⟩ = some (.bool true) := by rw [hw7]; exact cell_set_same cf _
           have c8 : w7.cell? ⟨B + 1 + 1, i, none⟩ = some (.int .i64 y) := by rw [hw7, cell_set_block (by show B + 1 + 1 ≠ F; omega)]; exact cl
           have f8 : w7.frozen? ⟨B + 1 + 1, i, none⟩ = false := by rw [hw7, frozen_set]; exact fl
           have m7 : MrgAt c f a b w w4 (w7.setCell ⟨B + 1 + 1, i, none⟩ (.int .i64 (y + 1))) B F (i + 1) := by rw [hw7, unhide HY]; exact (unhide HM).put (unhide HVA) (unhide HVB) hi16 (by omega) (unhide HNX)
           rw [← hw7]
           have M7 := hide m7
           clear hw7 m7 ca cb cf ff cl fl
           go_wp2_with fail
           go_roundw
           case rel => exact ⟨i + 1, by omega, by go_num, unhide M7⟩
           case measure => simp [intOf]; omega
         ·have hi' : i = 16 := by omega
          subst hi'
          have o16 : wr.heap[F]? = some (.cells (encR (mgT a b)).toArray 219 (0, 0)) := by
           have := (unhide HM).o
           rwa [mgI_all] at this
          have ow6 := own_upto (unhide OW4) (by rw [unhide HFQ]; exact Nat.le_refl _) (unhide HM).keep
          have O16 := hide o16
          have OW6 := hide ow6
          have hs6 := (unhide HM).at_.size
          have h17 := encR_len (mgT a b)
          obtain ⟨m, hm⟩ : ∃ m, m = n - 2 := ⟨_, rfl⟩
          have hm16 : m ≤ 16 := by omega
          rw [← hm] at ow6
          have OW6 := hide ow6
          have HM2 := hide hm
          clear o16 ow6 hm
          go_wp2_with (first
           | (refine wpList_load_row rfl 219 (.tmp 11) rfl F rfl 219 (encR (mgT a b)).toArray (0, 0) _ (unhide O16) Tryz.underlying219 rfl sizeP ?_)
           | at_builtin; rw [buildR (mgT a b)]; refine wpList_push_R rfl _ _ rfl (B + 3) _ m l2 rfl (unhide OW6) (mgT a b) wr.heap.size rfl rfl (by omega) hs6 ?_; intro A' cap' w8 hown8 hb8 hg8; have HOWN8 := hide hown8; have HB8 := hide hb8; clear hown8 hb8 hg8)
          go_roundw
          case rel =>
           have hl3 : (l2 ++ [mgT a b]).length = m + 1 := by rw [List.length_append, unhide HL2, ← unhide HM2]; rfl
           have hst := unhide HSTEP
           refine ⟨l2 ++ [mgT a b], fun j => f j + if j < 16 ∧ j ∈ mg a.2 b.2 then 1 else 0, ⟨hst.1, by omega, by have := unhide HM2; omega, ?_, by rw [hl3]; exact unhide HOWN8, (unhide HM).at_.below3 (unhide HB8), fun i hi => ?_⟩⟩
           ·rw [hst.2.1]; exact (unhide HBL).sum
           ·have h1 := (unhide HBL).inv i hi
            have h3 := hst.2.2 (n - 2) i
            have e1 : l.length - 1 = n - 2 + 1 := by have := unhide HN; omega
            rw [e1, h3] at h1
            have e2 : (l2 ++ [mgT a b]).length - 1 = n - 2 := by rw [hl3]; have := unhide HM2; omega
            rw [e2, ← h1]
            by_cases h4 : i ∈ mg a.2 b.2
            ·rw [if_pos ⟨hi, h4⟩, if_pos h4]; simp; omega
            ·rw [if_neg (fun h => h4 h.2), if_neg h4]; simp
          case measure =>
           have := unhide HM2
           simp [slLen]; omega
       ·have e1 : n = 1 := by omega
        have z3 : decide ((n : Int) > 1) = false := by rw [decide_eq_false_iff_not]; omega
        have hres : lensOf c = Lf f := by
         rw [unhide HRES]
         refine Lf_congr fun i hi => ?_
         have h1 := (unhide HBL).inv i hi
         rw [build_short (by have := unhide HN; omega)] at h1
         omega
        have HR2 := hide hres
        clear hres e1
        go_wp2_with (first
         | (refine wpList_load16 rfl (.tmp 4) rfl (B + 2) rfl _ (Lf_len _) (unhide HAT).o ?_)
         | (refine wpList_store_row rfl 145 (.tmp 2) (.tmp 98) rfl (B + 1) (cells16 (Lf f)) rfl rfl 145 _ (unhide HAT).z (by rw [sizeI, cells16_size (Lf_len _)]) rfl (cells16_one _) ?_))
        refine bodyPost_ret (results_row_tmp rfl _ _ (B + 1) 145 (cells16 (Lf f)) (0, 0) _ rfl ((unhide HAT).res _) Tryz.underlying145 rfl (by rw [sizeI, cells16_size (Lf_len _)])) rfl ⟨by rw [unhide HE1, unhide HR2]; rfl, ?_⟩
        rw [← unhide HB]
        exact below_setRow (unhide HAT).bel (by omega) _
end Go.Proofs.YtjpgoeimclipjaaGreat
namespace Go.Proofs.YtjpgoeimclipjaaGreat
open Go.RowKit Go.Lib Pl
structure BoxL (l : List Int) (w wr : World) (B D : Nat) : Prop where
 o : wr.heap[D]? = some (.cells (cells16 l) 145 (0, 0))
 le : B ≤ D
 bel : Below B w wr
theorem BoxL.lt {l : List Int} {w wr : World} {B D : Nat} (h : BoxL l w wr B D) : D < wr.heap.size := (Array.getElem?_eq_some_iff.1 h.o).1
theorem BoxL.below {l : List Int} {w wr w1 : World} {B D : Nat} (h : BoxL l w wr B D) (hb : Below wr.heap.size wr w1) : BoxL l w w1 B D :=
 ⟨(hb.block _ h.lt).trans h.o, h.le, h.bel.trans (hb.mono (Nat.le_of_lt (Nat.lt_of_le_of_lt h.le h.lt)))⟩
theorem BoxL.grown {l : List Int} {w wr w1 : World} {B D : Nat} {r : Option Nat} (h : BoxL l w wr B D) (hg : wr.grownBy w1 r) (hr : ∀ k, r = some k → D + 1 ≤ k) : BoxL l w w1 B D :=
 have hle := h.le
 ⟨(hg.block D h.lt (fun e => by have := hr D e.symm; omega)).trans h.o, h.le, h.bel.grown hg (Nat.le_of_lt (Nat.lt_of_le_of_lt h.le h.lt)) (fun k hk => by have := hr k hk; omega)⟩
theorem BoxL.drew {l : List Int} {w wr : World} {B D : Nat} (h : BoxL l w wr B D) : BoxL l w wr.drew B D := ⟨h.o, h.le, h.bel.drew⟩
theorem BoxL.alloc {l : List Int} {w wr : World} {B D : Nat} (h : BoxL l w wr B D) (o : Obj) : BoxL l w (wr.alloc o) B D := h.below ((Below.refl _ _).alloc (Nat.le_refl _) _)
theorem BoxL.put {l : List Int} {w wr : World} {B D : Nat} (h : BoxL l w wr B D) (i : Nat) (v : Int) : BoxL (l.set i v) w (wr.setCell ⟨D, i, none⟩ (.int .i64 v)) B D :=
 ⟨by rw [heap_setCell_same _ _ _ _ _ _ h.o, cells16_set], h.le, h.bel.setCell h.le _⟩
theorem BoxL.new (l : List Int) (w : World) : BoxL l w (w.alloc (.cells (cells16 l) 145)) w.heap.size w.heap.size := ⟨heap_alloc_new _ _, Nat.le_refl _, (Below.refl _ _).alloc (Nat.le_refl _) _⟩
theorem BoxL.laid {w w1 : World} {B : Nat} (l : List Int) (hb : Below B w w1) (hB : B ≤ w1.heap.size) : BoxL l w ((w1.alloc (.cells (cells16 (Lf fun _ => 0)) 145)).setRow w1.heap.size (cells16 l)) B w1.heap.size :=
 ⟨setRow_heap _ _ _ _ _ _ (heap_alloc_new _ _), hB, below_setRow (hb.alloc hB _) hB _⟩
theorem BoxL.free {l : List Int} {w wr : World} {B D : Nat} (h : BoxL l w wr B D) (i : Nat) : wr.frozen? ⟨D, i, none⟩ = false := frozen_of_row _ _ _ _ _ h.o
theorem BoxL.get {l : List Int} {w wr : World} {B D : Nat} (h : BoxL l w wr B D) {k : Nat} {x : Int} (hk : l[k]? = some x) : wr.cell? ⟨D, k, none⟩ = some (.int .i64 x) := cell16 h.o hk
end Go.Proofs.YtjpgoeimclipjaaGreat
