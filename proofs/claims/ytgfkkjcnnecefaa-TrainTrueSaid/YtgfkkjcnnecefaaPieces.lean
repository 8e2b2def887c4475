/- The walk of train.pieces: counting. -/
import Derived.Test.YtgfkkjcnnecefaaMapI
import Derived.Test.YtgfkkjcnnecefaaTrainCount
namespace Go.Proofs.Ytgfkkjcnnecefaa
open Go.RowKit Go.Lib Pl
attribute [local go_sem] ext_list app_list

/-- in how many texts a piece stands: by the pieces themselves -/
def cntP (l : List Bytes) (p : Bytes) : Nat := (l.filter fun t => decide (p ∈ piecesOf t)).length
theorem cntP_eq {l : List Bytes} {p : Bytes} (hp : p.length = 4) : cntP l p = cnt l p := by
  unfold cntP cnt
  congr 2
  funext t
  rw [Bool.eq_iff_iff, decide_eq_true_eq]
  exact mem_piecesOf hp
theorem cntP_le (l : List Bytes) (p : Bytes) : cntP l p ≤ l.length := List.length_filter_le _ _
theorem cntP_take {l : List Bytes} {k : Nat} {t p : Bytes} (h : l[k]? = some t) : cntP (l.take (k + 1)) p = cntP (l.take k) p + (if p ∈ piecesOf t then 1 else 0) := by
  unfold cntP
  rw [List.take_add_one, h, List.filter_append, List.length_append]
  by_cases hs : p ∈ piecesOf t
  · simp [hs]
  · simp [hs]
/-- the counts, and the last texts, behind i texts and k pieces of the next -/
def fC (l : List Bytes) (i : Nat) (t : Bytes) (k : Nat) (p : Bytes) : Nat := cntP (l.take i) p + (if p ∈ (piecesOf t).take k then 1 else 0)

def Seen (i : Nat) (t : Bytes) (k : Nat) (g : Bytes → Nat) : Prop := ∀ p, g p ≤ i + 1 ∧ (g p = i + 1 ↔ p ∈ (piecesOf t).take k)
theorem mem_take_succ {t : Bytes} {k : Nat} (h : k < t.length - 3) (p : Bytes) : p ∈ (piecesOf t).take (k + 1) ↔ p ∈ (piecesOf t).take k ∨ p = piece t k := by
  rw [List.take_add_one, piecesOf_get h]
  simp

def pcCells (x : Bytes × Nat) : List Value := [S x.1, I x.2]
theorem pcCells_len (l : List (Bytes × Nat)) : (l.flatMap pcCells).length = l.length * 2 := by
  induction l with
  | nil => rfl
  | cons x l ih => simp [pcCells] at ih ⊢; omega
theorem pcCells_get : ∀ (l : List (Bytes × Nat)) (i : Nat) (x : Bytes × Nat), l[i]? = some x → (l.flatMap pcCells)[i * 2]? = some (S x.1) ∧ (l.flatMap pcCells)[i * 2 + 1]? = some (I x.2)
  | [], i, x, h => by simp at h
  | u :: l, 0, x, h => by simp at h; subst h; simp [pcCells]
  | u :: l, i + 1, x, h => by
    have h' : l[i]? = some x := by simpa using h
    obtain ⟨a, b⟩ := pcCells_get l i x h'
    have e : (u :: l).flatMap pcCells = pcCells u ++ l.flatMap pcCells := by simp
    have hl : (pcCells u).length = 2 := rfl
    rw [e]
    refine ⟨?_, ?_⟩
    · rw [List.getElem?_append_right (by omega), hl, show (i + 1) * 2 - 2 = i * 2 from by omega]; exact a
    · rw [List.getElem?_append_right (by omega), hl, show (i + 1) * 2 + 1 - 2 = i * 2 + 1 from by omega]; exact b
theorem info_piece : (Try.prog.info? 103).map (fun i => (i.zero, i.size, i.bytes)) = some (some (.agg #[.string ByteArray.empty, .int .i64 0]), 2, 24) := by kernel_rfl

theorem own_slice' {w : World} {base e size n : Nat} {v : Value} {xs : List Value} (h : w.ownsRow base e size v n xs) : ∃ A cap, v = .slice A n cap := by
  rcases h.2 with ⟨rfl, rfl⟩ | ⟨g, cap, cur, rfl, _⟩
  · exact ⟨_, _, rfl⟩
  · exact ⟨_, _, rfl⟩
theorem cells2_new (w : World) (x y : Value) (t : TypeId) : ∀ j u, [x, y][j]? = some u → (w.alloc (.cells #[x, y] t)).cell? ((⟨w.heap.size, 0, none⟩ : Addr).add j) = some u := by
  intro j u hj
  have e : (⟨w.heap.size, 0, none⟩ : Addr).add j = ⟨w.heap.size, j, none⟩ := by unfold Addr.add; split <;> simp_all
  rw [e, World.cell?_alloc_new]
  simpa using hj

/-- append(out, piece{..}) -/
theorem wpList_push_piece {w : World} {ops : Array Oper} {rest : List Oper} {o : Oper} {a : Act} {Q : Exit → Act → World → Prop} (hgd : o.guard = none) (s x : Operand)
    (ho : o.op = .call { callee := .builtin .append, args := #[s, x], argTypes := #[100, 100] })
    (base : Nat) (v : Value) (n : Nat) (l : List (Bytes × Nat)) (hs : a.eval s = v) (hown : w.ownsRow base 103 2 v n (l.flatMap pcCells)) (b : Bytes) (m : Nat)
    (H : Nat) (hH : w.heap.size = H) (hx : a.eval x = .slice (some ⟨H, 0, none⟩) 1 1)
    (hn : n ≤ 1000000) (hbase : base ≤ w.heap.size)
    (h : ∀ A' cap' w', w'.ownsRow base 103 2 (.slice A' (n + 1) cap') (n + 1) ((l ++ [(b, m)]).flatMap pcCells) → Below base w w' → (w.alloc (.cells #[S b, I m] 103)).grownBy w' v.ownBlock → wpList Try.prog ops Q rest (a.put o.dst (.slice A' (n + 1) cap')) w') :
    wpList Try.prog ops Q (o :: rest) a (w.alloc (.cells #[S b, I m] 103)) := by
  subst hH
  obtain ⟨i0, hi, hz0, hz1, hz2⟩ := info_parts info_piece
  refine wpList_append_own _ hgd s x _ ho base 103 i0 _ 2 24 Try.underlying100 hi hz0 hz1 hz2 rfl (by decide) v n (l.flatMap pcCells) hs (hown.alloc _) ⟨w.heap.size, 0, none⟩ 1 1 [S b, I m] hx rfl (cells2_new _ _ _ _) ?_ (by unfold maxLen; omega) (by omega) (by simp; omega) ?_
  · intro y hy
    simp at hy
    rcases hy with rfl | rfl <;> rfl
  · intro v' w' hown' hg _
    have hown2 : w'.ownsRow base 103 2 v' (n + 1) ((l ++ [(b, m)]).flatMap pcCells) := by
      rw [List.flatMap_append]; exact hown'
    obtain ⟨A', cap', rfl⟩ := own_slice' hown2
    refine h A' cap' w' hown2 ?_ hg
    exact ((Below.refl _ _).alloc hbase _).grown hg (by simp; omega) (fun k hk => (hown.lt k hk).1)

/-- what the library's sort does to a row of pieces -/
def SortSpec : Prop := ∀ (W : World) (base : Nat) (v : Value) (n : Nat) (o : List (Bytes × Nat)), W.ownsRow base 103 2 v n (o.flatMap pcCells) → n ≤ 1000000 →
  Calls Try.prog 83 #[v, .func (.func 84) #[] #[]] W fun e w' =>
    e = .returned (.tuple #[]) ∧ ∃ o' : List (Bytes × Nat), o'.Perm o ∧ o'.Pairwise (fun a b => better b a = false) ∧ w'.ownsRow base 103 2 v n (o'.flatMap pcCells) ∧ Below base W w'

/-- what has been collected -/
structure Col (l : List Bytes) (left : Lit → Bool) (o : List (Bytes × Nat)) : Prop where
  mem : ∀ x ∈ o, 1 < x.2 ∧ x.2 = cntP l x.1 ∧ left (.string x.1) = false
  nodup : (o.map (·.1)).Nodup
  all : ∀ p, 1 < cntP l p → left (.string p) = true ∨ (p, cntP l p) ∈ o

theorem str_same (a b : Bytes) : (Lit.string a).sameKey (.string b) = decide (a = b) := by
  by_cases h : a = b
  · subst h; simp [Lit.sameKey]
  · simp [Lit.sameKey, h]
theorem Col.skip {l : List Bytes} {left : Lit → Bool} {o : List (Bytes × Nat)} (h : Col l left o) (kb : Bytes) (hc : ¬ 1 < cntP l kb) : Col l (fun z => left z && !z.sameKey (.string kb)) o := by
  refine ⟨fun x hx => ?_, h.nodup, fun p hp => ?_⟩
  · obtain ⟨a, b, c⟩ := h.mem x hx
    exact ⟨a, b, by simp [c]⟩
  · rcases h.all p hp with h1 | h1
    · left
      have hne : p ≠ kb := fun e => hc (e ▸ hp)
      simp [h1, str_same, hne]
    · exact .inr h1
theorem Col.push {l : List Bytes} {left : Lit → Bool} {o : List (Bytes × Nat)} (h : Col l left o) (kb : Bytes) (hk : left (.string kb) = true) (hc : 1 < cntP l kb) : Col l (fun z => left z && !z.sameKey (.string kb)) (o ++ [(kb, cntP l kb)]) := by
  refine ⟨fun x hx => ?_, ?_, fun p hp => ?_⟩
  · rcases List.mem_append.1 hx with hx | hx
    · obtain ⟨a, b, c⟩ := h.mem x hx
      exact ⟨a, b, by simp [c]⟩
    · have : x = (kb, cntP l kb) := by simpa using hx
      subst this
      exact ⟨hc, rfl, by simp [str_same]⟩
  · rw [List.map_append, List.nodup_append]
    refine ⟨h.nodup, by simp, fun a ha b hb => ?_⟩
    have hb : b = kb := by simpa using hb
    subst hb
    rintro rfl
    obtain ⟨x, hx, rfl⟩ := List.mem_map.1 ha
    have := (h.mem x hx).2.2
    rw [hk] at this; cases this
  · by_cases e : p = kb
    · subst e; exact .inr (by simp)
    · rcases h.all p hp with h1 | h1
      · left; simp [h1, str_same, e]
      · exact .inr (by simp [h1])

theorem col_cands {l : List Bytes} {left : Lit → Bool} {o o' : List (Bytes × Nat)} (h : Col l left o) (hleft : ∀ kl, left kl = false) (hp : o'.Perm o) (hs : o'.Pairwise (fun a b => better b a = false)) :
    Cands l (o'.map (·.1)) ∧ o' = (o'.map (·.1)).map fun p => (p, cnt l p) := by
  have h4 : ∀ p, 1 < cntP l p → p.length = 4 := by
    intro p hp
    have : 0 < cntP l p := by omega
    unfold cntP at this
    rw [List.length_pos_iff_exists_mem] at this
    obtain ⟨t, ht⟩ := this
    rw [List.mem_filter, decide_eq_true_eq] at ht
    exact mem_piecesOf_len ht.2
  have hm : ∀ x ∈ o', 1 < x.2 ∧ x.2 = cnt l x.1 := fun x hx => by
    obtain ⟨a, b, _⟩ := h.mem x (hp.mem_iff.1 hx)
    exact ⟨a, by rw [b]; exact cntP_eq (h4 _ (by omega))⟩
  have hmap : o' = (o'.map (·.1)).map fun p => (p, cnt l p) := by
    rw [List.map_map]
    conv => lhs; rw [← List.map_id o']
    refine List.map_congr_left fun x hx => ?_
    obtain ⟨_, b⟩ := hm x hx
    show x = (x.1, cnt l x.1)
    rw [← b]
  refine ⟨⟨fun p => ?_, ?_⟩, hmap⟩
  · constructor
    · intro hpm
      obtain ⟨x, hx, rfl⟩ := List.mem_map.1 hpm
      obtain ⟨a, b⟩ := hm x hx
      obtain ⟨_, b2, _⟩ := h.mem x (hp.mem_iff.1 hx)
      exact ⟨(cnt_pos (h4 _ (by omega))).1 (by omega), by omega⟩
    · rintro ⟨ha, hc⟩
      have hl4 := allPieces_len ha
      rw [← cntP_eq hl4] at hc
      rcases h.all p hc with h1 | h1
      · rw [hleft] at h1; cases h1
      · exact List.mem_map.2 ⟨_, hp.mem_iff.2 h1, rfl⟩
  · rw [List.pairwise_map]
    have hnd : (o'.map (·.1)).Nodup := (hp.map _).nodup_iff.2 h.nodup
    rw [List.nodup_iff_pairwise_ne, List.pairwise_map] at hnd
    have hmm : o'.Pairwise (fun a b => (1 < a.2 ∧ a.2 = cnt l a.1) ∧ (1 < b.2 ∧ b.2 = cnt l b.1)) := List.pairwise_of_forall_mem_list fun a ha b hb => ⟨hm a ha, hm b hb⟩
    refine (List.Pairwise.and (hs.and hnd) hmm).imp ?_
    rintro a b ⟨⟨h1, h2⟩, ⟨_, ha⟩, _, hb⟩
    have ea : (a.1, cnt l a.1) = a := by rw [← ha]
    have eb : (b.1, cnt l b.1) = b := by rw [← hb]
    rw [ea, eb]
    cases hab : better a b with
    | true => rfl
    | false => exact absurd (congrArg Prod.fst (better_total hab h1)) h2

/-- a slice of pieces that reads as a list -/
def PcAt (w : World) (A : Option Addr) (n : Nat) (o : List (Bytes × Nat)) : Prop :=
  o.length = n ∧ (0 < n → ∃ b off, A = some ⟨b, off, none⟩ ∧ b < w.heap.size ∧ ∀ i x, o[i]? = some x → w.cell? ⟨b, off + i * 2, none⟩ = some (S x.1) ∧ w.cell? ⟨b, off + i * 2 + 1, none⟩ = some (I x.2))
theorem pcAt_of_own {w : World} {base n : Nat} {v : Value} {o : List (Bytes × Nat)} (h : w.ownsRow base 103 2 v n (o.flatMap pcCells)) : ∃ A cap, v = .slice A n cap ∧ PcAt w A n o := by
  have hn : o.length = n := by have := h.1; rw [pcCells_len] at this; omega
  rcases h.2 with ⟨rfl, h0⟩ | ⟨g, cap, cur, rfl, hb, hg, _⟩
  · subst h0
    exact ⟨_, _, rfl, hn, fun h => absurd h (by omega)⟩
  · refine ⟨_, _, rfl, hn, fun _ => ⟨g, 0, rfl, (Array.getElem?_eq_some_iff.1 hg).1, fun i x hi => ?_⟩⟩
    obtain ⟨a, b⟩ := pcCells_get o i x hi
    have hc := h.cells (g := g) rfl
    have e : ∀ j, (⟨g, 0, none⟩ : Addr).add j = ⟨g, 0 + j, none⟩ := fun j => by unfold Addr.add; split <;> simp_all
    have h0 := hc _ _ a
    have h1 := hc _ _ b
    rw [e] at h0 h1
    exact ⟨h0, by rw [← h1, Nat.add_assoc]⟩

def PiecesRes (l : List Bytes) (w' : World) (e : Ending) : Prop := ∃ A n cap c, e = .returned (.slice A n cap) ∧ Cands l c ∧ PcAt w' A n (c.map fun p => (p, cnt l p)) ∧ n ≤ 1000000
def RangeRel (l : List Bytes) (B r m2 : Nat) (D : DataW Unit) (w wr : World) (v : Value) : Prop :=
  ∃ (left : Lit → Bool) (cn no : Nat) (o : List (Bytes × Nat)), wr.ranges Try.prog 9 (plainElem Try.prog 3) (B + 1) r m2 D left cn ∧ wr.ownsRow (r + 1) 103 2 v no (o.flatMap pcCells) ∧ no + cn ≤ m2 ∧ Col l left o ∧ Below B w wr ∧ r + 1 ≤ wr.heap.size

set_option maxHeartbeats 4000000 in
set_option maxRecDepth 100000 in
theorem pieces_any (hsort : SortSpec) (A : Option Addr) (n cap : Nat) (l : List Bytes) (w : World) (hl : StrsAt w w.heap.size A n l) (hn : n ≤ 12) (hs : ∀ t ∈ l, t.length ≤ 512) :
    Calls Try.prog 63 #[.slice A n cap] w fun e w' => PiecesRes l w' e ∧ Below w.heap.size w w' := by
  have HS := hide hs
  have HSORT := hide hsort
  clear hs hsort
  have hmm : ∀ (w : World), (Instr.makeMap 104 none).run Try.prog w = .ok (.map (some w.heap.size)) (w.alloc (.map #[] 0)) := fun _ => rfl
  go_enter Try.func63, Try.ntmps63
  go_wp2_with fail
  obtain ⟨B, hB⟩ : ∃ B, B = w.heap.size := ⟨_, rfl⟩
  have M1 : NatMap ((w.alloc (.map #[] 0)).alloc (.map #[] 0)) B 0 fun _ => 0 := by rw [hB]; exact (NatMap.made w).alloc _
  have M2 : NatMap ((w.alloc (.map #[] 0)).alloc (.map #[] 0)) (B + 1) 0 fun _ => 0 := by
    have h := NatMap.made (w.alloc (.map #[] 0))
    have e : (w.alloc (.map #[] 0)).heap.size = B + 1 := by rw [hB]; simp
    rw [e] at h; exact h
  rw [← hB]
  have HB := hide hB
  clear hB
  go_loopw [16] (fun i wr => ∃ (k m1 m2 : Nat) (g : Bytes → Nat), k ≤ n ∧ i = .int .i64 k ∧ m1 ≤ k * 512 ∧ m2 ≤ k * 512 ∧ NatMap wr B m1 g ∧ (∀ p, g p ≤ k) ∧ NatMap wr (B + 1) m2 (cntP (l.take k)) ∧ Below B w wr) (fun i _ => n - (intOf i).toNat)
  case atStart =>
    refine ⟨0, 0, 0, _, Nat.zero_le _, rfl, by omega, by omega, M1, fun _ => Nat.le_refl _, ?_, ?_⟩
    · exact M2
    · rw [unhide HB]; exact ((Below.refl _ _).alloc (Nat.le_refl _) _).alloc (by simp) _
  case round =>
    obtain ⟨k, m1, m2, g, hk, rfl, h1, h2, hM1, hg, hM2, hbel⟩ := hrel
    have HM1 := hide hM1
    have HM2 := hide hM2
    have HG := hide hg
    clear hM1 hM2 hg M1 M2
    by_cases hkn : k < n
    · have hl2 := hl
      rw [← unhide HB] at hl2
      obtain ⟨b, off, t, rfl, hb, ht, q0⟩ := (hl2.below hbel).at_ hkn
      have ht5 := unhide HS t (List.mem_of_getElem? ht)
      have HT := hide ht
      clear ht
      obtain ⟨c, hc⟩ : ∃ c, c = t.length - 3 := ⟨_, rfl⟩
      have hmx : max ((t.length : Int) - 4 + 1) 0 = (c : Int) := by omega
      have hcl : c ≤ 509 := by omega
      have HC := hide hc
      clear hc
      go_wp2_with fail
      go_loopw [26] (fun i wx => ∃ (q m3 m4 : Nat) (g3 : Bytes → Nat), q ≤ c ∧ i = .int .i64 q ∧ m3 ≤ k * 512 + q ∧ m4 ≤ k * 512 + q ∧ NatMap wx B m3 g3 ∧ Seen k t q g3 ∧ NatMap wx (B + 1) m4 (fC l k t q) ∧ Below B w wx) (fun i _ => c - (intOf i).toNat)
      case atStart =>
        refine ⟨0, m1, m2, g, Nat.zero_le _, rfl, by omega, by omega, unhide HM1, fun p => ⟨by have := unhide HG p; omega, ?_⟩, ?_, hbel⟩
        · have := unhide HG p
          simp; omega
        · have e : fC l k t 0 = cntP (l.take k) := by funext p; simp [fC]
          rw [e]; exact unhide HM2
      case round =>
        obtain ⟨q, m3, m4, g3, hq, rfl, h3, h4, hM3, hsn, hM4, hbel2⟩ := hrel
        have HM3 := hide hM3
        have HM4 := hide hM4
        have HSN := hide hsn
        clear hM3 hM4 hsn
        by_cases hqc : q < c
        · obtain ⟨p, hp⟩ : ∃ p, p = slice t q (q + 4) := ⟨_, rfl⟩
          have hqt : q < t.length - 3 := by have := unhide HC; omega
          have hp4 : p.length = 4 := by rw [hp]; exact piece_len hqt
          have e2 : ((q : Int) + 4).toNat = q + 4 := by omega
          have e3 : (q : Int) + 4 ≤ (t.length : Int) := by omega
          have hsl := hp.symm
          have hpc := piecesOf_get hqt
          have hmt := mem_take_succ hqt
          rw [show piece t q = p from hp.symm] at hpc hmt
          have HMT := hide hmt
          have HPC := hide hpc
          have HSL := hide hsl
          obtain ⟨hgp, hgi⟩ := unhide HSN p
          have HGI := hide hgi
          have hfl : fC l k t q p ≤ 13 := by
            unfold fC
            have := cntP_le (l.take k) p
            rw [List.length_take] at this
            split <;> omega
          clear hp hqt hmt hpc hgi
          by_cases hsee : g3 p = k + 1
          · have q1 : ((g3 p : Int) == (k : Int) + 1) = true := by rw [beq_iff_eq]; omega
            have q2 : ((g3 p : Int) != (k : Int) + 1) = false := by rw [bne_eq_false_iff_eq]; omega
            have hin := (unhide HGI).1 hsee
            have HIN := hide hin
            clear hsee hin
            go_wp2_with (at_lookup; refine wpList_look rfl (.tmp 34) (.tmp 35) rfl B m3 g3 rfl (unhide HM3) p rfl (by omega) ?_)
            go_roundw
            case rel =>
              refine ⟨q + 1, m3, m4, g3, by omega, by go_num, by omega, by omega, unhide HM3, fun p2 => ⟨(unhide HSN p2).1, ?_⟩, ?_, hbel2⟩
              · rw [(unhide HSN p2).2, unhide HMT p2]
                constructor
                · exact .inl
                · rintro (h | rfl)
                  · exact h
                  · exact unhide HIN
              · have e : fC l k t (q + 1) = fC l k t q := by
                  funext p2
                  unfold fC
                  congr 1
                  by_cases h : p2 ∈ (piecesOf t).take q
                  · rw [if_pos h, if_pos ((unhide HMT p2).2 (.inl h))]
                  · rw [if_neg h, if_neg]
                    intro h2
                    rcases (unhide HMT p2).1 h2 with h2 | rfl
                    · exact h h2
                    · exact h (unhide HIN)
                rw [e]; exact unhide HM4
            case measure => simp [intOf]; omega
          · have q1 : ((g3 p : Int) == (k : Int) + 1) = false := by rw [beq_eq_false_iff_ne]; omega
            have q2 : ((g3 p : Int) != (k : Int) + 1) = true := by rw [bne_iff_ne]; omega
            have hin : p ∉ (piecesOf t).take q := fun h => hsee ((unhide HGI).2 h)
            have HIN := hide hin
            clear hsee hin
            go_wp2_with (first
              | (at_lookup; refine wpList_look rfl (.tmp 34) (.tmp 35) rfl B m3 g3 rfl (unhide HM3) p rfl (by omega) ?_)
              | (at_mapUpdate; refine wpList_put rfl (.tmp 40) (.tmp 41) (.tmp 43) rfl B m3 g3 rfl (unhide HM3) p rfl (by omega) (k + 1) _ rfl (by omega) (by omega) (by omega) ?_; intro w2 hM5 hg5; have HM5 := hide hM5; have HM6 := hide ((unhide HM4).kept hg5 (by simp)); clear hM5)
              | (at_lookup; refine wpList_look rfl (.tmp 44) (.tmp 45) rfl (B + 1) m4 (fC l k t q) rfl (unhide HM6) p rfl (by omega) ?_)
              | (at_mapUpdate; refine wpList_put rfl (.tmp 44) (.tmp 45) (.tmp 47) rfl (B + 1) m4 (fC l k t q) rfl (unhide HM6) p rfl (by omega) (fC l k t q p + 1) _ rfl (by omega) (by omega) (by omega) ?_; intro w3 hM7 hg7; have HM7 := hide hM7; clear hM7))
            go_roundw
            case rel =>
              refine ⟨q + 1, m3 + 1, m4 + 1, _, by omega, by go_num, by omega, by omega, (unhide HM5).kept hg7 (by simp), fun p2 => ?_, ?_, (hbel2.grown hg5 (by have := (unhide HM3).lt; omega) (fun j hj => by simp at hj; omega)).grown hg7 (by have := (unhide HM5).lt; omega) (fun j hj => by simp at hj; omega)⟩
              · rw [unhide HMT p2]
                show (if p2 = p then k + 1 else g3 p2) ≤ k + 1 ∧ ((if p2 = p then k + 1 else g3 p2) = k + 1 ↔ _)
                by_cases h : p2 = p
                · rw [if_pos h]; simp [h]
                · rw [if_neg h]
                  have := unhide HSN p2
                  simpa [h] using this
              · have e : (fun r => if r = p then fC l k t q p + 1 else fC l k t q r) = fC l k t (q + 1) := by
                  funext p2
                  by_cases h : p2 = p
                  · subst h
                    rw [if_pos rfl]
                    unfold fC
                    rw [if_neg (unhide HIN), if_pos ((unhide HMT _).2 (.inr rfl))]
                  · rw [if_neg h]
                    unfold fC
                    congr 1
                    by_cases h2 : p2 ∈ (piecesOf t).take q
                    · rw [if_pos h2, if_pos ((unhide HMT p2).2 (.inl h2))]
                    · rw [if_neg h2, if_neg]
                      intro h3
                      rcases (unhide HMT p2).1 h3 with h3 | h3
                      · exact h2 h3
                      · exact h h3
                rw [← e]; exact unhide HM7
            case measure => simp [intOf]; omega
        · go_wp2_with fail
          go_roundw
          case rel =>
            have hqe : q = t.length - 3 := by have := unhide HC; omega
            have hall : (piecesOf t).take q = piecesOf t := List.take_of_length_le (by rw [piecesOf_len]; omega)
            refine ⟨k + 1, m3, m4, g3, by omega, by go_num, by omega, by omega, unhide HM3, fun p => (unhide HSN p).1, ?_, hbel2⟩
            have e : fC l k t q = cntP (l.take (k + 1)) := by
              funext p
              unfold fC
              rw [hall, cntP_take (unhide HT)]
            rw [← e]; exact unhide HM4
          case measure => simp [intOf]; omega
    · have hfin : cntP (l.take k) = cntP l := by rw [List.take_of_length_le (by have := hl.1; omega)]
      have hM := unhide HM2
      rw [hfin] at hM
      obtain ⟨D, ho, hD, hr⟩ := hM
      have HO := hide ho
      have HR := hide hr
      have hk2 : decide ((k : Int) < (n : Int)) = false := by simp; omega
      have hbs : B ≤ wr.heap.size := by rw [unhide HB]; exact hbel.size
      obtain ⟨r, hrr⟩ : ∃ r, r = wr.heap.size := ⟨_, rfl⟩
      have HRR := hide hrr
      clear hfin ho hr hD HM1 HM2 HG hrr
      go_wp2_with (at_range; refine wpList_range_own _ rfl _ 104 rfl 9 3 keyedS Try.underlying104 _ (B + 1) m2 D rfl (unhide HO) ?_; intro w0 hrg0 hg0 hs0; have HRG0 := hide hrg0; have HS0 := hide hs0; clear hrg0 hs0)
      go_frame
      rw [← unhide HRR]
      go_loopw [9] (fun v wx => RangeRel l B r m2 D w wx v) (fun _ wx => wx.rangeLeft (B + 1) r)
      case atStart =>
        refine ⟨_, _, 0, [], by rw [unhide HRR]; exact unhide HRG0, World.ownsRow_nil _ _ _ _, ?_, ⟨by simp, by simp, fun p hp => .inl ?_⟩, hbel.grown hg0 hbs (fun j hj => by cases hj), by have := unhide HS0; have := unhide HRR; omega⟩
        · have := size_le (unhide HO); omega
        · cases hh : Go.Maps.has D (.string p) with
          | true => rfl
          | false =>
            have h1 := unhide HR p
            rw [Go.Maps.atKey_of_not_has hh] at h1
            have h2 := (Lit.int.inj (DataW.lit.inj h1)).2
            omega
      case round =>
        obtain ⟨left, cn, no, o, hrg, hown, hno, hcol, hbel2, hsz⟩ := hrel
        obtain ⟨A9, cap9, rfl⟩ := own_slice' hown
        have HRG := hide hrg
        have HOWN := hide hown
        have HCOL := hide hcol
        clear hrg hown hcol
        have hrl := (unhide HRG).lt
        have hBr : B + 1 < r := by have := (unhide HO).lt; have := unhide HRR; omega
        go_wp2_with (first
          | (at_next; refine wpList_next_nat rfl (.tmp 51) rfl (B + 1) r m2 D (cntP l) (unhide HR) left cn rfl (unhide HRG) ?_ ?_)
          | fail)
        · intro hc0 hl0
          have HL0 := hide hl0
          clear hl0
          have C9 := hide (unhide HSORT wr (r + 1) _ no o (unhide HOWN) (by omega))
          go_wp2_with fail
          refine (unhide C9).mono ?_
          rintro e w9 ⟨rfl, o9, hp9, hs9, ho9, hb9⟩
          obtain ⟨hcands, hmap⟩ := col_cands (unhide HCOL) (unhide HL0) hp9 hs9
          have HCA := hide hcands
          have HMA := hide hmap
          have HO9 := hide ho9
          clear hcands hmap hp9 hs9 ho9 C9
          go_wp2_with fail
          go_ret
          obtain ⟨A8, cap8, he8, hat8⟩ := pcAt_of_own (unhide HO9)
          rw [unhide HMA] at hat8
          refine ⟨⟨A8, no, cap8, _, ?_, unhide HCA, hat8, by omega⟩, ?_⟩
          · rw [← he8]; rfl
          · rw [← unhide HB]; exact hbel2.trans (hb9.mono (by omega))
        · intro kb w1 cn1 hlk hrg1 hlt hg1 hs1 hen
          have hcl := cntP_le l kb
          have hln := hl.1
          have HLK := hide hlk
          have HRG1 := hide hrg1
          have HO1 := hide ((unhide HOWN).kept hg1 (by
            rcases hvb : (Value.slice A9 no cap9).ownBlock with _ | g
            · exact .inl rfl
            · right
              have := ((unhide HOWN).lt g hvb).1
              intro e; injection e with e; omega))
          have HLN := hide hln
          have hs2 : wr.heap.size ≤ w1.heap.size := by omega
          clear hlk hrg1 hln hs1
          by_cases hc1 : 1 < cntP l kb
          · have HC1 := hide hc1
            go_wp2_with (at_builtin; refine wpList_push_piece rfl (.tmp 59) (.tmp 63) rfl (r + 1) _ no o rfl (unhide HO1) kb (cntP l kb) w1.heap.size rfl rfl (by omega) (by omega) ?_; intro A4 cap4 w4 hown4 hb4 hg4)
            have hne : ∀ j, j < r + 1 → some j ≠ (Value.slice A9 no cap9).ownBlock := fun j hj e => by
              have := ((unhide HO1).lt j e.symm).1
              omega
            have hrg4 := ((unhide HRG1).alloc (.cells #[S kb, I (cntP l kb)] 103)).kept hg4 (hne _ (by omega)) (hne _ (by omega))
            go_roundw
            case rel =>
              refine ⟨_, cn1, no + 1, o ++ [(kb, cntP l kb)], hrg4, hown4, by omega, (unhide HCOL).push kb (unhide HLK) (unhide HC1), (hbel2.grown hg1 (by omega) (fun j hj => by injection hj with hj; omega)).trans (hb4.mono (by omega)), ?_⟩
              have := hb4.size; omega
            case measure =>
              rw [hrg4.left_eq, (unhide HRG).left_eq]; omega
          · go_wp2_with fail
            go_roundw
            case rel =>
              exact ⟨_, cn1, no, o, unhide HRG1, unhide HO1, by omega, (unhide HCOL).skip kb hc1, hbel2.grown hg1 (by omega) (fun j hj => by injection hj with hj; omega), by omega⟩
            case measure =>
              rw [(unhide HRG1).left_eq, (unhide HRG).left_eq]; omega

end Go.Proofs.Ytgfkkjcnnecefaa
