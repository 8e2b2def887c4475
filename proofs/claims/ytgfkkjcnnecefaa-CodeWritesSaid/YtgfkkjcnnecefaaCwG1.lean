/- The row's last step where the walk says 'Below' alone. -/
import Derived.Test.YtgfkkjcnnecefaaRows
import Derived.Below
import Derived.ChangeSame
import Derived.ProofKit
import Derived.OpenShut
import Derived.ShutString
import Derived.SizedLaws
import Derived.Test.YtgfkkjcnnecefaaProg
import Derived.WalkKit
import Derived.WalkSpells
import Derived.WalkLawsBesides
import Derived.Lib.Hide
import Derived.Deep.Draws
import Derived.Laws.OwnMore
import Derived.Laws.IdiomStrings
import Derived.Lib.BufferRead
import Derived.Maps.AppendAt
import Derived.Laws.BitsAllLaws
import Derived.Laws.BitsLemmas
import Derived.Lib.AppendStr
import Derived.Lib.FrozenHead
import Derived.Test.YtgfkkjcnnecefaaShelf
import Derived.Lib.IndexMore
import Derived.Maps.OwnOps
import Derived.Maps.Views
import Derived.Maps.RangeWalk

namespace Go.Proofs.Ytgfkkjcnnecefaa
open Go.RowKit Go.WideShapes Go.ChangeShapes Go.ChangeAt

theorem Try.own : ownKnob Try.prog.godebug = none := by kernel_rfl
theorem Try.laidOut : laidOutB Try.prog = true := by kernel_rfl

section
variable {H : Type} {enc : TypeId × Value → H} {P : Program}
theorem post_of_below {f : Func} {s : ChangeSpec} {apart fresh handsOn again : Bool} {W W' : World} {args : Array Value} {v : Value} {ds gs : List (DataW H)} {before pa pv : List MemPlace}
    (hW : DataW.Whole enc P f.params.toList s.vars apart W args.toList ds gs before)
    (hres : ∀ (b : Nat) (sp : Nat → Bool) (hd : Bool), DataW.TrodAll enc P W' b sp hd f.resultTypes.toList (v.resultList f.resultTypes.size) (s.fn H (ds ++ gs)).results [])
    (hargs : ∀ sp : Nat → Bool, (∀ p ∈ before, sp p.block = true) → DataW.TrodAll enc P W' 0 sp true f.params.toList args.toList (s.fn H (ds ++ gs)).args pa)
    (hvars : ∀ sp : Nat → Bool, (∀ p ∈ before, sp p.block = true) → DataW.TrodVars enc P W' sp s.vars (s.fn H (ds ++ gs)).vars pv)
    (hps : before = pa ++ pv) (hb : Below W.heap.size W W')
    (hok : ∀ (j : Nat) (t : TypeId) (r : Value), f.resultTypes[j]? = some t → (v.resultList f.resultTypes.size)[j]? = some r → Value.okWide P W' .any 0 t r) :
    s.post enc P f apart fresh handsOn again W args v W' := by
  have hlt : ∀ p ∈ before, p.block < W.heap.size := fun p hp => hW.lt p hp
  have hold : ∀ p ∈ before, (fun b => decide (b < W.heap.size)) p.block = true := fun p hp => by simpa using hlt p hp
  refine ⟨ds, gs, before, [], pa, pv, hW, hres _ _ _, hargs _ hold, hvars _ hold, World.keptBut_mono (fun p hp => ⟨hp, ?_⟩) (hb.frame (· ∈ before)), fun _ => ?_⟩
  · rw [hps, List.mem_append] at hp
    exact Or.inr hp
  · obtain ⟨_, _, _, _, _, hz, hn⟩ := hW
    refine ⟨hok, _, _, ([] ++ pa) ++ pv, ⟨[] ++ pa, pv, trodAll_append (hargs _ (fun _ _ => rfl)) (hres _ _ _), hvars _ (fun _ _ => rfl), rfl, ?_, ?_⟩, ?_⟩
    · intro b off hp
      have hin : MemPlace.cell b off ∈ before := by rw [hps]; simpa using hp
      rw [hb.frozen (hlt _ hin)]
      exact hz b off hin
    · intro ha
      have := hn ha
      rw [hps] at this
      simpa using this
    · intro p hp _
      rw [hps]
      simpa using hp
end
end Go.Proofs.Ytgfkkjcnnecefaa

/- Plain mathematics of chapter 1: numbers as bytes. No program in sight. -/
namespace Go.Proofs.Ytgfkkjcnnecefaa
namespace Pl

abbrev Bytes := List UInt8

/-- w[a:b] -/
def slice (w : Bytes) (a b : Nat) : Bytes := (w.take b).drop a
theorem slice_len (w : Bytes) (a b : Nat) : (slice w a b).length = min b w.length - a := by simp [slice]
theorem slice_end (w : Bytes) (a : Nat) : slice w a w.length = w.drop a := by simp [slice]
theorem slice_head (w : Bytes) (b : Nat) : slice w 0 b = w.take b := by simp [slice]

def nbF : Nat → Nat → Bytes
  | 0, n => [UInt8.ofNat n]
  | f + 1, n => if n < 128 then [UInt8.ofNat n] else UInt8.ofNat (128 + n % 128) :: nbF f (n / 128)
/-- the bytes of a number -/
def nb (n : Nat) : Bytes := nbF n n

theorem nbF_more : ∀ (f g n : Nat), n ≤ f → n ≤ g → nbF f n = nbF g n
  | 0, 0, _, _, _ => rfl
  | 0, g + 1, n, h, _ => by
    have : n = 0 := by omega
    subst this; simp [nbF]
  | f + 1, 0, n, _, h => by
    have : n = 0 := by omega
    subst this; simp [nbF]
  | f + 1, g + 1, n, hf, hg => by
    unfold nbF
    by_cases h : n < 128
    · simp [h]
    · simp only [h, if_false]
      rw [nbF_more f g (n / 128) (by omega) (by omega)]

theorem nb_small {n : Nat} (h : n < 128) : nb n = [UInt8.ofNat n] := by
  unfold nb
  cases n with
  | zero => rfl
  | succ k => unfold nbF; simp [h]
theorem nb_big {n : Nat} (h : 128 ≤ n) : nb n = UInt8.ofNat (128 + n % 128) :: nb (n / 128) := by
  unfold nb
  obtain ⟨k, rfl⟩ : ∃ k, n = k + 1 := ⟨n - 1, by omega⟩
  rw [nbF, if_neg (by omega)]
  rw [nbF_more k ((k + 1) / 128) _ (by omega) (Nat.le_refl _)]

theorem nb_ne (n : Nat) : nb n ≠ [] := by
  by_cases h : n < 128
  · rw [nb_small h]; simp
  · rw [nb_big (by omega)]; simp

theorem nb_len (k : Nat) : ∀ n, n < 128 ^ (k + 1) → (nb n).length ≤ k + 1 := by
  induction k with
  | zero => intro n h; rw [nb_small (by simpa using h)]; simp
  | succ k ih =>
    intro n h
    by_cases h1 : n < 128
    · rw [nb_small h1]; simp
    · rw [nb_big (by omega)]
      have := ih (n / 128) (by rw [Nat.div_lt_iff_lt_mul (by omega)]; rw [← Nat.pow_succ]; exact h)
      simp; omega

theorem nb_pos (n : Nat) : 1 ≤ (nb n).length := by
  have := nb_ne n
  have h : (nb n).length ≠ 0 := by simpa using this
  omega

def maxNum : Nat := 2147483647

/-- the number that bytes begin with; what is behind it -/
def takeF : Nat → Nat → Nat → Bytes → Option (Nat × Bytes)
  | 0, _, _, _ => none
  | _ + 1, _, _, [] => none
  | f + 1, i, n, c :: rest =>
    if 128 ≤ c.toNat then takeF f (i + 1) (n + (c.toNat % 128) * 128 ^ i) rest
    else if (0 < i ∧ c.toNat = 0) ∨ maxNum < n + (c.toNat % 128) * 128 ^ i then none
    else some (n + (c.toNat % 128) * 128 ^ i, rest)
def take (s : Bytes) : Option (Nat × Bytes) := takeF 5 0 0 s

theorem takeF_nb (f : Nat) : ∀ (i acc n : Nat) (rest : Bytes), n < 128 ^ (f + 1) → acc + n * 128 ^ i ≤ maxNum → (0 < i → 0 < n) →
    takeF (f + 1) i acc (nb n ++ rest) = some (acc + n * 128 ^ i, rest) := by
  have small : ∀ (f i acc n : Nat) (rest : Bytes), n < 128 → acc + n * 128 ^ i ≤ maxNum → (0 < i → 0 < n) →
      takeF (f + 1) i acc (nb n ++ rest) = some (acc + n * 128 ^ i, rest) := by
    intro f i acc n rest h1 hm hi
    rw [nb_small h1]
    have e : (UInt8.ofNat n).toNat = n := by simp [UInt8.toNat_ofNat']; omega
    have e2 : n % 128 = n := Nat.mod_eq_of_lt h1
    simp only [List.cons_append, List.nil_append, takeF, e, e2]
    rw [if_neg (by omega), if_neg]
    rintro (⟨h2, h3⟩ | h2)
    · have := hi h2; omega
    · omega
  induction f with
  | zero => intro i acc n rest h hm hi; exact small 0 i acc n rest (by simpa using h) hm hi
  | succ f ih =>
    intro i acc n rest h hm hi
    by_cases h1 : n < 128
    · exact small _ i acc n rest h1 hm hi
    · rw [nb_big (by omega)]
      have e : (UInt8.ofNat (128 + n % 128)).toNat = 128 + n % 128 := by simp [UInt8.toNat_ofNat']; omega
      have e2 : (128 + n % 128) % 128 = n % 128 := by omega
      have hp : 0 < 128 ^ i := Nat.pow_pos (by omega)
      rw [List.cons_append, takeF]
      simp only [e, e2]
      rw [if_pos (by omega)]
      have key : acc + n % 128 * 128 ^ i + n / 128 * 128 ^ (i + 1) = acc + n * 128 ^ i := by
        have := Nat.mod_add_div n 128
        rw [Nat.pow_succ]
        calc acc + n % 128 * 128 ^ i + n / 128 * (128 ^ i * 128) = acc + (n % 128 + 128 * (n / 128)) * 128 ^ i := by
              rw [Nat.add_mul, Nat.mul_comm 128 (n / 128), Nat.mul_assoc, Nat.mul_comm 128 (128 ^ i)]; omega
          _ = _ := by rw [this]
      rw [ih (i + 1) _ (n / 128) rest (by rw [Nat.div_lt_iff_lt_mul (by omega), ← Nat.pow_succ]; exact h) (by omega) (by omega), key]

/-- Take of Put, with whatever behind, is the number, and that. -/
theorem take_nb {n : Nat} (h : n ≤ maxNum) (rest : Bytes) : take (nb n ++ rest) = some (n, rest) := by
  unfold maxNum at h
  have := takeF_nb 4 0 0 n rest (by omega) (by unfold maxNum; omega) (by omega)
  simpa [take] using this

/-- What is taken is what was put. -/
theorem takeF_some : ∀ (f i acc : Nat) (s : Bytes) (k : Nat) (rest : Bytes), takeF f i acc s = some (k, rest) →
    ∃ n, k = acc + n * 128 ^ i ∧ s = nb n ++ rest ∧ k ≤ maxNum ∧ (0 < i → 0 < n)
  | 0, _, _, _, _, _, h => by simp [takeF] at h
  | f + 1, _, _, [], _, _, h => by simp [takeF] at h
  | f + 1, i, acc, c :: t, k, rest, h => by
    have hc := c.toNat_lt
    by_cases h1 : 128 ≤ c.toNat
    · rw [takeF, if_pos h1] at h
      obtain ⟨n, hk, hs, hm, hn⟩ := takeF_some f (i + 1) _ t k rest h
      have hn := hn (by omega)
      refine ⟨c.toNat % 128 + 128 * n, ?_, ?_, hm, by omega⟩
      · rw [hk, Nat.add_mul, Nat.pow_succ, Nat.mul_comm 128 n, Nat.mul_assoc, Nat.mul_comm 128 (128 ^ i)]; omega
      · rw [nb_big (by omega)]
        have e1 : (c.toNat % 128 + 128 * n) % 128 = c.toNat % 128 := by omega
        have e2 : (c.toNat % 128 + 128 * n) / 128 = n := by omega
        rw [e1, e2, hs]
        have : UInt8.ofNat (128 + c.toNat % 128) = c := by
          apply UInt8.toNat_inj.1; simp [UInt8.toNat_ofNat']; omega
        rw [this]; rfl
    · rw [takeF, if_neg h1] at h
      by_cases h2 : (0 < i ∧ c.toNat = 0) ∨ maxNum < acc + c.toNat % 128 * 128 ^ i
      · rw [if_pos h2] at h; simp at h
      · rw [if_neg h2] at h
        simp only [Option.some.injEq, Prod.mk.injEq] at h
        obtain ⟨rfl, rfl⟩ := h
        have e : c.toNat % 128 = c.toNat := by omega
        refine ⟨c.toNat, by rw [e], ?_, by omega, by omega⟩
        rw [nb_small (by omega)]
        have : UInt8.ofNat c.toNat = c := by apply UInt8.toNat_inj.1; simp
        rw [this]; rfl

theorem take_some {s : Bytes} {k : Nat} {rest : Bytes} (h : take s = some (k, rest)) : s = nb k ++ rest ∧ k ≤ maxNum := by
  obtain ⟨n, hk, hs, hm, _⟩ := takeF_some 5 0 0 s k rest h
  simp at hk; subst hk; exact ⟨hs, hm⟩

theorem nb_inj {a b : Nat} (ha : a ≤ maxNum) (hb : b ≤ maxNum) {x y : Bytes} (h : nb a ++ x = nb b ++ y) : a = b ∧ x = y := by
  have h1 := take_nb ha x
  rw [h, take_nb hb y] at h1
  simp at h1; exact ⟨h1.1.symm, h1.2.symm⟩

/-- what k bytes of a number's, all of them 128 at least, say of the rest -/
def Canon (l : Bytes) (k acc : Nat) : Prop := ∀ n, 0 < n ∨ k = 0 → nb (acc + n * 128 ^ k) = l.take k ++ nb n
theorem canon_zero (l : Bytes) : Canon l 0 0 := by intro n _; simp
theorem canon_step {l : Bytes} {k acc : Nat} {c : UInt8} {t : Bytes} (h : Canon l k acc) (hd : l.drop k = c :: t) (hc : 128 ≤ c.toNat) : Canon l (k + 1) (acc + c.toNat % 128 * 128 ^ k) := by
  intro n hn
  have hn : 0 < n := by omega
  have hcl := c.toNat_lt
  have e : acc + c.toNat % 128 * 128 ^ k + n * 128 ^ (k + 1) = acc + (c.toNat % 128 + 128 * n) * 128 ^ k := by
    rw [Nat.pow_succ, Nat.add_mul, Nat.mul_comm 128 n, Nat.mul_assoc, Nat.mul_comm 128 (128 ^ k)]; omega
  rw [e, h _ (.inl (by omega)), nb_big (by omega)]
  have e1 : (c.toNat % 128 + 128 * n) % 128 = c.toNat % 128 := by omega
  have e2 : (c.toNat % 128 + 128 * n) / 128 = n := by omega
  have e3 : UInt8.ofNat (128 + c.toNat % 128) = c := by
    apply UInt8.toNat_inj.1; simp [UInt8.toNat_ofNat']; omega
  have hlk : l[k]? = some c := by
    have := congrArg (fun z : Bytes => z[0]?) hd
    simpa using this
  rw [e1, e2, e3, List.take_add_one, hlk]; simp
theorem canon_end {l : Bytes} {k acc : Nat} {c : UInt8} {t : Bytes} (h : Canon l k acc) (hd : l.drop k = c :: t) (hc : c.toNat < 128) (ha : acc < 128 ^ k) :
    (nb (acc + c.toNat % 128 * 128 ^ k) = l.take (k + 1)) ↔ ¬ (0 < k ∧ c.toNat = 0) := by
  have hlk : l[k]? = some c := by
    have := congrArg (fun z : Bytes => z[0]?) hd
    simpa using this
  have hkl : k < l.length := by
    rcases Nat.lt_or_ge k l.length with h1 | h1
    · exact h1
    · rw [List.drop_of_length_le h1] at hd; cases hd
  have e : c.toNat % 128 = c.toNat := by omega
  rw [e]
  constructor
  · rintro h1 ⟨h2, h3⟩
    rw [h3, Nat.zero_mul, Nat.add_zero] at h1
    have h4 := congrArg List.length h1
    obtain ⟨j, rfl⟩ : ∃ j, k = j + 1 := ⟨k - 1, by omega⟩
    have h5 := nb_len j acc ha
    simp at h4; omega
  · intro h1
    rw [h _ (by omega), nb_small hc, List.take_add_one, hlk]
    have : UInt8.ofNat c.toNat = c := by apply UInt8.toNat_inj.1; simp
    simp [this]

/-- the sum of a text -/
def sumF : Nat → Bytes → Nat
  | _, [] => 0
  | i, c :: t => (i + 1) * c.toNat + sumF (i + 1) t
def sumOf (t : Bytes) : Nat := sumF 0 t % 65536

def maxText : Nat := 512
/-- a text with its size -/
def textB (t : Bytes) : Bytes := nb t.length ++ t
def takeText (s : Bytes) : Option (Bytes × Bytes) :=
  match take s with
  | none => none
  | some (n, rest) => if maxText < n ∨ rest.length < n then none else some (rest.take n, rest.drop n)

theorem takeText_bad {s : Bytes} {n : Nat} {r : Bytes} (h : take s = some (n, r)) (hb : 512 < n ∨ r.length < n) : takeText s = none := by
  unfold takeText; rw [h]; exact if_pos hb
theorem takeText_good {s : Bytes} {n : Nat} {r : Bytes} (h : take s = some (n, r)) (hb : ¬ (512 < n ∨ r.length < n)) : takeText s = some (slice r 0 n, slice r n r.length) := by
  unfold takeText; rw [h, slice_head, slice_end]; exact if_neg hb
theorem takeText_none {s : Bytes} (h : take s = none) : takeText s = none := by
  unfold takeText; rw [h]
theorem takeText_textB {t : Bytes} (h : t.length ≤ maxText) (rest : Bytes) : takeText (textB t ++ rest) = some (t, rest) := by
  unfold takeText textB
  rw [List.append_assoc, take_nb (by unfold maxText at h; unfold maxNum; omega)]
  simp; omega
theorem takeText_some {s t rest : Bytes} (h : takeText s = some (t, rest)) : s = textB t ++ rest ∧ t.length ≤ maxText := by
  unfold takeText at h
  cases hk : take s with
  | none => rw [hk] at h; simp at h
  | some p =>
    obtain ⟨n, r⟩ := p
    rw [hk] at h
    simp only at h
    by_cases h2 : maxText < n ∨ r.length < n
    · rw [if_pos h2] at h; simp at h
    · rw [if_neg h2] at h
      simp only [Option.some.injEq, Prod.mk.injEq] at h
      obtain ⟨rfl, rfl⟩ := h
      obtain ⟨hs, _⟩ := take_some hk
      have hl : (r.take n).length = n := by simp; omega
      refine ⟨?_, by omega⟩
      unfold textB
      rw [hl, List.append_assoc, List.take_append_drop]; exact hs

end Pl
end Go.Proofs.Ytgfkkjcnnecefaa

/- Small words for the walks: lists read as strings; hiding; one element appended; bits. -/
namespace Go.Proofs.Ytgfkkjcnnecefaa
open Go.RowKit Go.Lib

/-- a string, as a list of bytes -/
abbrev S (l : List UInt8) : Value := .string ⟨l.toArray⟩
abbrev I (n : Int) : Value := .int .i64 n
abbrev B (b : UInt8) : Value := .int .u8 b.toNat

/-- a contract, said from the world in which the caller began -/
theorem acc {P : Program} {f : FuncId} {args : Array Value} {w0 W : World} {v : Value} (h : Calls P f args W fun e w' => e = .returned v ∧ Below W.heap.size W w') (hb : Below w0.heap.size w0 W) :
    Calls P f args W fun e w' => e = .returned v ∧ Below w0.heap.size w0 w' :=
  h.mono fun _ _ ⟨he, h1⟩ => ⟨he, hb.trans (h1.mono hb.size)⟩
theorem still {P : Program} {f : FuncId} {args : Array Value} {W : World} {v : Value} (h : Calls P f args W fun e w' => e = .returned v ∧ W = w') :
    Calls P f args W fun e w' => e = .returned v ∧ Below W.heap.size W w' :=
  h.mono fun _ _ ⟨he, h1⟩ => ⟨he, by subst h1; exact Below.refl _ _⟩

theorem hide {p : Prop} (h : p) : Hid p := h
theorem unhide {p : Prop} (h : Hid p) : p := h

theorem info_u8 : (Try.prog.info? 5).map (fun i => (i.zero, i.size, i.bytes)) = some (some (.int .u8 0), 1, 1) := by kernel_rfl

theorem ext_list (l : List UInt8) (a b : Nat) : (⟨l.toArray⟩ : ByteArray).extract a b = ⟨(Pl.slice l a b).toArray⟩ := by
  apply ByteArray.ext
  simp [Pl.slice, ByteArray.data_extract, List.extract_toArray, List.extract_eq_take_drop, List.drop_take]

theorem app_list (a b : List UInt8) : (⟨a.toArray⟩ : ByteArray) ++ (⟨b.toArray⟩ : ByteArray) = ⟨(a ++ b).toArray⟩ := by
  apply ByteArray.ext; simp

/-- append(v, x) of one element of one cell -/
theorem wpList_push {P : Program} {w : World} {ops : Array Oper} {rest : List Oper} {o : Oper} {a : Act} {Q : Exit → Act → World → Prop} (hgd : o.guard = none) (s x : Operand) (t : TypeId)
    (ho : o.op = .call { callee := .builtin .append, args := #[s, x], argTypes := #[t, t] })
    (base : Nat) (e : TypeId) (i : TypeInfo) (z : Value) (bytes : Nat) (ht : P.underlying t = some (.slice e)) (hi : P.info? e = some i) (hz : i.zero = some z)
    (hsize : i.size = 1) (hby : i.bytes = bytes) (hzs : z.cells.size = 1)
    (v : Value) (n : Nat) (xs : List Value) (hs : a.eval s = v) (hown : w.ownsRow base e 1 v n xs) (u : Value) (te : TypeId)
    (hx : a.eval x = .slice (some ⟨w.heap.size, 0, none⟩) 1 1) (h1 : u.oneCell' = true)
    (h63 : n + 1 ≤ maxLen) (hbytes : (n + 1) * bytes ≤ 140737488355328) (hbase : base ≤ w.heap.size)
    (h : ∀ v' w', w'.ownsRow base e 1 v' (n + 1) (xs ++ [u]) → Below base w w' → (w.alloc (.cells #[u] te)).grownBy w' v.ownBlock → wpList P ops Q rest (a.put o.dst v') w') :
    wpList P ops Q (o :: rest) a (w.alloc (.cells #[u] te)) := by
  refine wpList_append_own _ hgd s x t ho base e i z 1 bytes ht hi hz hsize hby hzs (by decide) v n xs hs (hown.alloc _) ⟨w.heap.size, 0, none⟩ 1 1 [u] hx rfl (cell_one_new _ _ _) ?_ h63 hbytes ?_ ?_
  · intro y hy; simp at hy; subst hy; exact h1
  · simp; omega
  · intro v' w' hown' hg _
    refine h v' w' hown' ?_ hg
    exact ((Below.refl _ _).alloc hbase _).grown hg (by simp; omega) (fun k hk => (hown.lt k hk).1)

/-- string(b) of a row of the call's own -/
theorem run_str_own {P : Program} {w : World} {base e : Nat} {v : Value} {n : Nat} {l : List UInt8} (h : w.ownsRow base e 1 v n (l.map B)) (src dst : TypeId)
    (hs : P.underlying src = some (.slice e)) (he : P.underlying e = some (.int .u8)) (hd : P.underlying dst = some .string) :
    (convert src dst v).run P w = .ok (S l) w := by
  have hn : l.length = n := by have := h.1; simpa using this
  rcases h.2 with ⟨rfl, h0⟩ | ⟨g, cap, cur, rfl, _⟩
  · subst h0
    have : l = [] := List.eq_nil_of_length_eq_zero hn
    subst this
    exact run_convert_nil_bytes w src dst e 0 hs he hd
  · subst hn
    refine run_convert_bytes_back w src dst e _ cap l hs he hd ?_
    intro j hj
    refine h.cells (g := g) rfl j _ ?_
    simp [hj]

/-- what was appended, read as a byte -/
theorem own_byte {w : World} {base e : Nat} {v : Value} {n : Nat} {l : List UInt8} {x : Int} (b : UInt8) (h : w.ownsRow base e 1 v n (l.map B ++ [.int .u8 x])) (hb : (b.toNat : Int) = x) :
    w.ownsRow base e 1 v n ((l ++ [b]).map B) := by
  subst hb; simpa using h
theorem byte_of (k : Nat) (h : k < 256) : ∃ b : UInt8, b = UInt8.ofNat k ∧ (b.toNat : Int) = k := ⟨_, rfl, by simp [UInt8.toNat_ofNat']; omega⟩
theorem ofNat_toNat {k : Nat} (h : k < 256) : ((UInt8.ofNat k).toNat : Int) = k := by
  simp [UInt8.toNat_ofNat']; omega

/-- string([]byte{x}) -/
theorem run_conv1 {P : Program} (w : World) (g : Nat) {x : Int} (b : UInt8) (hx : (b.toNat : Int) = x) (hc : w.cell? ⟨g, 0, none⟩ = some (.int .u8 x)) (src dst e : TypeId)
    (hs : P.underlying src = some (.slice e)) (he : P.underlying e = some (.int .u8)) (hd : P.underlying dst = some .string) :
    (convert src dst (.slice (some ⟨g, 0, none⟩) 1 1)).run P w = .ok (S [b]) w := by
  subst hx
  refine run_convert_bytes_back w src dst e _ 1 [b] hs he hd ?_
  intro j hj
  have hj0 : j = 0 := by simp at hj; omega
  subst hj0
  simpa [Addr.add] using hc
theorem run_conv1_new {P : Program} (w : World) {x : Int} (b : UInt8) (hx : (b.toNat : Int) = x) (t src dst e : TypeId)
    (hs : P.underlying src = some (.slice e)) (he : P.underlying e = some (.int .u8)) (hd : P.underlying dst = some .string) :
    (convert src dst (.slice (some ⟨w.heap.size, 0, none⟩) 1 1)).run P (w.alloc (.cells #[.int .u8 x] t)) = .ok (S [b]) (w.alloc (.cells #[.int .u8 x] t)) :=
  run_conv1 _ _ b hx (by simp) src dst e hs he hd
theorem run_conv1_drew {P : Program} (w : World) {x : Int} (b : UInt8) (hx : (b.toNat : Int) = x) (t src dst e : TypeId)
    (hs : P.underlying src = some (.slice e)) (he : P.underlying e = some (.int .u8)) (hd : P.underlying dst = some .string) :
    (convert src dst (.slice (some ⟨w.heap.size, 0, none⟩) 1 1)).run P (w.alloc (.cells #[.int .u8 x] t)).drew = .ok (S [b]) (w.alloc (.cells #[.int .u8 x] t)).drew :=
  run_conv1 _ _ b hx (by show (w.alloc (.cells #[.int .u8 x] t)).cell? _ = _; simp) src dst e hs he hd
theorem run_conv1_later {P : Program} {w w' : World} {t : TypeId} {x : Int} (b : UInt8) (hx : (b.toNat : Int) = x) (hb : Below (w.alloc (.cells #[.int .u8 x] t)).heap.size (w.alloc (.cells #[.int .u8 x] t)) w') (src dst e : TypeId)
    (hs : P.underlying src = some (.slice e)) (he : P.underlying e = some (.int .u8)) (hd : P.underlying dst = some .string) :
    (convert src dst (.slice (some ⟨w.heap.size, 0, none⟩) 1 1)).run P w' = .ok (S [b]) w' :=
  run_conv1 _ _ b hx (cell_later hb (by simp)) src dst e hs he hd
theorem run_conv1_later_drew {P : Program} {w w' : World} {t : TypeId} {x : Int} (b : UInt8) (hx : (b.toNat : Int) = x) (hb : Below (w.alloc (.cells #[.int .u8 x] t)).drew.heap.size (w.alloc (.cells #[.int .u8 x] t)).drew w') (src dst e : TypeId)
    (hs : P.underlying src = some (.slice e)) (he : P.underlying e = some (.int .u8)) (hd : P.underlying dst = some .string) :
    (convert src dst (.slice (some ⟨w.heap.size, 0, none⟩) 1 1)).run P w' = .ok (S [b]) w' :=
  run_conv1 _ _ b hx (cell_later hb (by show (w.alloc (.cells #[.int .u8 x] t)).cell? _ = _; simp)) src dst e hs he hd

theorem or128 (x : Int) (h0 : 0 ≤ x) (h1 : x < 256) : bits .or .u8 x 128 = 128 + x % 128 := by
  have h : ∀ y : Fin 256, bits .or .u8 (y.val : Int) 128 = 128 + (y.val : Int) % 128 := by decide +kernel
  have := h ⟨x.toNat, by omega⟩
  have e : ((x.toNat : Nat) : Int) = x := by omega
  rw [e] at this; exact this

theorem and127 (c : UInt8) : bits .and .u8 (c.toNat : Int) 127 = ((c.toNat % 128 : Nat) : Int) := by
  have h : ∀ y : Fin 256, bits .and .u8 (y.val : Int) 127 = ((y.val % 128 : Nat) : Int) := by decide +kernel
  exact h ⟨c.toNat, c.toNat_lt⟩

theorem ofInt_i64 (a : Nat) (ha : a < 9223372036854775808) : (BitVec.ofInt 64 (a : Int)).toNat = a := by
  rw [BitVec.ofInt_natCast, BitVec.toNat_ofNat]; exact Nat.mod_eq_of_lt (by omega)
theorem i64_and_nat (a b : Nat) (ha : a < 9223372036854775808) (hb : b < 9223372036854775808) : bits .and .i64 (a : Int) (b : Int) = ((a &&& b : Nat) : Int) := by
  have hx : a &&& b < 2 ^ 63 := Nat.and_lt_two_pow _ (by omega)
  show IntKind.i64.wrap ((BitVec.ofInt 64 (a : Int) &&& BitVec.ofInt 64 (b : Int)).toNat : Int) = _
  rw [BitVec.toNat_and, ofInt_i64 a ha, ofInt_i64 b hb, IntKind.wrap_i64]
  omega
theorem i64_or_nat (a b : Nat) (ha : a < 9223372036854775808) (hb : b < 9223372036854775808) : bits .or .i64 (a : Int) (b : Int) = ((a ||| b : Nat) : Int) := by
  have hx : a ||| b < 2 ^ 63 := Nat.or_lt_two_pow (by omega) (by omega)
  show IntKind.i64.wrap ((BitVec.ofInt 64 (a : Int) ||| BitVec.ofInt 64 (b : Int)).toNat : Int) = _
  rw [BitVec.toNat_or, ofInt_i64 a ha, ofInt_i64 b hb, IntKind.wrap_i64]
  omega

/-- seven bits more -/
theorem or7 (acc x k : Nat) (ha : acc < 128 ^ k) (hx : x < 128) (hk : k < 5) : bits .or .i64 (acc : Int) (wrap64 ((x : Int) * 2 ^ (7 * k))) = ((acc + x * 128 ^ k : Nat) : Int) := by
  have e : (2 : Int) ^ (7 * k) = ((128 ^ k : Nat) : Int) := by
    have : (128 : Nat) ^ k = 2 ^ (7 * k) := by rw [Nat.pow_mul]
    rw [this]; norm_cast
  have hp : (128 : Nat) ^ k ≤ 128 ^ 4 := Nat.pow_le_pow_right (by omega) (by omega)
  have hm : x * 128 ^ k ≤ 127 * 128 ^ 4 := Nat.mul_le_mul (by omega) hp
  rw [e, ← Int.natCast_mul]
  have hw : wrap64 ((x * 128 ^ k : Nat) : Int) = ((x * 128 ^ k : Nat) : Int) := IntWalk.wrap64_in _ ⟨by omega, by omega⟩
  rw [hw, i64_or_nat _ _ (by omega) (by omega)]
  congr 1
  have e2 : x * 128 ^ k = x <<< (7 * k) := by
    rw [Nat.shiftLeft_eq]; congr 1; rw [Nat.pow_mul]
  rw [e2, Nat.or_comm, ← Nat.shiftLeft_add_eq_or_of_lt (by rw [Nat.pow_mul]; exact ha)]
  omega

end Go.Proofs.Ytgfkkjcnnecefaa

/- A row of the call's own that may bear the run-time's mark behind its cells ('[]byte(s)'): append onto it, whether there is room or not. The laws are the library's own proofs, arm for arm, over a row whose frozen range touches no cell. -/
namespace Go.Proofs.Ytgfkkjcnnecefaa
open Go.RowKit Go.Lib

/-- no cell below n is frozen -/
def Clear (fz : Nat × Nat) (n : Nat) : Prop := fz.2 ≤ fz.1 ∨ n ≤ fz.1

def OwnM (w : World) (base : Nat) (e : TypeId) (size : Nat) (v : Value) (n : Nat) (xs : List Value) : Prop :=
  xs.length = n * size ∧
  ((v = .slice none 0 0 ∧ n = 0) ∨
   ∃ g cap cur fz, v = .slice (some ⟨g, 0, none⟩) n cap ∧ base ≤ g ∧ w.heap[g]? = some (.cells cur e fz) ∧ Clear fz cur.size ∧ n ≤ cap ∧ cap ≤ maxLen ∧ cur.size = cap * size ∧ cur.toList.take (n * size) = xs)

section
variable {w : World} {base : Nat} {e : TypeId} {size : Nat} {v : Value} {n : Nat} {xs : List Value}

theorem OwnM.of (h : w.ownsRow base e size v n xs) : OwnM w base e size v n xs := by
  refine ⟨h.1, ?_⟩
  rcases h.2 with hn | ⟨g, cap, cur, hv, hb, hg, rest⟩
  · exact .inl hn
  · exact .inr ⟨g, cap, cur, (0, 0), hv, hb, hg, .inl (Nat.le_refl _), rest⟩
theorem OwnM.nil (w : World) (base : Nat) (e : TypeId) (size : Nat) : OwnM w base e size (.slice none 0 0) 0 [] := ⟨by simp, .inl ⟨rfl, rfl⟩⟩

theorem OwnM.form (h : OwnM w base e size v n xs) : ∃ A cap, v = .slice A n cap := by
  rcases h.2 with ⟨rfl, rfl⟩ | ⟨g, cap, cur, fz, rfl, _⟩
  · exact ⟨_, _, rfl⟩
  · exact ⟨_, _, rfl⟩

theorem OwnM.lt (h : OwnM w base e size v n xs) : ∀ k, v.ownBlock = some k → base ≤ k ∧ k < w.heap.size := by
  intro k hk
  rcases h.2 with ⟨rfl, _⟩ | ⟨g, cap, cur, fz, rfl, hb, hg, _⟩
  · simp [Value.ownBlock] at hk
  · simp [Value.ownBlock] at hk
    subst hk
    exact ⟨hb, (Array.getElem?_eq_some_iff.1 hg).1⟩

theorem OwnM.kept {w' : World} (h : OwnM w base e size v n xs) (hg : ∀ k, v.ownBlock = some k → w'.heap[k]? = w.heap[k]?) : OwnM w' base e size v n xs := by
  refine ⟨h.1, ?_⟩
  rcases h.2 with hn | ⟨g, cap, cur, fz, rfl, hb, hgg, rest⟩
  · exact .inl hn
  · exact .inr ⟨g, cap, cur, fz, rfl, hb, (hg g rfl).trans hgg, rest⟩
theorem OwnM.alloc (h : OwnM w base e size v n xs) (o : Obj) : OwnM (w.alloc o) base e size v n xs :=
  h.kept fun k hk => Below.heap_alloc w o k (h.lt k hk).2
theorem OwnM.drew (h : OwnM w base e size v n xs) : OwnM w.drew base e size v n xs := h
theorem OwnM.drewN (h : OwnM w base e size v n xs) (k : Nat) : OwnM (w.drewN k) base e size v n xs := h
theorem OwnM.mono {b : Nat} (h : OwnM w base e size v n xs) (hb : b ≤ base) : OwnM w b e size v n xs := by
  refine ⟨h.1, ?_⟩
  rcases h.2 with hn | ⟨g, cap, cur, fz, hv, hb', rest⟩
  · exact .inl hn
  · exact .inr ⟨g, cap, cur, fz, hv, Nat.le_trans hb hb', rest⟩
theorem OwnM.setCell (h : OwnM w base e size v n xs) {p : Addr} (hp : v.ownBlock ≠ some p.block) (u : Value) : OwnM (w.setCell p u) base e size v n xs :=
  h.kept fun k hk => Below.heap_setCell w p u k (fun e => hp (by rw [hk, e]))

theorem OwnM.cells (h : OwnM w base e size v n xs) {g : Nat} (hg : v.ownBlock = some g) : ∀ j u, xs[j]? = some u → w.cell? ((⟨g, 0, none⟩ : Addr).add j) = some u := by
  intro j u hu
  rcases h.2 with ⟨rfl, _⟩ | ⟨g', cap, cur, fz, rfl, _, hgg, _, _, _, _, htake⟩
  · simp [Value.ownBlock] at hg
  · simp [Value.ownBlock] at hg
    subst hg
    have hadd : (⟨g', 0, none⟩ : Addr).add j = ⟨g', j, none⟩ := by unfold Addr.add; split <;> simp_all
    rw [hadd, cell_of_row w g' j cur e fz hgg]
    rw [← htake, List.getElem?_take] at hu
    split at hu
    · simpa using hu
    · cases hu

/-- where the slice is not empty: its address, and a cell of it -/
theorem OwnM.at_ (h : OwnM w base e 1 v n xs) {k : Nat} (hk : k < n) : ∃ g cap u, v = .slice (some ⟨g, 0, none⟩) n cap ∧ base ≤ g ∧ xs[k]? = some u ∧ w.cell? ⟨g, k, none⟩ = some u := by
  have hx : k < xs.length := by have := h.1; omega
  rcases h.2 with ⟨_, rfl⟩ | ⟨g, cap, cur, fz, hv, hb, _⟩
  · omega
  · have hc := h.cells (g := g) (by rw [hv]; rfl) k _ (List.getElem?_eq_getElem hx)
    have hadd : (⟨g, 0, none⟩ : Addr).add k = ⟨g, k, none⟩ := by unfold Addr.add; split <;> simp_all
    rw [hadd] at hc
    exact ⟨g, cap, _, hv, hb, List.getElem?_eq_getElem hx, hc⟩
end

/-- '[]byte(s)' -/
theorem OwnM.bytes (w : World) (e : TypeId) (s : ByteArray) (base : Nat) (hb : base ≤ w.heap.size) (hs : s.size ≤ maxLen) :
    OwnM (w.drew.alloc (.cells (bytesRow s (grownCap w s.size 0 e)) e ((bytesRow s (grownCap w s.size 0 e)).size, (bytesRow s (grownCap w s.size 0 e)).size + 1))) base e 1
      (.slice (some ⟨w.heap.size, 0, none⟩) s.size (grownCap w s.size 0 e)) s.size (strCells s) := by
  have hge := grownCap_ge w s.size 0 e
  refine ⟨by rw [strCells_length]; omega, .inr ⟨w.heap.size, _, _, _, rfl, hb, heap_alloc_new w.drew _, .inr (Nat.le_refl _), hge, grownCap_le_maxLen w _ _ e hs, ?_, ?_⟩⟩
  · have hz : s.data.size = s.size := rfl
    simp [bytesRow, hz]; omega
  · have hz : s.data.size = s.size := rfl
    simp only [bytesRow, Array.toList_append, Nat.mul_one]
    rw [List.take_append_of_le_length (by simp [hz])]
    rw [List.take_of_length_le (by simp [hz])]
    simp [strCells]

theorem run_storeCells_atM (P : Program) (g o : Nat) (t : TypeId) (fz : Nat × Nat) : ∀ (vs : List Value) (i : Nat) (cur : Array Value) (w : World), w.heap[g]? = some (.cells cur t fz) → Clear fz cur.size → o + i + vs.length ≤ cur.size → (∀ v ∈ vs, v.oneCell' = true) →
    (storeCells ⟨g, o, none⟩ vs i).run P w = .ok () (w.setRow g (cur.toList.take (o + i) ++ vs ++ cur.toList.drop (o + i + vs.length)).toArray)
  | [], i, cur, w, hg, _, _, _ => by
    simp only [storeCells, List.append_nil, List.length_nil, Nat.add_zero, List.take_append_drop, Array.toArray_toList]
    rw [setRow_self w g cur t fz hg]
    rfl
  | v :: rest, i, cur, w, hg, hfz, hl, h1 => by
    have hi : o + i < cur.size := by simp at hl; omega
    have hadd : (⟨g, o, none⟩ : Addr).add i = ⟨g, o + i, none⟩ := by unfold Addr.add; split <;> simp_all
    have hcell : w.cell? ⟨g, o + i, none⟩ = some cur[o + i] := by simp [World.cell?, hg, hi]
    have hfro : w.frozen? ⟨g, o + i, none⟩ = false := by
      obtain ⟨lo, hi'⟩ := fz
      simp only [World.frozen?, hg, Bool.and_eq_false_iff, decide_eq_false_iff_not]
      unfold Clear at hfz
      simp only at hfz
      omega
    have hst : (store ((⟨g, o, none⟩ : Addr).add i) v).run P w = .ok () (w.setRow g (cur.setIfInBounds (o + i) v)) := by
      rw [hadd, run_store P w _ v _ (h1 v (by simp)), hcell]
      simp [hfro, setCell_eq_setRow w g (o + i) cur t fz v hg]
    have ih := run_storeCells_atM P g o t fz rest (i + 1) (cur.setIfInBounds (o + i) v) (w.setRow g (cur.setIfInBounds (o + i) v)) (setRow_heap w g cur _ t _ hg) (by simpa using hfz) (by simp at hl ⊢; omega) (fun x hx => h1 x (by simp [hx]))
    simp only [storeCells, Sem.run_bind, hst, Result.andThen_ok, ih, setRow_setRow]
    congr 3
    have e := list_seg_step cur.toList (o + i) v rest (by simp at hl ⊢; omega)
    simpa [Array.toList_setIfInBounds, Nat.add_assoc] using e

section
variable {P : Program} (w : World)

theorem run_append_roomM (t ty e : TypeId) (i : TypeInfo) (ht : P.underlying t = some (.slice e)) (hi : P.info? e = some i)
    (g sLen sCap : Nat) (cur : Array Value) (fz : Nat × Nat) (hg : w.heap[g]? = some (.cells cur e fz)) (hfz : Clear fz cur.size)
    (a : Addr) (m c : Nat) (news : List Value) (hl : news.length = m * i.size) (hnews : ∀ j u, news[j]? = some u → w.cell? (a.add j) = some u) (h1 : ∀ u ∈ news, u.oneCell' = true)
    (hroom : sLen + m ≤ sCap) (hfit : sLen * i.size + news.length ≤ cur.size) :
    (Builtin.append_ #[t, t] ty #[.slice (some ⟨g, 0, none⟩) sLen sCap, .slice (some a) m c]).run P w =
      .ok (.slice (some ⟨g, 0, none⟩) (sLen + m) sCap) (w.setRow g (cur.toList.take (sLen * i.size) ++ news ++ cur.toList.drop (sLen * i.size + news.length)).toArray) := by
  have hf := run_firstCells_some (P := P) w i.size m a m c news hl hnews
  have hst := run_storeCells_atM P g (sLen * i.size) e fz news 0 cur w hg hfz (by simpa using hfit) h1
  simp only [Nat.add_zero] at hst
  simp [Builtin.append_, run_underlying ht, sizeOf, typeInfo, hi, Builtin.lenOf, hroom, hf, Addr.add_lit, hst]

theorem run_append_roomM_string (t u ty e : TypeId) (i : TypeInfo) (ht : P.underlying t = some (.slice e)) (hu : P.underlying u = some .string) (hi : P.info? e = some i) (hs1 : i.size = 1)
    (g sLen sCap : Nat) (cur : Array Value) (fz : Nat × Nat) (hg : w.heap[g]? = some (.cells cur e fz)) (hfz : Clear fz cur.size) (s : ByteArray)
    (hroom : sLen + s.size ≤ sCap) (hfit : sLen + s.size ≤ cur.size) :
    (Builtin.append_ #[t, u] ty #[.slice (some ⟨g, 0, none⟩) sLen sCap, .string s]).run P w =
      .ok (.slice (some ⟨g, 0, none⟩) (sLen + s.size) sCap) (w.setRow g (cur.toList.take sLen ++ strCells s ++ cur.toList.drop (sLen + s.size)).toArray) := by
  have hf := run_firstCells_string (P := P) w 1 s
  have hst := run_storeCells_atM P g sLen e fz (strCells s) 0 cur w hg hfz (by simpa [strCells_length] using hfit) (strCells_oneCell s)
  simp only [Nat.add_zero, strCells_length] at hst
  simp [Builtin.append_, run_underlying ht, run_underlying hu, sizeOf, typeInfo, hi, hs1, Builtin.lenOf, hroom, hf, Addr.add_lit, hst]

/-- append(v, x...) -/
theorem run_append_M (base : Nat) (t ty e : TypeId) (i : TypeInfo) (z : Value) (size bytes : Nat) (ht : P.underlying t = some (.slice e)) (hi : P.info? e = some i) (hz : i.zero = some z)
    (hsize : i.size = size) (hby : i.bytes = bytes) (hzs : z.cells.size = size) (hsz : 0 < size)
    (v : Value) (n : Nat) (xs : List Value) (hown : OwnM w base e size v n xs)
    (a : Addr) (m c : Nat) (news : List Value) (hl : news.length = m * size) (hnews : ∀ j u, news[j]? = some u → w.cell? (a.add j) = some u) (h1 : ∀ u ∈ news, u.oneCell' = true)
    (h63 : n + m ≤ maxLen) (hbytes : (n + m) * bytes ≤ 140737488355328) (hbase : base ≤ w.heap.size) :
    ∃ v' w', (Builtin.append_ #[t, t] ty #[v, .slice (some a) m c]).run P w = .ok v' w' ∧ OwnM w' base e size v' (n + m) (xs ++ news) ∧ w.grownBy w' v.ownBlock ∧
      (v'.ownBlock = v.ownBlock ∨ v'.ownBlock = some w.heap.size) := by
  rcases hown.2 with ⟨rfl, rfl⟩ | ⟨g, cap, cur, fz, rfl, hbg, hg, hfz, hnc, hcm, hcs, htake⟩
  · obtain ⟨v', w', hr, h2, h3, _, h5⟩ := run_append_own_at (P := P) w base t ty e i z size bytes ht hi hz hsize hby hzs hsz (.slice none 0 0) 0 xs ⟨hown.1, .inl ⟨rfl, rfl⟩⟩ a m c news hl hnews h1 h63 hbytes hbase
    exact ⟨v', w', hr, OwnM.of h2, h3, h5⟩
  · subst hsize
    subst hby
    have hsmall : n + m ≤ 9223372036854775807 := by simp only [maxLen] at h63; omega
    have hlen : (xs ++ news).length = (n + m) * i.size := by rw [List.length_append, hown.1, hl, Nat.add_mul]
    by_cases hroom : n + m ≤ cap
    · have hfit : n * i.size + news.length ≤ cur.size := by rw [hl, hcs, ← Nat.add_mul]; exact Nat.mul_le_mul_right _ hroom
      have hr := run_append_roomM (P := P) w t ty e i ht hi g n cap cur fz hg hfz a m c news hl hnews h1 hroom hfit
      have hcs2 : (cur.toList.take (n * i.size) ++ news ++ cur.toList.drop (n * i.size + news.length)).toArray.size = cur.size := by
        simp only [List.size_toArray, List.length_append, List.length_take, List.length_drop, Array.length_toList]
        omega
      refine ⟨_, _, hr, ⟨hlen, .inr ⟨g, cap, _, fz, rfl, hbg, setRow_heap w g cur _ e _ hg, by rw [hcs2]; exact hfz, hroom, hcm, by rw [hcs2]; exact hcs, ?_⟩⟩, ⟨rfl, rfl, rfl, by simp, fun k _ hk => setRow_other w g k _ (fun e => hk (by simp [Value.ownBlock, e]))⟩, .inl rfl⟩
      rw [htake, ← hlen]
      exact List.take_left
    · have holds : ∀ j u, xs[j]? = some u → w.cell? ((⟨g, 0, none⟩ : Addr).add j) = some u := hown.cells (g := g) rfl
      have hr := run_append_grow (P := P) w t ty e i z ht hi hz ⟨g, 0, none⟩ n cap xs hown.1 holds a m c news hl hnews (by omega) (by omega) (growslice_fits (by omega) hbytes)
      have hge := grownCap_ge w (n + m) cap e
      have hcm2 : grownCap w (n + m) cap e ≤ maxLen := grownCap_le_maxLen w (n + m) cap e h63
      refine ⟨_, _, hr, ⟨hlen, .inr ⟨w.heap.size, _, _, (0, 0), rfl, hbase, heap_alloc_new w.drew _, .inl (Nat.le_refl _), hge, hcm2, ?_, ?_⟩⟩, ⟨rfl, rfl, rfl, by simp, fun k hk _ => Below.heap_alloc w.drew _ k hk⟩, .inr rfl⟩
      · simp only [Array.size_append, List.size_toArray, size_zeroCells, hzs, hown.1, hl, ← Nat.add_mul]
        congr 1
        omega
      · simp only [Array.toList_append, List.append_assoc]
        rw [← List.append_assoc, ← hlen]
        exact List.take_left

/-- append(v, s...), s a string -/
theorem run_append_M_string (base : Nat) (t u ty e : TypeId) (i : TypeInfo) (ht : P.underlying t = some (.slice e)) (hu : P.underlying u = some .string) (hi : P.info? e = some i) (hz : i.zero = some (.int .u8 0))
    (hsize : i.size = 1) (hby : i.bytes = 1)
    (v : Value) (n : Nat) (xs : List Value) (hown : OwnM w base e 1 v n xs) (s : ByteArray)
    (h63 : n + s.size ≤ maxLen) (hbytes : n + s.size ≤ 140737488355328) (hbase : base ≤ w.heap.size) :
    ∃ v' w', (Builtin.append_ #[t, u] ty #[v, .string s]).run P w = .ok v' w' ∧ OwnM w' base e 1 v' (n + s.size) (xs ++ strCells s) ∧ w.grownBy w' v.ownBlock ∧
      (v'.ownBlock = v.ownBlock ∨ v'.ownBlock = none ∨ ∃ g, v'.ownBlock = some g ∧ w.heap.size ≤ g) := by
  rcases hown.2 with ⟨rfl, rfl⟩ | ⟨g, cap, cur, fz, rfl, hbg, hg, hfz, hnc, hcm, hcs, htake⟩
  · obtain ⟨v', w', h1, h2, h3, _⟩ := run_append_own_string (P := P) w w.heap.size t u ty e i ht hu hi hz hsize hby (.slice none 0 0) 0 xs ⟨hown.1, .inl ⟨rfl, rfl⟩⟩ s h63 hbytes (Nat.le_refl _)
    refine ⟨v', w', h1, (OwnM.of h2).mono hbase, h3, .inr ?_⟩
    cases hv : v'.ownBlock with
    | none => exact .inl rfl
    | some g => exact .inr ⟨g, rfl, (h2.lt g hv).1⟩
  · have hsmall : n + s.size ≤ 9223372036854775807 := by simp only [maxLen] at h63; omega
    have hxl : xs.length = n := by simpa using hown.1
    have hlen : (xs ++ strCells s).length = (n + s.size) * 1 := by rw [List.length_append, hxl, strCells_length, Nat.mul_one]
    by_cases hroom : n + s.size ≤ cap
    · have hcs' : cur.size = cap := by simpa using hcs
      have hr := run_append_roomM_string (P := P) w t u ty e i ht hu hi hsize g n cap cur fz hg hfz s hroom (by omega)
      have hcs2 : (cur.toList.take n ++ strCells s ++ cur.toList.drop (n + s.size)).toArray.size = cur.size := by
        simp only [List.size_toArray, List.length_append, List.length_take, List.length_drop, Array.length_toList, strCells_length]
        omega
      refine ⟨_, _, hr, ⟨hlen, .inr ⟨g, cap, _, fz, rfl, hbg, setRow_heap w g cur _ e _ hg, by rw [hcs2]; exact hfz, hroom, hcm, by rw [hcs2]; exact hcs, ?_⟩⟩, ⟨rfl, rfl, rfl, by simp, fun k _ hk => setRow_other w g k _ (fun e => hk (by simp [Value.ownBlock, e]))⟩, .inl rfl⟩
      have ht' : cur.toList.take n = xs := by simpa using htake
      rw [ht', ← hlen]
      exact List.take_left
    · have holds : ∀ j u, xs[j]? = some u → w.cell? ((⟨g, 0, none⟩ : Addr).add j) = some u := hown.cells (g := g) rfl
      have hr := run_append_grow_string (P := P) w t u ty e i (.int .u8 0) ht hu hi hz ⟨g, 0, none⟩ n cap xs (by rw [hsize]; simpa using hxl) holds s (by omega) (by omega) (by rw [hby]; exact growslice_fits (by omega) (by omega))
      have hge := grownCap_ge w (n + s.size) cap e
      have hcm2 : grownCap w (n + s.size) cap e ≤ maxLen := grownCap_le_maxLen w (n + s.size) cap e h63
      refine ⟨_, _, hr, ⟨hlen, .inr ⟨w.heap.size, _, _, (0, 0), rfl, hbase, heap_alloc_new w.drew _, .inl (Nat.le_refl _), hge, hcm2, ?_, ?_⟩⟩, ⟨rfl, rfl, rfl, by simp, fun k hk _ => Below.heap_alloc w.drew _ k hk⟩, .inr (.inr ⟨_, rfl, Nat.le_refl _⟩)⟩
      · have hz1 : (Value.int IntKind.u8 0).cells.size = 1 := rfl
        simp only [Array.size_append, List.size_toArray, size_zeroCells, hz1, hxl, strCells_length]
        omega
      · simp only [Array.toList_append, List.append_assoc]
        rw [← List.append_assoc, ← hlen]
        exact List.take_left
end

section
variable {P : Program} {w : World}
/-- at the operation, for the walk: append(v, s...) -/
theorem wp_append_M_string {o : Oper} {a : Act} {K : Act → World → Prop} {Q : Exit → Act → World → Prop} (sl x : Operand) (t u : TypeId)
    (ho : o.op = .call { callee := .builtin .append, args := #[sl, x], argTypes := #[t, u] })
    (base : Nat) (e : TypeId) (i : TypeInfo) (ht : P.underlying t = some (.slice e)) (hu : P.underlying u = some .string) (hi : P.info? e = some i) (hz : i.zero = some (.int .u8 0))
    (hsize : i.size = 1) (hby : i.bytes = 1)
    (v : Value) (n : Nat) (xs : List Value) (hs : a.eval sl = v) (hown : OwnM w base e 1 v n xs) (s : ByteArray) (hx : a.eval x = .string s)
    (h63 : n + s.size ≤ maxLen) (hbytes : n + s.size ≤ 140737488355328) (hbase : base ≤ w.heap.size)
    (h : ∀ A' cap' w', OwnM w' base e 1 (.slice A' (n + s.size) cap') (n + s.size) (xs ++ strCells s) → w.grownBy w' v.ownBlock →
      (Value.ownBlock (.slice A' (n + s.size) cap') = v.ownBlock ∨ Value.ownBlock (.slice A' (n + s.size) cap') = none ∨ ∃ g, Value.ownBlock (.slice A' (n + s.size) cap') = some g ∧ w.heap.size ≤ g) → K (a.put o.dst (.slice A' (n + s.size) cap')) w') : o.wp P a w K Q := by
  obtain ⟨v', w', hr, h2, h3, h4⟩ := run_append_M_string (P := P) w base t u o.type e i ht hu hi hz hsize hby v n xs hown s h63 hbytes hbase
  unfold Oper.wp execOp
  simp only [ho, resolve, invoke, builtin, Sem.run_bind, Sem.run_pure, Result.andThen_ok, List.map_toArray, List.map_cons, List.map_nil, hs, hx, hr]
  rcases h2.2 with ⟨rfl, hn⟩ | ⟨g, cap, cur, fz, rfl, _⟩
  · have e1 : Value.slice none 0 0 = .slice none (n + s.size) 0 := by rw [hn]
    rw [e1] at h2 h4 ⊢
    exact h _ _ _ h2 h3 h4
  · exact h _ _ _ h2 h3 h4
theorem step_append_M_string {ops : Array Oper} {o : Oper} {a : Act} {K : Act → World → Prop} {Q : Exit → Act → World → Prop} {E : Prop} (hgd : o.guard = none) (sl x : Operand) (t u : TypeId)
    (ho : o.op = .call { callee := .builtin .append, args := #[sl, x], argTypes := #[t, u] })
    (base : Nat) (e : TypeId) (i : TypeInfo) (ht : P.underlying t = some (.slice e)) (hu : P.underlying u = some .string) (hi : P.info? e = some i) (hz : i.zero = some (.int .u8 0))
    (hsize : i.size = 1) (hby : i.bytes = 1)
    (v : Value) (n : Nat) (xs : List Value) (hs : a.eval sl = v) (hown : OwnM w base e 1 v n xs) (s : ByteArray) (hx : a.eval x = .string s)
    (h63 : n + s.size ≤ maxLen) (hbytes : n + s.size ≤ 140737488355328) (hbase : base ≤ w.heap.size)
    (h : ∀ A' cap' w', OwnM w' base e 1 (.slice A' (n + s.size) cap') (n + s.size) (xs ++ strCells s) → w.grownBy w' v.ownBlock →
      (Value.ownBlock (.slice A' (n + s.size) cap') = v.ownBlock ∨ Value.ownBlock (.slice A' (n + s.size) cap') = none ∨ ∃ g, Value.ownBlock (.slice A' (n + s.size) cap') = some g ∧ w.heap.size ≤ g) → K (a.put o.dst (.slice A' (n + s.size) cap')) w') :
    if Region.wanted o (yielded ops a.tmps) = true then Oper.wp P o a w K Q else E := by
  have hw : Region.wanted o (yielded ops a.tmps) = true := by simp [Region.wanted, hgd]
  rw [if_pos hw]
  exact wp_append_M_string sl x t u ho base e i ht hu hi hz hsize hby v n xs hs hown s hx h63 hbytes hbase h
/-- append(v, x) of one element of one cell, in a plain region -/
theorem wpList_push_M {ops : Array Oper} {rest : List Oper} {o : Oper} {a : Act} {Q : Exit → Act → World → Prop} (hgd : o.guard = none) (s x : Operand) (t : TypeId)
    (ho : o.op = .call { callee := .builtin .append, args := #[s, x], argTypes := #[t, t] })
    (base : Nat) (e : TypeId) (i : TypeInfo) (z : Value) (bytes : Nat) (ht : P.underlying t = some (.slice e)) (hi : P.info? e = some i) (hz : i.zero = some z)
    (hsize : i.size = 1) (hby : i.bytes = bytes) (hzs : z.cells.size = 1)
    (v : Value) (n : Nat) (xs : List Value) (hs : a.eval s = v) (u : Value) (te : TypeId) (hown : OwnM w base e 1 v n xs)
    (hx : a.eval x = .slice (some ⟨w.heap.size, 0, none⟩) 1 1) (h1 : u.oneCell' = true)
    (h63 : n + 1 ≤ maxLen) (hbytes : (n + 1) * bytes ≤ 140737488355328) (hbase : base ≤ w.heap.size)
    (h : ∀ g' cap' w', OwnM w' base e 1 (.slice (some ⟨g', 0, none⟩) (n + 1) cap') (n + 1) (xs ++ [u]) → (w.alloc (.cells #[u] te)).grownBy w' v.ownBlock →
      (some g' = v.ownBlock ∨ g' = w.heap.size + 1) → wpList P ops Q rest (a.put o.dst (.slice (some ⟨g', 0, none⟩) (n + 1) cap')) w') :
    wpList P ops Q (o :: rest) a (w.alloc (.cells #[u] te)) := by
  refine wpList_plain hgd fun K hK => ?_
  obtain ⟨v', w', hr, h2, h3, h4⟩ := run_append_M (P := P) (w.alloc (.cells #[u] te)) base t o.type e i z 1 bytes ht hi hz hsize hby hzs (by decide) v n xs (hown.alloc _) ⟨w.heap.size, 0, none⟩ 1 1 [u] rfl (cell_one_new _ _ _)
    (by intro y hy; simp at hy; subst hy; exact h1) h63 hbytes (by simp; omega)
  unfold Oper.wp execOp
  simp only [ho, resolve, invoke, builtin, Sem.run_bind, Sem.run_pure, Result.andThen_ok, List.map_toArray, List.map_cons, List.map_nil, hs, hx, hr]
  rcases h2.2 with ⟨_, hn⟩ | ⟨g, cap, cur, fz, rfl, _⟩
  · omega
  · refine hK _ _ (h _ _ _ h2 h3 ?_)
    rcases h4 with h4 | h4
    · exact .inl h4
    · right; simpa [Value.ownBlock] using h4
end

section
variable {P : Program} {w : World}
/-- string(b) of a slice without elements -/
theorem run_str_zero (w : World) (p : Option Addr) (c : Nat) (src dst e : TypeId) (hs : P.underlying src = some (.slice e)) (he : P.underlying e = some (.int .u8)) (hd : P.underlying dst = some .string) :
    (convert src dst (.slice p 0 c)).run P w = .ok (S []) w := by
  rw [run_convert_bytes_string w src dst e p 0 c hs he hd]
  cases p with
  | none => rw [← run_convert_bytes_string w src dst e none 0 c hs he hd]; exact run_convert_nil_bytes w src dst e c hs he hd
  | some a =>
    have hl := run_loadCells_list (P := P) w a [] (fun j v hj => by simp at hj)
    exact run_bytesToString w a 0 c [] hl
/-- string(b[k:]) of a row of the call's own, k below the capacity -/
theorem run_str_cut {base e : Nat} {A : Option Addr} {n cap k : Nat} {l : List UInt8} (h : OwnM w base e 1 (.slice A n cap) n (l.map B)) (src dst : TypeId)
    (hs : P.underlying src = some (.slice e)) (he : P.underlying e = some (.int .u8)) (hd : P.underlying dst = some .string) :
    (convert src dst (.slice (Option.map (fun x => x.add k) A) (n - k) (cap - k))).run P w = .ok (S (l.drop k)) w := by
  have hn : l.length = n := by have := h.1; simpa using this
  by_cases hk : n ≤ k
  · rw [show n - k = 0 from by omega, List.drop_of_length_le (by omega)]
    exact run_str_zero w _ _ src dst e hs he hd
  · rcases h.2 with ⟨hv, h0⟩ | ⟨g, cap', cur, fz, hv, _⟩
    · omega
    · injection hv with hA _ hc
      subst hA hc
      have hlen : (l.drop k).length = n - k := by rw [List.length_drop, hn]
      rw [← hlen]
      refine run_convert_bytes_back w src dst e _ _ (l.drop k) hs he hd ?_
      intro j hj
      have hkj : (l.map B)[k + j]? = some (B (l.drop k)[j]) := by
        rw [List.getElem?_map, ← List.getElem?_drop, List.getElem?_eq_getElem hj]; rfl
      have := h.cells (g := g) rfl (k + j) _ hkj
      rw [← this]
      congr 1
      unfold Addr.add
      by_cases hk0 : k = 0 <;> by_cases hj0 : j = 0 <;> simp [hk0, hj0]
end

theorem strCells_list (l : List UInt8) : strCells ⟨l.toArray⟩ = l.map B := by simp [strCells]

end Go.Proofs.Ytgfkkjcnnecefaa

/- Plain mathematics of chapter 2: copies. No program in sight. -/
namespace Go.Proofs.Ytgfkkjcnnecefaa
namespace Pl

/-- A tok: bytes as they are, or a copy. -/
structure Tok where
  lit : Bytes
  far : Int
  len : Int
deriving DecidableEq

def maxDict : Nat := 256

def copyB : Nat → Nat → Bytes → Bytes
  | 0, _, s => s
  | n + 1, far, s => copyB n far (s ++ [s.getD (s.length - far) 0])

theorem copyB_len : ∀ (n far : Nat) (s : Bytes), (copyB n far s).length = s.length + n
  | 0, _, _ => rfl
  | n + 1, far, s => by rw [copyB, copyB_len]; simp; omega

theorem copyB_prefix : ∀ (n far : Nat) (s : Bytes), s <+: copyB n far s
  | 0, _, _ => List.prefix_refl _
  | n + 1, far, _ => (List.prefix_append _ _).trans (copyB_prefix n far _)

theorem copyB_snoc : ∀ (k far : Nat) (s : Bytes), copyB (k + 1) far s = copyB k far s ++ [(copyB k far s).getD ((copyB k far s).length - far) 0]
  | 0, _, _ => rfl
  | k + 1, far, s => by rw [copyB, copyB_snoc k far, copyB]

/-- the error that a tok brings: d: how many bytes the dictionary has; s: dictionary and what was made; lit: was the last one as it is -/
def tokE (d : Nat) (s : Bytes) (lit : Bool) (t : Tok) : Nat :=
  if t.lit ≠ [] then
    if t.far ≠ 0 ∨ t.len ≠ 0 ∨ lit = true then 1 else if 512 < t.lit.length + (s.length - d) then 2 else 0
  else if t.len < 3 ∨ 64 < t.len ∨ t.far < 1 ∨ (s.length : Int) < t.far then 1
  else if 512 < t.len + ((s.length - d : Nat) : Int) then 2 else 0
def tokS (s : Bytes) (t : Tok) : Bytes := if t.lit ≠ [] then s ++ t.lit else copyB t.len.toNat t.far.toNat s
def isLit (t : Tok) : Bool := !t.lit.isEmpty

def playF (d : Nat) : Bytes → Bool → List Tok → Bytes × Nat
  | s, _, [] => (s.drop d, 0)
  | s, b, t :: l => if tokE d s b t ≠ 0 then ([], tokE d s b t) else playF d (tokS s t) (isLit t) l
/-- B1: the text, and the error -/
def play (dict : Bytes) (l : List Tok) : Bytes × Nat :=
  if maxDict < dict.length then ([], 2) else playF dict.length dict false l

/-- how many bytes come to be as they must -/
def comeF (w : Bytes) (at' far : Nat) : Nat → Nat → Nat
  | 0, n => n
  | f + 1, n => if at' + n < w.length ∧ w.getD (at' + n) 0 = w.getD (at' + n - far) 0 then comeF w at' far f (n + 1) else n
def come (w : Bytes) (at' far : Nat) : Nat := comeF w at' far 64 0

/-- the best of the fars 1 to k: (far, size); none: (0, 0) -/
def bestF (w : Bytes) (at' : Nat) : Nat → Nat × Nat
  | 0 => (0, 0)
  | f + 1 => if 3 ≤ come w at' (f + 1) ∧ (bestF w at' f).2 < come w at' (f + 1) then (f + 1, come w at' (f + 1)) else bestF w at' f
def best (w : Bytes) (at' : Nat) : Nat × Nat := bestF w at' at'

/-- the reference's own: without the three -/
def bestR (w : Bytes) (at' : Nat) : Nat → Nat × Nat
  | 0 => (0, 0)
  | f + 1 => if (bestR w at' f).2 < come w at' (f + 1) then (f + 1, come w at' (f + 1)) else bestR w at' f

theorem bestR_bestF (w : Bytes) (at' : Nat) : ∀ f, bestF w at' f = if (bestR w at' f).2 < 3 then (0, 0) else bestR w at' f
  | 0 => by simp [bestF, bestR]
  | f + 1 => by
    rw [bestF, bestR, bestR_bestF w at' f]
    generalize come w at' (f + 1) = c
    obtain ⟨x, y⟩ := bestR w at' f
    by_cases h1 : y < 3 <;> by_cases h2 : 3 ≤ c
    · have h3 : y < c := by omega
      have h4 : 0 < c := by omega
      have h5 : ¬ c < 3 := by omega
      simp [h1, h2, h3, h4, h5]
    · by_cases h3 : y < c <;> simp [h1, h2, h3] <;> omega
    · by_cases h3 : y < c
      · have h5 : ¬ c < 3 := by omega
        simp [h1, h2, h3, h5]
      · simp [h1, h3]
    · have h3 : ¬ y < c := by omega
      simp [h1, h3]

theorem comeF_le (w : Bytes) (p far : Nat) (hp : p ≤ w.length) : ∀ f n, p + n ≤ w.length → n ≤ comeF w p far f n ∧ comeF w p far f n ≤ n + f ∧ p + comeF w p far f n ≤ w.length
  | 0, n, h => ⟨Nat.le_refl _, Nat.le_refl _, h⟩
  | f + 1, n, h => by
    rw [comeF]
    by_cases h1 : p + n < w.length ∧ w.getD (p + n) 0 = w.getD (p + n - far) 0
    · rw [if_pos h1]
      obtain ⟨a, b, c⟩ := comeF_le w p far hp f (n + 1) (by omega)
      exact ⟨by omega, by omega, c⟩
    · rw [if_neg h1]; exact ⟨Nat.le_refl _, by omega, h⟩
theorem come_le (w : Bytes) (p far : Nat) (hp : p ≤ w.length) : come w p far ≤ 64 ∧ p + come w p far ≤ w.length := by
  obtain ⟨_, b, c⟩ := comeF_le w p far hp 64 0 (by omega)
  exact ⟨by unfold come; omega, c⟩
theorem bestR_le (w : Bytes) (p : Nat) (hp : p ≤ w.length) : ∀ f, (bestR w p f).2 ≤ 64 ∧ p + (bestR w p f).2 ≤ w.length ∧ (bestR w p f).1 ≤ f
  | 0 => by simp [bestR]; omega
  | f + 1 => by
    obtain ⟨a, b, c⟩ := bestR_le w p hp f
    rw [bestR]
    by_cases h : (bestR w p f).2 < come w p (f + 1)
    · rw [if_pos h]
      obtain ⟨d, e⟩ := come_le w p (f + 1) hp
      exact ⟨d, e, Nat.le_refl _⟩
    · rw [if_neg h]; exact ⟨a, b, by omega⟩
theorem best_eq (w : Bytes) (p : Nat) : best w p = if (bestR w p p).2 < 3 then (0, 0) else bestR w p p := bestR_bestF w p p

def litTok (b : Bytes) : Tok := ⟨b, 0, 0⟩
def copyTok (far size : Nat) : Tok := ⟨[], far, size⟩

/-- what is as it is, from a place up to another: a tok, or none -/
def flush (w : Bytes) (a b : Nat) : List Tok := if a < b then [litTok (slice w a b)] else []
def parseF (w : Bytes) : Nat → Nat → Nat → List Tok
  | 0, at', a => flush w a at'
  | f + 1, at', a =>
    if at' < w.length then
      if (best w at').2 = 0 then parseF w f (at' + 1) a
      else flush w a at' ++ copyTok (best w at').1 (best w at').2 :: parseF w f (at' + (best w at').2) (at' + (best w at').2)
    else flush w a at'
theorem parseF_fuel (w : Bytes) : ∀ (f g p a : Nat), w.length ≤ p + f → w.length ≤ p + g → p ≤ w.length → parseF w f p a = parseF w g p a
  | 0, 0, _, _, _, _, _ => rfl
  | 0, g + 1, p, a, h, _, hp => by rw [parseF, parseF, if_neg (by omega)]
  | f + 1, 0, p, a, _, h, hp => by rw [parseF, parseF, if_neg (by omega)]
  | f + 1, g + 1, p, a, hf, hg, hp => by
    rw [parseF, parseF]
    by_cases h : p < w.length
    · rw [if_pos h, if_pos h]
      by_cases h2 : (best w p).2 = 0
      · rw [if_pos h2, if_pos h2, parseF_fuel w f g (p + 1) a (by omega) (by omega) (by omega)]
      · rw [if_neg h2, if_neg h2]
        have hb := bestR_le w p hp p
        have he := best_eq w p
        have : p + (best w p).2 ≤ w.length := by
          rw [he]
          by_cases h3 : (bestR w p p).2 < 3
          · rw [if_pos h3]; simp; omega
          · rw [if_neg h3]; exact hb.2.1
        rw [parseF_fuel w f g (p + (best w p).2) (p + (best w p).2) (by omega) (by omega) this]
    · rw [if_neg h, if_neg h]
/-- B2 -/
def parse (dict text : Bytes) : List Tok := parseF (dict ++ text) text.length dict.length dict.length

def tokB (t : Tok) : Bytes := if t.lit ≠ [] then nb (2 * t.lit.length) ++ t.lit else nb (2 * t.len.toNat + 1) ++ nb t.far.toNat
def toksB : List Tok → Bytes
  | [] => []
  | t :: l => tokB t ++ toksB l
/-- B3 -/
def write (dict : Bytes) (l : List Tok) : Bytes × Nat := if (play dict l).2 ≠ 0 then ([], (play dict l).2) else (toksB l, 0)

/-- the tok that bytes begin with, its form alone -/
def tokFrom (s : Bytes) : Option (Tok × Bytes) :=
  match take s with
  | none => none
  | some (n, rest) =>
    if n % 2 = 0 then
      if rest.length < n / 2 then none else some (⟨rest.take (n / 2), 0, 0⟩, rest.drop (n / 2))
    else match take rest with
      | none => none
      | some (f, rest) => some (⟨[], f, (n / 2 : Nat)⟩, rest)

def readF (d : Nat) : Nat → Bytes → Bool → Bytes → Option (List Tok)
  | _, _, _, [] => some []
  | 0, _, _, _ :: _ => none
  | f + 1, m, b, c :: s' =>
    match tokFrom (c :: s') with
    | none => none
    | some (t, rest) => if tokE d m b t ≠ 0 then none else (readF d f (tokS m t) (isLit t) rest).map (t :: ·)
/-- B3: the right toks of which these are the bytes -/
def read (dict s : Bytes) : Option (List Tok) := readF dict.length s.length dict false s

end Pl
end Go.Proofs.Ytgfkkjcnnecefaa

/- The maker of a text, in memory: words; what of memory a step may turn. -/
namespace Go.Proofs.Ytgfkkjcnnecefaa
open Go.RowKit Go.Lib Pl

/-- what is not of a kind that may turn is kept -/
structure Keeps (bad : Obj → Bool) (w w' : World) : Prop where
  size : w.heap.size ≤ w'.heap.size
  block : ∀ (k : Nat) (o : Obj), w.heap[k]? = some o → bad o = false → w'.heap[k]? = some o

section
variable {bad : Obj → Bool} {a b c : World}
theorem Keeps.refl (bad : Obj → Bool) (w : World) : Keeps bad w w := ⟨Nat.le_refl _, fun _ _ h _ => h⟩
theorem Keeps.trans (h : Keeps bad a b) (k : Keeps bad b c) : Keeps bad a c := ⟨Nat.le_trans h.size k.size, fun i o hi ho => k.block i o (h.block i o hi ho) ho⟩
theorem Keeps.drew (h : Keeps bad a b) : Keeps bad a b.drew := ⟨h.size, h.block⟩
theorem Keeps.drewN (h : Keeps bad a b) (n : Nat) : Keeps bad a (b.drewN n) := ⟨h.size, h.block⟩
theorem Keeps.alloc (h : Keeps bad a b) (o : Obj) : Keeps bad a (b.alloc o) :=
  ⟨Nat.le_trans h.size (by simp), fun i o' hi ho => by
    have h1 := h.block i o' hi ho
    rw [Below.heap_alloc b o i (by rcases Nat.lt_or_ge i b.heap.size with h2 | h2; exact h2; rw [Array.getElem?_eq_none h2] at h1; cases h1)]
    exact h1⟩
theorem Keeps.grown {row : Option Nat} (h : Keeps bad a b) (hg : b.grownBy c row) (hr : ∀ g, row = some g → ∃ o, b.heap[g]? = some o ∧ bad o = true) : Keeps bad a c :=
  ⟨Nat.le_trans h.size hg.size, fun i o hi ho => by
    have h1 := h.block i o hi ho
    have h2 : i < b.heap.size := by
      rcases Nat.lt_or_ge i b.heap.size with h2 | h2
      · exact h2
      · rw [Array.getElem?_eq_none h2] at h1; cases h1
    rw [hg.block i h2 (fun e => ?_)]
    · exact h1
    · obtain ⟨o2, h3, h4⟩ := hr i e.symm
      rw [h1] at h3; injection h3 with h3; subst h3; rw [ho] at h4; cases h4⟩
theorem Keeps.setCell (h : Keeps bad a b) {p : Addr} (u : Value) {o : Obj} (hp : b.heap[p.block]? = some o) (hb : bad o = true) : Keeps bad a (b.setCell p u) :=
  ⟨by have h1 := h.size; simpa [World.setCell] using h1, fun i o' hi ho => by
    have h1 := h.block i o' hi ho
    rw [Below.heap_setCell b p u i (fun e => by subst e; rw [hp] at h1; injection h1 with h1; subst h1; rw [ho] at hb; cases hb)]
    exact h1⟩
theorem Keeps.of_below (h : Below a.heap.size a b) : Keeps bad a b :=
  ⟨h.size, fun i o hi _ => by
    have h2 : i < a.heap.size := by
      rcases Nat.lt_or_ge i a.heap.size with h2 | h2
      · exact h2
      · rw [Array.getElem?_eq_none h2] at hi; cases hi
    rw [h.block i h2]; exact hi⟩
theorem Keeps.own {base : Nat} {e : TypeId} {size n : Nat} {v : Value} {xs : List Value} (h : Keeps bad a b) (ho : OwnM a base e size v n xs) (hb : ∀ cs fz, bad (.cells cs e fz) = false) : OwnM b base e size v n xs := by
  refine ⟨ho.1, ?_⟩
  rcases ho.2 with hn | ⟨g, cap, cur, fz, hv, hbg, hgg, rest⟩
  · exact .inl hn
  · exact .inr ⟨g, cap, cur, fz, hv, hbg, h.block g _ hgg (hb _ _), rest⟩
theorem Keeps.ownsRow {base : Nat} {e : TypeId} {size n : Nat} {v : Value} {xs : List Value} (h : Keeps bad a b) (ho : a.ownsRow base e size v n xs) (hb : ∀ cs fz, bad (.cells cs e fz) = false) : b.ownsRow base e size v n xs := by
  refine ⟨ho.1, ?_⟩
  rcases ho.2 with hn | ⟨g, cap, cur, hv, hbg, hgg, rest⟩
  · exact .inl hn
  · exact .inr ⟨g, cap, cur, hv, hbg, h.block g _ hgg (hb _ _), rest⟩
end

/-- rows of bytes, and makers -/
def badMk : Obj → Bool
  | .cells _ t _ => t == 5 || t == 78
  | _ => false

/-- Block M is a maker: what it has made, dictionary ahead, is s; the dictionary has d bytes; lit: was the last one as it is. -/
def Mk (w : World) (base M d : Nat) (lit : Bool) (s : Bytes) : Prop :=
  base ≤ M ∧ ∃ A cap, w.heap[M]? = some (.cells #[.slice A s.length cap, .int .i64 d, .bool lit] 78 (0, 0)) ∧ OwnM w base 5 1 (.slice A s.length cap) s.length (s.map B)

theorem set_row {w : World} {g : Nat} {cs : Array Value} {t : TypeId} {fz : Nat × Nat} (h : w.heap[g]? = some (.cells cs t fz)) (i : Nat) (u : Value) :
    (w.setCell ⟨g, i, none⟩ u).heap[g]? = some (.cells (cs.setIfInBounds i u) t fz) := by
  simp [World.setCell, Array.getElem?_modify, h]
theorem size_setCell (w : World) (p : Addr) (u : Value) : (w.setCell p u).heap.size = w.heap.size := by simp [World.setCell]

/-- a row of bytes is no maker -/
theorem mk_far {w : World} {base M n : Nat} {cs : Array Value} {fz : Nat × Nat} {v : Value} {xs : List Value} (hblk : w.heap[M]? = some (.cells cs 78 fz)) (hown : OwnM w base 5 1 v n xs) : v.ownBlock ≠ some M := by
  rcases hown.2 with ⟨rfl, _⟩ | ⟨g, cap, cur, fz', rfl, _, hg, _⟩
  · simp [Value.ownBlock]
  · intro e
    have : g = M := by simpa [Value.ownBlock] using e
    subst this
    rw [hblk] at hg
    injection hg with hg
    injection hg with _ h2
    exact absurd h2 (by decide)

theorem mk_after {w W w1 : World} {base M n : Nat} {cs : Array Value} {fz : Nat × Nat} {v : Value} {xs : List Value} (hblk : w.heap[M]? = some (.cells cs 78 fz)) (hown : OwnM w base 5 1 v n xs)
    (hW : Below w.heap.size w W) (hg : W.grownBy w1 v.ownBlock) : w1.heap[M]? = some (.cells cs 78 fz) := by
  have hlt : M < w.heap.size := (Array.getElem?_eq_some_iff.1 hblk).1
  exact (hg.block M (Nat.lt_of_lt_of_le hlt hW.size) (fun e => mk_far hblk hown e.symm)).trans ((hW.block M hlt).trans hblk)
theorem below_drewN_alloc (w : World) (k : Nat) (o : Obj) : Below w.heap.size w ((w.drewN k).alloc o) := (below_drewN (Below.refl _ _) k).alloc (Nat.le_refl _) o

/-- behind an append to what a maker has made, and the stores into the maker -/
theorem mk_end {w W w1 w2 : World} {base M d : Nat} {lit lit2 : Bool} {A A1 : Option Addr} {cap cap1 n1 : Nat} {s s1 : Bytes}
    (hbM : base ≤ M) (hblk : w.heap[M]? = some (.cells #[.slice A s.length cap, .int .i64 d, .bool lit] 78 (0, 0))) (hown : OwnM w base 5 1 (.slice A s.length cap) s.length (s.map B))
    (hW : Below w.heap.size w W) (hown1 : OwnM w1 base 5 1 (.slice A1 n1 cap1) n1 (s1.map B)) (hg : W.grownBy w1 (Value.ownBlock (.slice A s.length cap)))
    (h2 : w2.heap[M]? = some (.cells #[.slice A1 n1 cap1, .int .i64 d, .bool lit2] 78 (0, 0))) (h3 : ∀ k, k ≠ M → w2.heap[k]? = w1.heap[k]?) (h4 : w2.heap.size = w1.heap.size)
    (h5 : w2.os = w1.os) (h6 : w2.tape = w1.tape) (h7 : w2.output = w1.output) :
    Mk w2 base M d lit2 s1 ∧ Below base w w2 ∧ Keeps badMk w w2 := by
  have hn : n1 = s1.length := by have := hown1.1; simp at this; omega
  subst hn
  have hMlt : M < w.heap.size := (Array.getElem?_eq_some_iff.1 hblk).1
  have hm1 : w1.heap[M]? = some (.cells #[.slice A s.length cap, .int .i64 d, .bool lit] 78 (0, 0)) :=
    (hg.block M (Nat.lt_of_lt_of_le hMlt hW.size) (fun e => mk_far hblk hown e.symm)).trans ((hW.block M hMlt).trans hblk)
  have hfar1 := mk_far hm1 hown1
  refine ⟨⟨hbM, A1, cap1, h2, hown1.kept fun k hk => h3 k (fun e => hfar1 (by rw [hk, e]))⟩, ⟨?_, ?_, ?_, ?_, ?_⟩, ⟨?_, ?_⟩⟩
  · rw [h5, hg.os, hW.os]
  · rw [h6, hg.tape, hW.tape]
  · rw [h7, hg.output, hW.output]
  · rw [h4]; exact Nat.le_trans hW.size hg.size
  · intro k hk
    rw [h3 k (by omega), hg.block k (Nat.lt_of_lt_of_le (by omega) hW.size) (fun e => by have := (hown.lt k e.symm).1; omega), hW.block k (by omega)]
  · rw [h4]; exact Nat.le_trans hW.size hg.size
  · intro k o ho hbad
    have hk : k < w.heap.size := (Array.getElem?_eq_some_iff.1 ho).1
    have hne : k ≠ M := fun e => by
      subst e; rw [hblk] at ho; injection ho with ho; subst ho; simp [badMk] at hbad
    have hnr : some k ≠ Value.ownBlock (.slice A s.length cap) := fun e => by
      rcases hown.2 with ⟨hv, _⟩ | ⟨g, cap', cur, fz, hv, _, hgg, _⟩
      · rw [hv] at e; simp [Value.ownBlock] at e
      · rw [hv] at e
        have : k = g := by simpa [Value.ownBlock] using e
        subst this
        rw [hgg] at ho; injection ho with ho; subst ho; simp [badMk] at hbad
    rw [h3 k hne, hg.block k (Nat.lt_of_lt_of_le hk hW.size) hnr, hW.block k hk]
    exact ho

theorem Mk.alloc {w : World} {base M d : Nat} {lit : Bool} {s : Bytes} (h : Mk w base M d lit s) (o : Obj) : Mk (w.alloc o) base M d lit s := by
  obtain ⟨h1, A, cap, h2, h3⟩ := h
  exact ⟨h1, A, cap, (Below.heap_alloc w o M (Array.getElem?_eq_some_iff.1 h2).1).trans h2, h3.alloc o⟩
theorem Mk.drewN {w : World} {base M d : Nat} {lit : Bool} {s : Bytes} (h : Mk w base M d lit s) (n : Nat) : Mk (w.drewN n) base M d lit s := h
theorem Mk.drew {w : World} {base M d : Nat} {lit : Bool} {s : Bytes} (h : Mk w base M d lit s) : Mk w.drew base M d lit s := h
theorem bytesRow_cells (s : ByteArray) : strCells s = s.data.toList.map (fun b => Value.int .u8 b.toNat) := rfl
/-- a new maker -/
theorem Mk.made (w : World) (base : Nat) (dict : Bytes) (hb : base ≤ w.heap.size) (hd : dict.length ≤ 9223372036854775807) :
    Mk ((w.drew.alloc (.cells (bytesRow ⟨dict.toArray⟩ (grownCap w dict.length 0 5)) 5 ((bytesRow ⟨dict.toArray⟩ (grownCap w dict.length 0 5)).size, (bytesRow ⟨dict.toArray⟩ (grownCap w dict.length 0 5)).size + 1))).alloc
      (.cells #[.slice (some ⟨w.heap.size, 0, none⟩) dict.length (grownCap w dict.length 0 5), .int .i64 dict.length, .bool false] 78)) base (w.heap.size + 1) dict.length false dict := by
  have h := OwnM.bytes w 5 ⟨dict.toArray⟩ base hb (by unfold maxLen; exact hd)
  rw [strCells_list] at h
  refine ⟨by omega, _, _, ?_, h.alloc _⟩
  have := heap_alloc_new (w.drew.alloc (.cells (bytesRow ⟨dict.toArray⟩ (grownCap w dict.length 0 5)) 5 ((bytesRow ⟨dict.toArray⟩ (grownCap w dict.length 0 5)).size, (bytesRow ⟨dict.toArray⟩ (grownCap w dict.length 0 5)).size + 1)))
    (.cells #[.slice (some ⟨w.heap.size, 0, none⟩) dict.length (grownCap w dict.length 0 5), .int .i64 dict.length, .bool false] 78)
  have e : (w.drew.alloc (.cells (bytesRow ⟨dict.toArray⟩ (grownCap w dict.length 0 5)) 5 ((bytesRow ⟨dict.toArray⟩ (grownCap w dict.length 0 5)).size, (bytesRow ⟨dict.toArray⟩ (grownCap w dict.length 0 5)).size + 1))).heap.size = w.heap.size + 1 := by
    simp [World.alloc, World.drew, -World.alloc_eq, -World.drew_eq]
  rw [e] at this
  exact this

/-- a tok as a value -/
abbrev TokV (t : Tok) : Value := .agg #[S t.lit, I t.far, I t.len]

end Go.Proofs.Ytgfkkjcnnecefaa

/- Plain mathematics of chapter 5: training. No program in sight. -/
namespace Go.Proofs.Ytgfkkjcnnecefaa
namespace Pl

/-- does a piece stand in a text? -/
def stands (p : Bytes) : Bytes → Bool
  | [] => p.isEmpty
  | c :: t => p.isPrefixOf (c :: t) || stands p t

theorem stands_iff (p : Bytes) : ∀ t : Bytes, stands p t = true ↔ ∃ a b, t = a ++ p ++ b
  | [] => by
    simp only [stands, List.isEmpty_iff]
    constructor
    · rintro rfl; exact ⟨[], [], rfl⟩
    · rintro ⟨a, b, h⟩
      have := congrArg List.length h
      simp at this
      exact List.eq_nil_of_length_eq_zero (by omega)
  | c :: t => by
    simp only [stands, Bool.or_eq_true, List.isPrefixOf_iff_prefix]
    rw [stands_iff p t]
    constructor
    · rintro (⟨b, h⟩ | ⟨a, b, h⟩)
      · exact ⟨[], b, by simp [h]⟩
      · exact ⟨c :: a, b, by simp [h]⟩
    · rintro ⟨a, b, h⟩
      cases a with
      | nil => exact .inl ⟨b, by simpa using h.symm⟩
      | cons d a =>
        simp at h
        exact .inr ⟨a, b, by simp [h.2]⟩
theorem stands_app {p t : Bytes} (x : Bytes) (h : stands p t = true) : stands p (x ++ t) = true := by
  obtain ⟨a, b, rfl⟩ := (stands_iff p t).1 h
  exact (stands_iff p _).2 ⟨x ++ a, b, by simp⟩
theorem stands_head (p t : Bytes) : stands p (p ++ t) = true := (stands_iff p _).2 ⟨[], t, by simp⟩

/-- the pieces of a text, in their order -/
def piece (t : Bytes) (k : Nat) : Bytes := slice t k (k + 4)
def piecesOf (t : Bytes) : List Bytes := (List.range (t.length - 3)).map (piece t)
theorem piece_len {t : Bytes} {k : Nat} (h : k < t.length - 3) : (piece t k).length = 4 := by unfold piece; rw [slice_len]; omega
theorem piecesOf_get {t : Bytes} {k : Nat} (h : k < t.length - 3) : (piecesOf t)[k]? = some (piece t k) := by unfold piecesOf; rw [List.getElem?_map, List.getElem?_range h]; rfl
theorem piecesOf_len (t : Bytes) : (piecesOf t).length = t.length - 3 := by simp [piecesOf]

theorem slice_split {t : Bytes} {a b : Nat} (h : a ≤ b) : t = t.take a ++ slice t a b ++ t.drop b := by
  unfold slice
  have h1 : t.take a ++ (t.take b).drop a = t.take b := by
    have : t.take a = (t.take b).take a := by rw [List.take_take, Nat.min_eq_left h]
    rw [this, List.take_append_drop]
  rw [h1, List.take_append_drop]
theorem mem_piecesOf {p t : Bytes} (hp : p.length = 4) : p ∈ piecesOf t ↔ stands p t = true := by
  rw [stands_iff]
  unfold piecesOf
  simp only [List.mem_map, List.mem_range]
  constructor
  · rintro ⟨k, hk, rfl⟩
    exact ⟨t.take k, t.drop (k + 4), slice_split (by omega)⟩
  · rintro ⟨a, b, rfl⟩
    refine ⟨a.length, by simp; omega, ?_⟩
    unfold piece slice
    have : a.length + 4 = (a ++ p).length := by simp [hp]
    rw [this, List.take_left' rfl, List.drop_left' rfl]
theorem mem_piecesOf_len {p t : Bytes} (h : p ∈ piecesOf t) : p.length = 4 := by
  unfold piecesOf at h
  simp only [List.mem_map, List.mem_range] at h
  obtain ⟨k, hk, rfl⟩ := h
  exact piece_len hk

/-- in how many texts a piece stands -/
def cnt (l : List Bytes) (p : Bytes) : Nat := (l.filter (stands p)).length
def allPieces (l : List Bytes) : List Bytes := l.flatMap piecesOf
theorem cnt_pos {l : List Bytes} {p : Bytes} (hp : p.length = 4) : 0 < cnt l p ↔ p ∈ allPieces l := by
  unfold cnt allPieces
  rw [List.length_pos_iff_exists_mem]
  simp only [List.mem_filter, List.mem_flatMap]
  constructor
  · rintro ⟨t, h1, h2⟩; exact ⟨t, h1, (mem_piecesOf hp).2 h2⟩
  · rintro ⟨t, h1, h2⟩; exact ⟨t, h1, (mem_piecesOf hp).1 h2⟩
theorem cnt_le (l : List Bytes) (p : Bytes) : cnt l p ≤ l.length := List.length_filter_le _ _
theorem allPieces_len {l : List Bytes} {p : Bytes} (h : p ∈ allPieces l) : p.length = 4 := by
  unfold allPieces at h
  obtain ⟨t, _, ht⟩ := List.mem_flatMap.1 h
  exact mem_piecesOf_len ht

/-- bytes, one before the other -/
def lessB : Bytes → Bytes → Bool
  | _, [] => false
  | [], _ :: _ => true
  | a :: x, b :: y => a < b || (a == b && lessB x y)
theorem lessB_irrefl : ∀ a : Bytes, lessB a a = false
  | [] => rfl
  | a :: x => by
    have : ¬ a < a := by rw [UInt8.lt_iff_toNat_lt]; omega
    simp [lessB, lessB_irrefl x, this]
theorem lessB_trans : ∀ {a b c : Bytes}, lessB a b = true → lessB b c = true → lessB a c = true
  | _, _, [], _, h2 => by cases ‹Bytes› <;> simp [lessB] at h2
  | _, [], _ :: _, h1, _ => by cases ‹Bytes› <;> simp [lessB] at h1
  | [], _ :: _, _ :: _, _, _ => rfl
  | a :: x, b :: y, c :: z, h1, h2 => by
    simp only [lessB, Bool.or_eq_true, decide_eq_true_eq, Bool.and_eq_true, beq_iff_eq] at h1 h2 ⊢
    simp only [UInt8.lt_iff_toNat_lt] at h1 h2 ⊢
    rcases h1 with h1 | ⟨rfl, h1⟩
    · rcases h2 with h2 | ⟨rfl, h2⟩
      · exact .inl (by omega)
      · exact .inl h1
    · rcases h2 with h2 | ⟨rfl, h2⟩
      · exact .inl h2
      · exact .inr ⟨rfl, lessB_trans h1 h2⟩
theorem lessB_total : ∀ {a b : Bytes}, lessB a b = false → lessB b a = false → a = b
  | [], [], _, _ => rfl
  | [], _ :: _, h, _ => by simp [lessB] at h
  | _ :: _, [], _, h => by simp [lessB] at h
  | a :: x, b :: y, h1, h2 => by
    simp only [lessB, Bool.or_eq_false_iff, decide_eq_false_iff_not, Bool.and_eq_false_iff] at h1 h2
    simp only [UInt8.lt_iff_toNat_lt] at h1 h2
    obtain ⟨h1, h3⟩ := h1
    obtain ⟨h2, h4⟩ := h2
    have e : a = b := by apply UInt8.toNat_inj.1; omega
    subst e
    rcases h3 with h3 | h3
    · simp at h3
    · rcases h4 with h4 | h4
      · simp at h4
      · rw [lessB_total h3 h4]

/-- the better piece comes first -/
def better (a b : Bytes × Nat) : Bool := decide (b.2 < a.2) || (a.2 == b.2 && lessB a.1 b.1)
theorem better_irrefl (a : Bytes × Nat) : better a a = false := by simp [better, lessB_irrefl]
theorem better_trans {a b c : Bytes × Nat} (h1 : better a b = true) (h2 : better b c = true) : better a c = true := by
  simp only [better, Bool.or_eq_true, decide_eq_true_eq, Bool.and_eq_true, beq_iff_eq] at h1 h2 ⊢
  rcases h1 with h1 | ⟨e1, h1⟩
  · rcases h2 with h2 | ⟨e2, h2⟩
    · exact .inl (by omega)
    · exact .inl (by omega)
  · rcases h2 with h2 | ⟨e2, h2⟩
    · exact .inl (by omega)
    · exact .inr ⟨by omega, lessB_trans h1 h2⟩
theorem better_total {a b : Bytes × Nat} (h1 : better a b = false) (h2 : better b a = false) : a = b := by
  simp only [better, Bool.or_eq_false_iff, decide_eq_false_iff_not, Bool.and_eq_false_iff] at h1 h2
  obtain ⟨x, n⟩ := a
  obtain ⟨y, m⟩ := b
  simp only at h1 h2
  have e : n = m := by omega
  subst e
  have h3 : lessB x y = false := by rcases h1.2 with h | h; simp at h; exact h
  have h4 : lessB y x = false := by rcases h2.2 with h | h; simp at h; exact h
  rw [lessB_total h3 h4]

/-- what is taken of the pieces, the best one first -/
def greedy (size : Nat) : Bytes → List Bytes → Bytes
  | dict, [] => dict
  | dict, p :: c => if size < dict.length + 4 then dict else if stands p dict then greedy size dict c else greedy size (p ++ dict) c

/-- C is the pieces that stand in two texts at least, each once, the best one first. -/
structure Cands (l : List Bytes) (c : List Bytes) : Prop where
  mem : ∀ p, p ∈ c ↔ p ∈ allPieces l ∧ 1 < cnt l p
  sorted : c.Pairwise fun a b => better (a, cnt l a) (b, cnt l b) = true
theorem cands_unique {l c d : List Bytes} (hc : Cands l c) (hd : Cands l d) : c = d := by
  have key : ∀ (c d : List Bytes), c.Pairwise (fun a b => better (a, cnt l a) (b, cnt l b) = true) → d.Pairwise (fun a b => better (a, cnt l a) (b, cnt l b) = true) → (∀ p, p ∈ c ↔ p ∈ d) → c = d := by
    intro c
    induction c with
    | nil => intro d _ _ h; cases d with
      | nil => rfl
      | cons x d => exact absurd ((h x).2 (by simp)) (by simp)
    | cons x c ih =>
      intro d h1 h2 h
      cases d with
      | nil => exact absurd ((h x).1 (by simp)) (by simp)
      | cons y d =>
        rw [List.pairwise_cons] at h1 h2
        have e : x = y := by
          have hx := (h x).1 (by simp)
          have hy := (h y).2 (by simp)
          rcases List.mem_cons.1 hx with e | hx
          · exact e
          · rcases List.mem_cons.1 hy with e | hy
            · exact e.symm
            · have a := h1.1 y hy
              have b := h2.1 x hx
              have := better_trans a b
              rw [better_irrefl] at this; cases this
        subst e
        have nx : ∀ {z : List Bytes}, (∀ a ∈ z, better (x, cnt l x) (a, cnt l a) = true) → x ∉ z := fun hz hx => by
          have := hz x hx
          rw [better_irrefl] at this; cases this
        rw [ih d h1.2 h2.2 fun p => ?_]
        constructor
        · intro hp
          have := (h p).1 (by simp [hp])
          rcases List.mem_cons.1 this with e | this
          · subst e; exact absurd hp (nx h1.1)
          · exact this
        · intro hp
          have := (h p).2 (by simp [hp])
          rcases List.mem_cons.1 this with e | this
          · subst e; exact absurd hp (nx h2.1)
          · exact this
  exact key c d hc.sorted hd.sorted fun p => by rw [hc.mem, hd.mem]

/-- the reference's own: the best of some pieces that does not stand in the dictionary yet -/
def bestStep (l : List Bytes) (dict : Bytes) (b : Bytes × Nat) (p : Bytes) : Bytes × Nat :=
  if ((b.2 < cnt l p) ∨ (cnt l p = b.2 ∧ 1 < cnt l p ∧ lessB p b.1 = true)) ∧ stands p dict = false then (p, cnt l p) else b
def bestOf (l : List Bytes) (dict : Bytes) (ps : List Bytes) : Bytes × Nat := ps.foldl (bestStep l dict) ([], 1)
def trainR (l : List Bytes) (size : Nat) : Nat → Bytes → Bytes
  | 0, dict => dict
  | f + 1, dict => if dict.length + 4 ≤ size then (if (bestOf l dict (allPieces l)).1 = [] then dict else trainR l size f ((bestOf l dict (allPieces l)).1 ++ dict)) else dict

/-- what the best of some pieces is -/
def IsBest (l : List Bytes) (dict : Bytes) (ps : List Bytes) (b : Bytes × Nat) : Prop :=
  (b = ([], 1) ∧ ∀ q ∈ ps, 1 < cnt l q → stands q dict = true) ∨
  (b.1 ∈ ps ∧ b.2 = cnt l b.1 ∧ 1 < b.2 ∧ stands b.1 dict = false ∧ ∀ q ∈ ps, 1 < cnt l q → stands q dict = false → q = b.1 ∨ better b (q, cnt l q) = true)
theorem isBest_step {l : List Bytes} {dict : Bytes} {ps : List Bytes} {b : Bytes × Nat} (h : IsBest l dict ps b) (p : Bytes) (hne : p ≠ []) : IsBest l dict (ps ++ [p]) (bestStep l dict b p) := by
  unfold bestStep
  by_cases hc : ((b.2 < cnt l p) ∨ (cnt l p = b.2 ∧ 1 < cnt l p ∧ lessB p b.1 = true)) ∧ stands p dict = false
  · rw [if_pos hc]
    obtain ⟨hc, hs⟩ := hc
    right
    rcases h with ⟨rfl, h⟩ | ⟨h1, h2, h3, h4, h5⟩
    · have hp : 1 < cnt l p := by rcases hc with hc | hc <;> simp at hc <;> omega
      refine ⟨by simp, rfl, hp, hs, fun q hq hq1 hq2 => ?_⟩
      rcases List.mem_append.1 hq with hq | hq
      · rw [h q hq hq1] at hq2; cases hq2
      · exact .inl (by simpa using hq)
    · have hp : 1 < cnt l p := by rcases hc with hc | hc <;> omega
      have hb : better (p, cnt l p) b = true := by
        simp only [better, Bool.or_eq_true, decide_eq_true_eq, Bool.and_eq_true, beq_iff_eq]
        rcases hc with hc | ⟨hc, _, hl⟩
        · exact .inl hc
        · exact .inr ⟨hc, hl⟩
      refine ⟨by simp, rfl, hp, hs, fun q hq hq1 hq2 => ?_⟩
      rcases List.mem_append.1 hq with hq | hq
      · rcases h5 q hq hq1 hq2 with e | h6
        · right; rw [e]
          have : (b.1, cnt l b.1) = b := by rw [← h2]
          rw [this]; exact hb
        · exact .inr (better_trans hb h6)
      · exact .inl (by simpa using hq)
  · rw [if_neg hc]
    rcases h with ⟨rfl, h⟩ | ⟨h1, h2, h3, h4, h5⟩
    · left
      refine ⟨rfl, fun q hq hq1 => ?_⟩
      rcases List.mem_append.1 hq with hq | hq
      · exact h q hq hq1
      · have hq : q = p := by simpa using hq
        subst hq
        cases hs : stands q dict with
        | true => rfl
        | false => exact absurd ⟨.inl hq1, hs⟩ hc
    · right
      refine ⟨by simp [h1], h2, h3, h4, fun q hq hq1 hq2 => ?_⟩
      rcases List.mem_append.1 hq with hq | hq
      · exact h5 q hq hq1 hq2
      · have hq : q = p := by simpa using hq
        subst hq
        by_cases e : q = b.1
        · exact .inl e
        · right
          have hn : ¬ (b.2 < cnt l q ∨ (cnt l q = b.2 ∧ 1 < cnt l q ∧ lessB q b.1 = true)) := fun h => hc ⟨h, hq2⟩
          simp only [not_or, not_and] at hn
          simp only [better, Bool.or_eq_true, decide_eq_true_eq, Bool.and_eq_true, beq_iff_eq]
          by_cases h6 : cnt l q < b.2
          · exact .inl h6
          · have h7 : b.2 = cnt l q := by omega
            refine .inr ⟨h7, ?_⟩
            have h8 := hn.2 h7.symm hq1
            cases h9 : lessB b.1 q with
            | true => rfl
            | false => exact absurd (lessB_total (by simpa using h8) h9) e
theorem bestOf_is (l : List Bytes) (dict : Bytes) (ps : List Bytes) (hne : ∀ p ∈ ps, p ≠ []) : IsBest l dict ps (bestOf l dict ps) := by
  have key : ∀ (ps done : List Bytes) (b : Bytes × Nat), (∀ p ∈ ps, p ≠ []) → IsBest l dict done b → IsBest l dict (done ++ ps) (ps.foldl (bestStep l dict) b) := by
    intro ps
    induction ps with
    | nil => intro done b _ h; simpa using h
    | cons p ps ih =>
      intro done b hn h
      have := ih (done ++ [p]) _ (fun q hq => hn q (by simp [hq])) (isBest_step h p (hn p (by simp)))
      simpa using this
  have := key ps [] ([], 1) hne (.inl ⟨rfl, by simp⟩)
  unfold bestOf
  simpa using this

theorem trainR_greedy {l c : List Bytes} (size : Nat) (hc : Cands l c) : ∀ (f : Nat) (dict : Bytes) (done rest : List Bytes), c = done ++ rest → (∀ p ∈ done, stands p dict = true) → size < dict.length + 4 + 4 * f →
    trainR l size f dict = greedy size dict rest := by
  intro f
  induction f with
  | zero =>
    intro dict done rest h1 h2 h3
    rw [trainR]
    cases rest with
    | nil => rfl
    | cons p rest => rw [greedy, if_pos (by omega)]
  | succ f ih =>
    intro dict done rest
    induction rest generalizing done with
    | nil =>
      intro h1 h2 h3
      rw [trainR, greedy]
      have hb := bestOf_is l dict (allPieces l) (fun p hp e => by have := allPieces_len hp; rw [e] at this; simp at this)
      rcases hb with ⟨hb, _⟩ | ⟨h4, h5, h6, h7, _⟩
      · rw [hb]; simp
      · have hm := (hc.mem (bestOf l dict (allPieces l)).1).2 ⟨h4, by omega⟩
        rw [h1, List.append_nil] at hm
        rw [h2 _ hm] at h7; cases h7
    | cons p rest ih2 =>
      intro h1 h2 h3
      by_cases hz : size < dict.length + 4
      · rw [trainR, greedy, if_pos hz, if_neg (by omega)]
      · by_cases hs : stands p dict = true
        · rw [greedy, if_neg hz, if_pos hs]
          exact ih2 (done ++ [p]) (by rw [h1]; simp) (fun q hq => by
            rcases List.mem_append.1 hq with hq | hq
            · exact h2 q hq
            · have : q = p := by simpa using hq
              rw [this]; exact hs) h3
        · rw [greedy, if_neg hz, if_neg hs, trainR, if_pos (by omega)]
          have hs : stands p dict = false := by simpa using hs
          have hpc := (hc.mem p).1 (by rw [h1]; simp)
          have hpl := allPieces_len hpc.1
          have hb := bestOf_is l dict (allPieces l) (fun p hp e => by have := allPieces_len hp; rw [e] at this; simp at this)
          have hbe : (bestOf l dict (allPieces l)).1 = p := by
            rcases hb with ⟨_, h4⟩ | ⟨h4, h5, h6, h7, h8⟩
            · rw [h4 p hpc.1 hpc.2] at hs; cases hs
            · have hm := (hc.mem (bestOf l dict (allPieces l)).1).2 ⟨h4, by omega⟩
              rw [h1] at hm
              rcases List.mem_append.1 hm with hm | hm
              · rw [h2 _ hm] at h7; cases h7
              · rcases List.mem_cons.1 hm with hm | hm
                · exact hm
                · have hsrt := hc.sorted
                  rw [h1, List.pairwise_append, List.pairwise_cons] at hsrt
                  have h9 := hsrt.2.1.1 _ hm
                  rcases h8 p hpc.1 hpc.2 hs with e | h10
                  · exact e.symm
                  · rw [← h5] at h9
                    have := better_trans h9 h10
                    rw [better_irrefl] at this; cases this
          rw [hbe, if_neg (by intro e; rw [e] at hpl; simp at hpl)]
          exact ih (p ++ dict) (done ++ [p]) rest (by rw [h1]; simp) (fun q hq => by
            rcases List.mem_append.1 hq with hq | hq
            · exact stands_app p (h2 q hq)
            · have : q = p := by simpa using hq
              rw [this]; exact stands_head p dict) (by simp [hpl]; omega)
/-- E2: the reference's dictionary is what is taken of the pieces -/
theorem trainR_eq {l c : List Bytes} {size f : Nat} (hc : Cands l c) (hf : size < 4 + 4 * f) : trainR l size f [] = greedy size [] c :=
  trainR_greedy size hc f [] [] c rfl (by simp) (by simpa using hf)

/-- E3: what is known of the dictionary: its pieces, each once, the last one first -/
def chunks : List Bytes → Bytes
  | [] => []
  | p :: c => p ++ chunks c
theorem greedy_chunks {size : Nat} : ∀ (c : List Bytes) (ds : List Bytes), (∀ p ∈ c, p.length = 4) → (∀ p ∈ ds, p.length = 4) → ds.Nodup → (chunks ds).length ≤ size →
    ∃ es, greedy size (chunks ds) c = chunks es ∧ (∀ p ∈ es, p.length = 4) ∧ es.Nodup ∧ (chunks es).length ≤ size ∧ ∀ p ∈ es, p ∈ ds ∨ p ∈ c
  | [], ds, _, h2, h3, h4 => ⟨ds, rfl, h2, h3, h4, fun p hp => .inl hp⟩
  | p :: c, ds, h1, h2, h3, h4 => by
    rw [greedy]
    by_cases hz : size < (chunks ds).length + 4
    · rw [if_pos hz]; exact ⟨ds, rfl, h2, h3, h4, fun p hp => .inl hp⟩
    · rw [if_neg hz]
      by_cases hs : stands p (chunks ds) = true
      · rw [if_pos hs]
        obtain ⟨es, a, b, d, e, g⟩ := greedy_chunks (size := size) c ds (fun q hq => h1 q (by simp [hq])) h2 h3 h4
        exact ⟨es, a, b, d, e, fun q hq => (g q hq).imp id (by simp +contextual)⟩
      · rw [if_neg hs]
        have hp4 := h1 p (by simp)
        have hn : p ∉ ds := by
          intro hm
          apply hs
          rw [stands_iff]
          have : ∀ ds : List Bytes, p ∈ ds → ∃ a b, chunks ds = a ++ p ++ b := by
            intro ds
            induction ds with
            | nil => intro h; cases h
            | cons x ds ih =>
              intro h
              rcases List.mem_cons.1 h with e | h
              · subst e; exact ⟨[], chunks ds, by simp [chunks]⟩
              · obtain ⟨a, b, e⟩ := ih h
                exact ⟨x ++ a, b, by simp [chunks, e]⟩
          exact this ds hm
        obtain ⟨es, a, b, d, e, g⟩ := greedy_chunks (size := size) c (p :: ds) (fun q hq => h1 q (by simp [hq])) (by simpa [hp4] using h2) (List.nodup_cons.2 ⟨hn, h3⟩) (by rw [chunks, List.length_append, hp4]; omega)
        refine ⟨es, a, b, d, e, fun q hq => ?_⟩
        rcases g q hq with h | h
        · rcases List.mem_cons.1 h with e | h
          · exact .inr (by simp [e])
          · exact .inl h
        · exact .inr (by simp [h])
theorem chunks_len : ∀ (es : List Bytes), (∀ p ∈ es, p.length = 4) → (chunks es).length = 4 * es.length
  | [], _ => rfl
  | p :: es, h => by simp [chunks, chunks_len es (fun q hq => h q (by simp [hq])), h p (by simp)]; omega
theorem chunks_get : ∀ (es : List Bytes) (i : Nat), (∀ p ∈ es, p.length = 4) → i < es.length → slice (chunks es) (4 * i) (4 * i + 4) = es.getD i []
  | [], i, _, h => by simp at h
  | p :: es, 0, h, _ => by
    have hp := h p (by simp)
    unfold slice
    simp [chunks, ← hp]
  | p :: es, i + 1, h, hi => by
    have hp := h p (by simp)
    have ih := chunks_get es i (fun q hq => h q (by simp [hq])) (by simpa using hi)
    unfold slice at ih ⊢
    have e1 : 4 * (i + 1) + 4 = p.length + (4 * i + 4) := by omega
    have e2 : 4 * (i + 1) = p.length + 4 * i := by omega
    rw [chunks, e1, e2, List.take_length_add_append, List.drop_length_add_append]
    simpa using ih

/-- E1 -/
def big (t : Bytes) : Bool := decide (512 < t.length)
def manyB (l : List Bytes) : Bool := decide (12 < l.length) || l.any big
theorem manyB_no {l : List Bytes} (h : manyB l = false) : l.length ≤ 12 ∧ ∀ t ∈ l, t.length ≤ 512 := by
  simp only [manyB, Bool.or_eq_false_iff, decide_eq_false_iff_not, List.any_eq_false] at h
  refine ⟨by omega, fun t ht => ?_⟩
  have := h.2 t ht
  simp only [big, decide_eq_true_eq] at this
  omega
/-- E2 -/
def trainOf (l : List Bytes) (size : Nat) : Bytes := trainR l size 64 []
def trainE (l : List Bytes) (size : Int) : Nat := if manyB l = true then 2 else if size < 0 ∨ 256 < size then 3 else 0
def trainD (l : List Bytes) (size : Int) : Bytes := if manyB l = true then [] else if size < 0 ∨ 256 < size then [] else trainOf l size.toNat
theorem trainOf_eq {l c : List Bytes} {size : Nat} (hc : Cands l c) (hs : size ≤ 256) : trainOf l size = greedy size [] c := trainR_eq hc (by omega)
theorem trainR_len (l : List Bytes) (size : Nat) : ∀ (f : Nat) (dict : Bytes), dict.length ≤ size → (trainR l size f dict).length ≤ size
  | 0, dict, h => by rw [trainR]; exact h
  | f + 1, dict, h => by
    rw [trainR]
    split
    · split
      · exact h
      · rename_i h1 h2
        refine trainR_len l size f _ ?_
        have hb : (bestOf l dict (allPieces l)).1.length = 4 := by
          rcases bestOf_is l dict (allPieces l) (fun p hp e => by have := allPieces_len hp; rw [e] at this; simp at this) with h3 | h3
          · exact absurd (by rw [h3.1]) h2
          · exact allPieces_len h3.1
        rw [List.length_append, hb]; omega
    · exact h
theorem trainOf_len (l : List Bytes) (size : Nat) : (trainOf l size).length ≤ size := trainR_len l size 64 [] (Nat.zero_le _)
theorem trainD_len (l : List Bytes) (size : Int) : (trainD l size).length ≤ 256 := by
  unfold trainD
  split
  · simp
  · split
    · simp
    · have := trainOf_len l size.toNat
      omega

end Pl
end Go.Proofs.Ytgfkkjcnnecefaa

/- A slice of strings that reads as a list; does a piece stand in a text. -/
namespace Go.Proofs.Ytgfkkjcnnecefaa
open Go.RowKit Go.Lib Pl
attribute [local go_sem] ext_list app_list

/-- The slice of address A and length n reads as the list l, below block Bd. -/
def StrsAt (w : World) (Bd : Nat) (A : Option Addr) (n : Nat) (l : List Bytes) : Prop :=
  l.length = n ∧ (0 < n → ∃ b off, A = some ⟨b, off, none⟩ ∧ b < Bd ∧ ∀ i t, l[i]? = some t → w.cell? ⟨b, off + i, none⟩ = some (S t))
theorem StrsAt.keep {w w' : World} {Bd n : Nat} {A : Option Addr} {l : List Bytes} (h : StrsAt w Bd A n l) (hk : ∀ p : Addr, p.block < Bd → w'.cell? p = w.cell? p) : StrsAt w' Bd A n l :=
  ⟨h.1, fun hn => by
    obtain ⟨b, off, e, hb, hc⟩ := h.2 hn
    exact ⟨b, off, e, hb, fun i t hi => (hk _ hb).trans (hc i t hi)⟩⟩
theorem StrsAt.below {w w' : World} {Bd n : Nat} {A : Option Addr} {l : List Bytes} (h : StrsAt w Bd A n l) (hb : Below Bd w w') : StrsAt w' Bd A n l := h.keep fun _ hp => hb.cell hp
theorem StrsAt.up {w w' : World} {n : Nat} {A : Option Addr} {l : List Bytes} (h : StrsAt w w.heap.size A n l) (hb : Below w.heap.size w w') : StrsAt w' w'.heap.size A n l := by
  have h1 := h.below hb
  exact ⟨h1.1, fun hn => by obtain ⟨b, off, e, hlt, hc⟩ := h1.2 hn; exact ⟨b, off, e, Nat.lt_of_lt_of_le hlt hb.size, hc⟩⟩
theorem StrsAt.at_ {w : World} {Bd n k : Nat} {A : Option Addr} {l : List Bytes} (h : StrsAt w Bd A n l) (hk : k < n) : ∃ b off t, A = some ⟨b, off, none⟩ ∧ b < Bd ∧ l[k]? = some t ∧ w.cell? ⟨b, off + k, none⟩ = some (S t) := by
  obtain ⟨b, off, e, hb, hc⟩ := h.2 (by omega)
  have hl : k < l.length := by have := h.1; omega
  exact ⟨b, off, l[k], e, hb, List.getElem?_eq_getElem hl, hc k _ (List.getElem?_eq_getElem hl)⟩

/-- what the library's variable holds is a number -/
def MaxLenIs (w : World) : Prop := ∃ m : Int, w.cell? ⟨0, 0, none⟩ = some (.int .i64 m)
theorem MaxLenIs.up {w w' : World} (h : MaxLenIs w) (hb : Below w.heap.size w w') : MaxLenIs w' := by
  obtain ⟨m, hm⟩ := h
  have hlt : 0 < w.heap.size := by
    rcases Nat.lt_or_ge 0 w.heap.size with h | h
    · exact h
    · simp [World.cell?, Array.getElem?_eq_none h] at hm
  exact ⟨m, (hb.cell (p := ⟨0, 0, none⟩) hlt).trans hm⟩
theorem MaxLenIs.cells {w w' : World} (h : MaxLenIs w) (hb : w'.heap[0]? = w.heap[0]?) : MaxLenIs w' := by
  obtain ⟨m, hm⟩ := h
  exact ⟨m, by rw [← hm]; unfold World.cell?; rw [hb]⟩

theorem index_stands (p : Bytes) : ∀ t : Bytes, 0 ≤ Lib.index t p ↔ stands p t = true
  | [] => by
    rcases Lib.index_spec [] p with ⟨h1, h2⟩ | ⟨i, h1, h2, h3, _⟩
    · have := h2 0 (Nat.zero_le _)
      rw [h1]
      unfold stands
      cases p with
      | nil => simp [Lib.occAt] at this
      | cons a p => simp
    · rw [h1]
      have hi : i = 0 := by simpa using h2
      subst hi
      cases p with
      | nil => simp [stands]
      | cons a p => simp [Lib.occAt] at h3
  | c :: t => by
    rw [Lib.index, stands]
    by_cases h : p.isPrefixOf (c :: t) = true
    · rw [if_pos h, h]; simp
    · rw [if_neg h]
      have h' : p.isPrefixOf (c :: t) = false := Bool.eq_false_iff.2 h
      rw [h', Bool.false_or, ← index_stands p t]
      rcases Lib.index_spec t p with ⟨h1, _⟩ | ⟨i, h1, _⟩
      · rw [h1]; decide
      · rw [h1]
        have : ((i : Int) == -1) = false := by rw [beq_eq_false_iff_ne]; omega
        simp [this]; omega
theorem contains_stands (p t : Bytes) : Lib.contains t p = stands p t := by
  unfold Lib.contains
  rw [Bool.eq_iff_iff, decide_eq_true_eq]
  exact index_stands p t

/-- strings.Contains -/
theorem contains_any (t p : Bytes) (w : World) (hm : MaxLenIs w) (ht : t.length < 4294967281) :
    Calls Try.prog 62 #[S t, S p] w fun e w' => e = .returned (.bool (stands p t)) ∧ w = w' := by
  obtain ⟨m, hm⟩ := hm
  refine (Try.strings_Contains ⟨t.toArray⟩ ⟨p.toArray⟩ m w ht hm).mono ?_
  rintro e w' ⟨rfl, rfl⟩
  refine ⟨?_, rfl⟩
  rw [← contains_stands]

theorem stands_short {p t : Bytes} (h : t.length < p.length) : stands p t = false := by
  rw [Bool.eq_false_iff]
  intro hs
  obtain ⟨a, b, rfl⟩ := (stands_iff p t).1 hs
  simp at h; omega
theorem stands_at {p t : Bytes} {i : Nat} (h : i + p.length ≤ t.length) (he : slice t i (i + p.length) = p) : stands p (t.drop i) = true := by
  rw [stands_iff]
  refine ⟨[], t.drop (i + p.length), ?_⟩
  rw [List.nil_append]
  have := slice_split (t := t) (a := i) (b := i + p.length) (by omega)
  rw [he] at this
  have hl : (t.take i).length = i := by rw [List.length_take]; omega
  conv => lhs; rw [this]
  rw [List.append_assoc, List.drop_left' hl]
theorem stands_next {p t : Bytes} {i : Nat} (h : i + p.length ≤ t.length) (he : slice t i (i + p.length) ≠ p) : i < t.length ∧ stands p (t.drop i) = stands p (t.drop (i + 1)) := by
  have hi : i < t.length := by
    rcases Nat.lt_or_ge i t.length with h1 | h1
    · exact h1
    · exfalso
      apply he
      have hp : p = [] := List.eq_nil_of_length_eq_zero (by omega)
      rw [hp]
      apply List.eq_nil_of_length_eq_zero
      rw [slice_len]; simp; omega
  refine ⟨hi, ?_⟩
  rw [List.drop_eq_getElem_cons hi, stands]
  have : p.isPrefixOf (t[i] :: t.drop (i + 1)) = false := by
    rw [Bool.eq_false_iff]
    intro hx
    rw [List.isPrefixOf_iff_prefix, ← List.drop_eq_getElem_cons hi] at hx
    obtain ⟨r, hr⟩ := hx
    apply he
    unfold slice
    rw [List.drop_take, ← hr]
    have : i + p.length - i = p.length := by omega
    rw [this, List.take_left' rfl]
  rw [this, Bool.false_or]

set_option maxHeartbeats 1000000 in
set_option maxRecDepth 100000 in
/-- the reference's own -/
theorem standsR_any (p t : Bytes) (w : World) (hp : p.length ≤ 1000000000) (ht : t.length ≤ 1000000000) :
    Calls Try.prog 64 #[S p, S t] w fun e w' => e = .returned (.bool (stands p t)) ∧ w = w' := by
  go_enter Try.func64, Try.ntmps64
  go_wp2_with fail
  go_loop [5] (fun i => ∃ k : Nat, k ≤ t.length ∧ i = .int .i64 k ∧ stands p t = stands p (t.drop k)) (fun i => t.length - (intOf i).toNat)
  case atStart => exact ⟨0, Nat.zero_le _, rfl, by simp⟩
  case round =>
    obtain ⟨k, hk, rfl, hs⟩ := hrel
    have HS := hide hs
    clear hs
    by_cases h1 : k + p.length ≤ t.length
    · have h2 : (k : Int) + (p.length : Int) ≤ (t.length : Int) := by omega
      have e1 : IntKind.i64.wrap ((k : Int) + (p.length : Int)) = (k : Int) + (p.length : Int) := IntWalk.i64_in _ ⟨by omega, by omega⟩
      have e2 : (0 : Int) ≤ (k : Int) + (p.length : Int) := by omega
      have e3 : ((k : Int) + (p.length : Int)).toNat = k + p.length := by omega
      have e4 : k ≤ k + p.length := by omega
      by_cases he : slice t k (k + p.length) = p
      · have hr : stands p t = true := by rw [unhide HS]; exact stands_at h1 he
        have q1 : (slice t k (k + p.length) == p) = true := by simpa using he
        have HR := hide hr
        clear hr he
        go_wp2_with fail
        go_ret
        exact ⟨by rw [unhide HR]; rfl, rfl⟩
      · obtain ⟨h3, h4⟩ := stands_next h1 he
        have q1 : (slice t k (k + p.length) == p) = false := by simpa using he
        have H4 := hide h4
        clear h4 he
        go_wp2_with fail
        go_round
        case rel => exact ⟨k + 1, by omega, by go_num, by rw [unhide HS, unhide H4]⟩
        case measure => simp [intOf]; omega
    · have h2 : (t.length : Int) < (k : Int) + (p.length : Int) := by omega
      have hr : stands p t = false := by rw [unhide HS]; exact stands_short (by simp; omega)
      have HR := hide hr
      clear hr
      go_wp2_with fail
      go_ret
      exact ⟨by rw [unhide HR]; rfl, rfl⟩

end Go.Proofs.Ytgfkkjcnnecefaa

/- A map of the call's own from strings to numbers, as a function. -/
namespace Go.Proofs.Ytgfkkjcnnecefaa
open Go.RowKit Go.Lib Pl Go.ChangeMaps Go.MapKept Go.ChangeShapes
open Go.WideElems (Fit)
open Go.Maps (Keyed string_keyed IsMap atKey_put_same atKey_put_other)

theorem keyedS : Keyed Try.prog 9 := string_keyed Try.underlying9
theorem zero_int (w : World) : (zeroValue 3).run Try.prog w = .ok (.int .i64 0) w := by kernel_rfl
theorem keyS {kb : Bytes} (h : kb.length ≤ 1000000000) : keyOf Try.prog 9 (S kb) = some (.string kb) := by
  have hsz : (⟨kb.toArray⟩ : ByteArray).size ≤ maxLen := by show kb.length ≤ _; unfold maxLen; omega
  have := WideMaps.keyOf_string_mk Try.underlying9 hsz
  have hkl : (⟨kb.toArray⟩ : ByteArray).data.toList = kb := by simp
  rw [hkl] at this; exact this

/-- Block b is a map of at most n entries that reads as f. -/
def NatMap (w : World) (b n : Nat) (f : Bytes → Nat) : Prop :=
  ∃ D : DataW Unit, w.ownsMap Try.prog 9 (plainElem Try.prog 3) b n D ∧ IsMap D ∧ ∀ kb : Bytes, D.atKey (.string kb) (.lit (.int .i64 0)) = .lit (.int .i64 (f kb))

theorem NatMap.made (w : World) : NatMap (w.alloc (.map #[] 0)) w.heap.size 0 fun _ => 0 :=
  ⟨.map [], World.ownsMap_made _ _ _ _, Go.Maps.isMap_empty, fun _ => rfl⟩
theorem NatMap.kept {w w' : World} {b n : Nat} {f : Bytes → Nat} {row : Option Nat} (h : NatMap w b n f) (hg : w.grownBy w' row) (hne : some b ≠ row) : NatMap w' b n f := by
  obtain ⟨D, ho, r⟩ := h
  exact ⟨D, ho.kept hg hne, r⟩
theorem NatMap.alloc {w : World} {b n : Nat} {f : Bytes → Nat} (h : NatMap w b n f) (o : Obj) : NatMap (w.alloc o) b n f := h.kept (World.grownBy_alloc w o none) (by simp)
theorem NatMap.lt {w : World} {b n : Nat} {f : Bytes → Nat} (h : NatMap w b n f) : b < w.heap.size := by
  obtain ⟨D, ho, r⟩ := h
  exact ho.lt
theorem NatMap.below {w w' : World} {b n : Nat} {f : Bytes → Nat} (h : NatMap w b n f) (hb : Below w.heap.size w w') : NatMap w' b n f := by
  have hlt := h.lt
  obtain ⟨D, ⟨es, clock, h1, r⟩, r2⟩ := h
  exact ⟨D, ⟨es, clock, (hb.block b hlt).trans h1, r⟩, r2⟩

/-- m[k] -/
theorem wpList_look {w : World} {ops : Array Oper} {rest : List Oper} {o : Oper} {a : Act} {Q : Exit → Act → World → Prop}
    (hg : o.guard = none) (m x : Operand) (hop : o.op = Op.lookup 104 m x false) (b n : Nat) (f : Bytes → Nat)
    (hm : a.eval m = .map (some b)) (h : NatMap w b n f) (kb : Bytes) (hx : a.eval x = S kb) (hkb : kb.length ≤ 1000000000)
    (hK : wpList Try.prog ops Q rest (a.put o.dst (I (f kb))) w) : wpList Try.prog ops Q (o :: rest) a w := by
  obtain ⟨D, ho, _, hr⟩ := h
  refine wpList_lookup_own_int w hg m x _ hop 9 3 .i64 keyedS Try.underlying104 Try.underlying3 (zero_int w) b n D hm ho _ _ hx (keyS hkb) ?_
  intro c hat _
  rw [hr kb] at hat
  injection hat with hat; injection hat with _ hat
  subst hat
  exact hK

/-- m[k] = v -/
theorem wpList_put {w : World} {ops : Array Oper} {rest : List Oper} {o : Oper} {a : Act} {Q : Exit → Act → World → Prop}
    (hg : o.guard = none) (m x v : Operand) (hop : o.op = Op.mapUpdate 104 m x v) (b n : Nat) (f : Bytes → Nat)
    (hm : a.eval m = .map (some b)) (h : NatMap w b n f) (kb : Bytes) (hx : a.eval x = S kb) (hkb : kb.length ≤ 1000000000) (c : Nat) (x' : Int) (hv : a.eval v = .int .i64 x') (hxc : x' = c) (hc : c ≤ 1000000000) (hn : n ≤ 1000000000)
    (hK : ∀ w', NatMap w' b (n + 1) (fun q => if q = kb then c else f q) → w.grownBy w' (some b) → wpList Try.prog ops Q rest (a.put o.dst undef) w') : wpList Try.prog ops Q (o :: rest) a w := by
  subst hxc
  obtain ⟨D, ho, hD, hr⟩ := h
  have hwf : (Lit.int .i64 (c : Int)).wf = true := WalkArith.wf_i64 ⟨by omega, by omega⟩
  refine wpList_mapUpdate_own w hg m x v _ hop 9 3 keyedS Try.underlying104 (plainElem Try.prog 3) b n D hm ho (by unfold maxLen; omega) _ _ _ hx hv (keyS hkb) _ [] (plainElem_int Try.underlying3 hwf) ?_
  intro w' h1 h2
  refine hK w' ⟨_, h1, hD.put _ _, fun q => ?_⟩ h2
  show (D.put (.string kb) (.lit (.int .i64 c))).atKey (.string q) (.lit (.int .i64 0)) = .lit (.int .i64 ((if q = kb then c else f q : Nat) : Int))
  by_cases hq : q = kb
  · rw [if_pos hq, hq, atKey_put_same hD (keyedS.key (keyS hkb))]
  · rw [if_neg hq, atKey_put_other (by intro e; injection e with e; exact hq e)]
    exact hr q

set_option maxRecDepth 100000 in
/-- the step of a range over such a map -/
theorem wpList_next_nat {w : World} {ops : Array Oper} {rest : List Oper} {o : Oper} {a : Act} {Q : Exit → Act → World → Prop}
    (hg : o.guard = none) (it : Operand) (hop : o.op = Op.next it false) (b r n : Nat) (D : DataW Unit) (f : Bytes → Nat) (hr : ∀ kb : Bytes, D.atKey (.string kb) (.lit (.int .i64 0)) = .lit (.int .i64 (f kb)))
    (left : Lit → Bool) (cnt : Nat) (hit : a.eval it = .pointer (some ⟨r, 0, none⟩)) (h : w.ranges Try.prog 9 (plainElem Try.prog 3) b r n D left cnt)
    (hDone : cnt = 0 → (∀ kl, left kl = false) → wpList Try.prog ops Q rest (a.put o.dst (.tuple #[.bool false])) w)
    (hMore : ∀ (kb : Bytes) (w' : World) (cnt' : Nat), left (.string kb) = true → w'.ranges Try.prog 9 (plainElem Try.prog 3) b r n D (fun z => left z && !z.sameKey (.string kb)) cnt' → cnt' < cnt →
      w.grownBy w' (some r) → w'.heap.size = w.heap.size → (Instr.entry (.pointer (some ⟨r, 0, none⟩))).run Try.prog w' = .ok (.tuple #[S kb, I (f kb)]) w' → wpList Try.prog ops Q rest (a.put o.dst (.tuple #[.bool true, S kb, I (f kb)])) w') :
    wpList Try.prog ops Q (o :: rest) a w := by
  refine wpList_next_ranges w hg it hop 9 keyedS (plainElem Try.prog 3) Value.string (Value.int .i64) (fun key kl hk => ?_) (fun v y hv => ?_) b r n D left cnt hit h hDone ?_
  · obtain ⟨s, hs, _⟩ := WideMaps.string_of_keyOf Try.underlying9 hk
    exact ⟨s, hs⟩
  · obtain ⟨c, hc, _⟩ := plainElem_int_inv Try.underlying3 hv
    exact ⟨c, hc⟩
  · intro s c kl y w' cnt' hkey hlk hv hat hrg hlt hgr hsz hen
    obtain ⟨s', hs, hkl, _⟩ := WideMaps.string_of_keyOf Try.underlying9 hkey
    injection hs with hs
    subst hs
    subst hkl
    obtain ⟨c', hc, hy, _⟩ := plainElem_int_inv Try.underlying3 hv
    injection hc with _ hc
    subst hc
    have hcf : c = (f s.data.toList : Nat) := by
      have h1 := (hr s.data.toList).symm.trans (hat (.lit (.int .i64 0)))
      rw [hy] at h1
      exact (Lit.int.inj (DataW.lit.inj h1)).2.symm
    subst hcf
    have hss : (Value.string s) = S s.data.toList := by simp
    rw [hss] at hen ⊢
    exact hMore _ w' cnt' hlk hrg hlt hgr hsz hen

theorem size_le {w : World} {b n : Nat} {D : DataW Unit} (h : w.ownsMap Try.prog 9 (plainElem Try.prog 3) b n D) : Go.Maps.size D ≤ n := by
  obtain ⟨es, clock, hb, F, hs, rfl⟩ := h
  simpa [Go.Maps.size, length_sorted] using hs

end Go.Proofs.Ytgfkkjcnnecefaa
