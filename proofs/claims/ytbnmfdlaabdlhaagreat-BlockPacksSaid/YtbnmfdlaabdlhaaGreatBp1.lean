/- The row's last step where the walk says 'Below' alone. -/
import Derived.Test.YtbnmfdlaabdlhaaGreatRows
import Derived.Below
import Derived.ChangeSame
import Derived.ProofKit
import Derived.OpenShut
import Derived.ShutString
import Derived.SizedLaws
import Derived.Test.YtbnmfdlaabdlhaaGreatProg
import Derived.WalkKit
import Derived.WalkSpells
import Derived.WalkLawsBesides
import Derived.Lib.Hide
import Derived.Deep.Draws
import Derived.Laws.OwnMore
import Derived.Laws.IdiomStrings
import Derived.Lib.BufferRead
import Derived.Maps.AppendAt
import Derived.Laws.BitsAllLaws
import Derived.Laws.BitsLemmas
import Derived.Lib.AppendStr
import Derived.Lib.FrozenHead
import Derived.RegionTactic
import Derived.Deep.QuietTactic
import Derived.BigQuiet
import Derived.Deep.RegionHeld3
import Derived.Deep.RegionLaw
import Derived.Deep.AppendLies
import Derived.Deep.DeepCutAuto

namespace Go.Proofs.YtbnmfdlaabdlhaaGreat
open Go.RowKit Go.WideShapes Go.ChangeShapes Go.ChangeAt

theorem Tryz.own : ownKnob Tryz.prog.godebug = none := by kernel_rfl
theorem Tryz.laidOut : laidOutB Tryz.prog = true := by kernel_rfl

section
variable {H : Type} {enc : TypeId × Value → H} {P : Program}
theorem post_of_below {f : Func} {s : ChangeSpec} {apart fresh handsOn again : Bool} {W W' : World} {args : Array Value} {v : Value} {ds gs : List (DataW H)} {before pa pv : List MemPlace}
    (hW : DataW.Whole enc P f.params.toList s.vars apart W args.toList ds gs before)
    (hres : ∀ (b : Nat) (sp : Nat → Bool) (hd : Bool), DataW.TrodAll enc P W' b sp hd f.resultTypes.toList (v.resultList f.resultTypes.size) (s.fn H (ds ++ gs)).results [])
    (hargs : ∀ sp : Nat → Bool, (∀ p ∈ before, sp p.block = true) → DataW.TrodAll enc P W' 0 sp true f.params.toList args.toList (s.fn H (ds ++ gs)).args pa)
    (hvars : ∀ sp : Nat → Bool, (∀ p ∈ before, sp p.block = true) → DataW.TrodVars enc P W' sp s.vars (s.fn H (ds ++ gs)).vars pv)
    (hps : before = pa ++ pv) (hb : Below W.heap.size W W')
    (hok : ∀ (j : Nat) (t : TypeId) (r : Value), f.resultTypes[j]? = some t → (v.resultList f.resultTypes.size)[j]? = some r → Value.okWide P W' .any 0 t r) :
    s.post enc P f apart fresh handsOn again W args v W' := by
  have hlt : ∀ p ∈ before, p.block < W.heap.size := fun p hp => hW.lt p hp
  have hold : ∀ p ∈ before, (fun b => decide (b < W.heap.size)) p.block = true := fun p hp => by simpa using hlt p hp
  refine ⟨ds, gs, before, [], pa, pv, hW, hres _ _ _, hargs _ hold, hvars _ hold, World.keptBut_mono (fun p hp => ⟨hp, ?_⟩) (hb.frame (· ∈ before)), fun _ => ?_⟩
  · rw [hps, List.mem_append] at hp
    exact Or.inr hp
  · obtain ⟨_, _, _, _, _, hz, hn⟩ := hW
    refine ⟨hok, _, _, ([] ++ pa) ++ pv, ⟨[] ++ pa, pv, trodAll_append (hargs _ (fun _ _ => rfl)) (hres _ _ _), hvars _ (fun _ _ => rfl), rfl, ?_, ?_⟩, ?_⟩
    · intro b off hp
      have hin : MemPlace.cell b off ∈ before := by rw [hps]; simpa using hp
      rw [hb.frozen (hlt _ hin)]
      exact hz b off hin
    · intro ha
      have := hn ha
      rw [hps] at this
      simpa using this
    · intro p hp _
      rw [hps]
      simpa using hp
end
end Go.Proofs.YtbnmfdlaabdlhaaGreat

/- Plain mathematics of chapter 1: numbers as bytes. No program in sight. -/
namespace Go.Proofs.YtbnmfdlaabdlhaaGreat
namespace Pl

abbrev Bytes := List UInt8

/-- w[a:b] -/
def slice (w : Bytes) (a b : Nat) : Bytes := (w.take b).drop a
theorem slice_len (w : Bytes) (a b : Nat) : (slice w a b).length = min b w.length - a := by simp [slice]
theorem slice_end (w : Bytes) (a : Nat) : slice w a w.length = w.drop a := by simp [slice]
theorem slice_head (w : Bytes) (b : Nat) : slice w 0 b = w.take b := by simp [slice]

def nbF : Nat → Nat → Bytes
  | 0, n => [UInt8.ofNat n]
  | f + 1, n => if n < 128 then [UInt8.ofNat n] else UInt8.ofNat (128 + n % 128) :: nbF f (n / 128)
/-- the bytes of a number -/
def nb (n : Nat) : Bytes := nbF n n

theorem nbF_more : ∀ (f g n : Nat), n ≤ f → n ≤ g → nbF f n = nbF g n
  | 0, 0, _, _, _ => rfl
  | 0, g + 1, n, h, _ => by
    have : n = 0 := by omega
    subst this; simp [nbF]
  | f + 1, 0, n, _, h => by
    have : n = 0 := by omega
    subst this; simp [nbF]
  | f + 1, g + 1, n, hf, hg => by
    unfold nbF
    by_cases h : n < 128
    · simp [h]
    · simp only [h, if_false]
      rw [nbF_more f g (n / 128) (by omega) (by omega)]

theorem nb_small {n : Nat} (h : n < 128) : nb n = [UInt8.ofNat n] := by
  unfold nb
  cases n with
  | zero => rfl
  | succ k => unfold nbF; simp [h]
theorem nb_big {n : Nat} (h : 128 ≤ n) : nb n = UInt8.ofNat (128 + n % 128) :: nb (n / 128) := by
  unfold nb
  obtain ⟨k, rfl⟩ : ∃ k, n = k + 1 := ⟨n - 1, by omega⟩
  rw [nbF, if_neg (by omega)]
  rw [nbF_more k ((k + 1) / 128) _ (by omega) (Nat.le_refl _)]

theorem nb_ne (n : Nat) : nb n ≠ [] := by
  by_cases h : n < 128
  · rw [nb_small h]; simp
  · rw [nb_big (by omega)]; simp

theorem nb_len (k : Nat) : ∀ n, n < 128 ^ (k + 1) → (nb n).length ≤ k + 1 := by
  induction k with
  | zero => intro n h; rw [nb_small (by simpa using h)]; simp
  | succ k ih =>
    intro n h
    by_cases h1 : n < 128
    · rw [nb_small h1]; simp
    · rw [nb_big (by omega)]
      have := ih (n / 128) (by rw [Nat.div_lt_iff_lt_mul (by omega)]; rw [← Nat.pow_succ]; exact h)
      simp; omega

theorem nb_pos (n : Nat) : 1 ≤ (nb n).length := by
  have := nb_ne n
  have h : (nb n).length ≠ 0 := by simpa using this
  omega

def maxNum : Nat := 2147483647

/-- the number that bytes begin with; what is behind it -/
def takeF : Nat → Nat → Nat → Bytes → Option (Nat × Bytes)
  | 0, _, _, _ => none
  | _ + 1, _, _, [] => none
  | f + 1, i, n, c :: rest =>
    if 128 ≤ c.toNat then takeF f (i + 1) (n + (c.toNat % 128) * 128 ^ i) rest
    else if (0 < i ∧ c.toNat = 0) ∨ maxNum < n + (c.toNat % 128) * 128 ^ i then none
    else some (n + (c.toNat % 128) * 128 ^ i, rest)
def take (s : Bytes) : Option (Nat × Bytes) := takeF 5 0 0 s

theorem takeF_nb (f : Nat) : ∀ (i acc n : Nat) (rest : Bytes), n < 128 ^ (f + 1) → acc + n * 128 ^ i ≤ maxNum → (0 < i → 0 < n) →
    takeF (f + 1) i acc (nb n ++ rest) = some (acc + n * 128 ^ i, rest) := by
  have small : ∀ (f i acc n : Nat) (rest : Bytes), n < 128 → acc + n * 128 ^ i ≤ maxNum → (0 < i → 0 < n) →
      takeF (f + 1) i acc (nb n ++ rest) = some (acc + n * 128 ^ i, rest) := by
    intro f i acc n rest h1 hm hi
    rw [nb_small h1]
    have e : (UInt8.ofNat n).toNat = n := by simp [UInt8.toNat_ofNat']; omega
    have e2 : n % 128 = n := Nat.mod_eq_of_lt h1
    simp only [List.cons_append, List.nil_append, takeF, e, e2]
    rw [if_neg (by omega), if_neg]
    rintro (⟨h2, h3⟩ | h2)
    · have := hi h2; omega
    · omega
  induction f with
  | zero => intro i acc n rest h hm hi; exact small 0 i acc n rest (by simpa using h) hm hi
  | succ f ih =>
    intro i acc n rest h hm hi
    by_cases h1 : n < 128
    · exact small _ i acc n rest h1 hm hi
    · rw [nb_big (by omega)]
      have e : (UInt8.ofNat (128 + n % 128)).toNat = 128 + n % 128 := by simp [UInt8.toNat_ofNat']; omega
      have e2 : (128 + n % 128) % 128 = n % 128 := by omega
      have hp : 0 < 128 ^ i := Nat.pow_pos (by omega)
      rw [List.cons_append, takeF]
      simp only [e, e2]
      rw [if_pos (by omega)]
      have key : acc + n % 128 * 128 ^ i + n / 128 * 128 ^ (i + 1) = acc + n * 128 ^ i := by
        have := Nat.mod_add_div n 128
        rw [Nat.pow_succ]
        calc acc + n % 128 * 128 ^ i + n / 128 * (128 ^ i * 128) = acc + (n % 128 + 128 * (n / 128)) * 128 ^ i := by
              rw [Nat.add_mul, Nat.mul_comm 128 (n / 128), Nat.mul_assoc, Nat.mul_comm 128 (128 ^ i)]; omega
          _ = _ := by rw [this]
      rw [ih (i + 1) _ (n / 128) rest (by rw [Nat.div_lt_iff_lt_mul (by omega), ← Nat.pow_succ]; exact h) (by omega) (by omega), key]

/-- Take of Put, with whatever behind, is the number, and that. -/
theorem take_nb {n : Nat} (h : n ≤ maxNum) (rest : Bytes) : take (nb n ++ rest) = some (n, rest) := by
  unfold maxNum at h
  have := takeF_nb 4 0 0 n rest (by omega) (by unfold maxNum; omega) (by omega)
  simpa [take] using this

/-- What is taken is what was put. -/
theorem takeF_some : ∀ (f i acc : Nat) (s : Bytes) (k : Nat) (rest : Bytes), takeF f i acc s = some (k, rest) →
    ∃ n, k = acc + n * 128 ^ i ∧ s = nb n ++ rest ∧ k ≤ maxNum ∧ (0 < i → 0 < n)
  | 0, _, _, _, _, _, h => by simp [takeF] at h
  | f + 1, _, _, [], _, _, h => by simp [takeF] at h
  | f + 1, i, acc, c :: t, k, rest, h => by
    have hc := c.toNat_lt
    by_cases h1 : 128 ≤ c.toNat
    · rw [takeF, if_pos h1] at h
      obtain ⟨n, hk, hs, hm, hn⟩ := takeF_some f (i + 1) _ t k rest h
      have hn := hn (by omega)
      refine ⟨c.toNat % 128 + 128 * n, ?_, ?_, hm, by omega⟩
      · rw [hk, Nat.add_mul, Nat.pow_succ, Nat.mul_comm 128 n, Nat.mul_assoc, Nat.mul_comm 128 (128 ^ i)]; omega
      · rw [nb_big (by omega)]
        have e1 : (c.toNat % 128 + 128 * n) % 128 = c.toNat % 128 := by omega
        have e2 : (c.toNat % 128 + 128 * n) / 128 = n := by omega
        rw [e1, e2, hs]
        have : UInt8.ofNat (128 + c.toNat % 128) = c := by
          apply UInt8.toNat_inj.1; simp [UInt8.toNat_ofNat']; omega
        rw [this]; rfl
    · rw [takeF, if_neg h1] at h
      by_cases h2 : (0 < i ∧ c.toNat = 0) ∨ maxNum < acc + c.toNat % 128 * 128 ^ i
      · rw [if_pos h2] at h; simp at h
      · rw [if_neg h2] at h
        simp only [Option.some.injEq, Prod.mk.injEq] at h
        obtain ⟨rfl, rfl⟩ := h
        have e : c.toNat % 128 = c.toNat := by omega
        refine ⟨c.toNat, by rw [e], ?_, by omega, by omega⟩
        rw [nb_small (by omega)]
        have : UInt8.ofNat c.toNat = c := by apply UInt8.toNat_inj.1; simp
        rw [this]; rfl

theorem take_some {s : Bytes} {k : Nat} {rest : Bytes} (h : take s = some (k, rest)) : s = nb k ++ rest ∧ k ≤ maxNum := by
  obtain ⟨n, hk, hs, hm, _⟩ := takeF_some 5 0 0 s k rest h
  simp at hk; subst hk; exact ⟨hs, hm⟩

theorem nb_inj {a b : Nat} (ha : a ≤ maxNum) (hb : b ≤ maxNum) {x y : Bytes} (h : nb a ++ x = nb b ++ y) : a = b ∧ x = y := by
  have h1 := take_nb ha x
  rw [h, take_nb hb y] at h1
  simp at h1; exact ⟨h1.1.symm, h1.2.symm⟩

/-- what k bytes of a number's, all of them 128 at least, say of the rest -/
def Canon (l : Bytes) (k acc : Nat) : Prop := ∀ n, 0 < n ∨ k = 0 → nb (acc + n * 128 ^ k) = l.take k ++ nb n
theorem canon_zero (l : Bytes) : Canon l 0 0 := by intro n _; simp
theorem canon_step {l : Bytes} {k acc : Nat} {c : UInt8} {t : Bytes} (h : Canon l k acc) (hd : l.drop k = c :: t) (hc : 128 ≤ c.toNat) : Canon l (k + 1) (acc + c.toNat % 128 * 128 ^ k) := by
  intro n hn
  have hn : 0 < n := by omega
  have hcl := c.toNat_lt
  have e : acc + c.toNat % 128 * 128 ^ k + n * 128 ^ (k + 1) = acc + (c.toNat % 128 + 128 * n) * 128 ^ k := by
    rw [Nat.pow_succ, Nat.add_mul, Nat.mul_comm 128 n, Nat.mul_assoc, Nat.mul_comm 128 (128 ^ k)]; omega
  rw [e, h _ (.inl (by omega)), nb_big (by omega)]
  have e1 : (c.toNat % 128 + 128 * n) % 128 = c.toNat % 128 := by omega
  have e2 : (c.toNat % 128 + 128 * n) / 128 = n := by omega
  have e3 : UInt8.ofNat (128 + c.toNat % 128) = c := by
    apply UInt8.toNat_inj.1; simp [UInt8.toNat_ofNat']; omega
  have hlk : l[k]? = some c := by
    have := congrArg (fun z : Bytes => z[0]?) hd
    simpa using this
  rw [e1, e2, e3, List.take_add_one, hlk]; simp
theorem canon_end {l : Bytes} {k acc : Nat} {c : UInt8} {t : Bytes} (h : Canon l k acc) (hd : l.drop k = c :: t) (hc : c.toNat < 128) (ha : acc < 128 ^ k) :
    (nb (acc + c.toNat % 128 * 128 ^ k) = l.take (k + 1)) ↔ ¬ (0 < k ∧ c.toNat = 0) := by
  have hlk : l[k]? = some c := by
    have := congrArg (fun z : Bytes => z[0]?) hd
    simpa using this
  have hkl : k < l.length := by
    rcases Nat.lt_or_ge k l.length with h1 | h1
    · exact h1
    · rw [List.drop_of_length_le h1] at hd; cases hd
  have e : c.toNat % 128 = c.toNat := by omega
  rw [e]
  constructor
  · rintro h1 ⟨h2, h3⟩
    rw [h3, Nat.zero_mul, Nat.add_zero] at h1
    have h4 := congrArg List.length h1
    obtain ⟨j, rfl⟩ : ∃ j, k = j + 1 := ⟨k - 1, by omega⟩
    have h5 := nb_len j acc ha
    simp at h4; omega
  · intro h1
    rw [h _ (by omega), nb_small hc, List.take_add_one, hlk]
    have : UInt8.ofNat c.toNat = c := by apply UInt8.toNat_inj.1; simp
    simp [this]

/-- the sum of a text -/
def sumF : Nat → Bytes → Nat
  | _, [] => 0
  | i, c :: t => (i + 1) * c.toNat + sumF (i + 1) t
def sumOf (t : Bytes) : Nat := sumF 0 t % 65536

def maxText : Nat := 512
/-- a text with its size -/
def textB (t : Bytes) : Bytes := nb t.length ++ t
def takeText (s : Bytes) : Option (Bytes × Bytes) :=
  match take s with
  | none => none
  | some (n, rest) => if maxText < n ∨ rest.length < n then none else some (rest.take n, rest.drop n)

theorem takeText_bad {s : Bytes} {n : Nat} {r : Bytes} (h : take s = some (n, r)) (hb : 512 < n ∨ r.length < n) : takeText s = none := by
  unfold takeText; rw [h]; exact if_pos hb
theorem takeText_good {s : Bytes} {n : Nat} {r : Bytes} (h : take s = some (n, r)) (hb : ¬ (512 < n ∨ r.length < n)) : takeText s = some (slice r 0 n, slice r n r.length) := by
  unfold takeText; rw [h, slice_head, slice_end]; exact if_neg hb
theorem takeText_none {s : Bytes} (h : take s = none) : takeText s = none := by
  unfold takeText; rw [h]
theorem takeText_textB {t : Bytes} (h : t.length ≤ maxText) (rest : Bytes) : takeText (textB t ++ rest) = some (t, rest) := by
  unfold takeText textB
  rw [List.append_assoc, take_nb (by unfold maxText at h; unfold maxNum; omega)]
  simp; omega
theorem takeText_some {s t rest : Bytes} (h : takeText s = some (t, rest)) : s = textB t ++ rest ∧ t.length ≤ maxText := by
  unfold takeText at h
  cases hk : take s with
  | none => rw [hk] at h; simp at h
  | some p =>
    obtain ⟨n, r⟩ := p
    rw [hk] at h
    simp only at h
    by_cases h2 : maxText < n ∨ r.length < n
    · rw [if_pos h2] at h; simp at h
    · rw [if_neg h2] at h
      simp only [Option.some.injEq, Prod.mk.injEq] at h
      obtain ⟨rfl, rfl⟩ := h
      obtain ⟨hs, _⟩ := take_some hk
      have hl : (r.take n).length = n := by simp; omega
      refine ⟨?_, by omega⟩
      unfold textB
      rw [hl, List.append_assoc, List.take_append_drop]; exact hs

end Pl
end Go.Proofs.YtbnmfdlaabdlhaaGreat

/- Small words for the walks: lists read as strings; hiding; one element appended; bits. -/
namespace Go.Proofs.YtbnmfdlaabdlhaaGreat
open Go.RowKit Go.Lib

/-- a string, as a list of bytes -/
abbrev S (l : List UInt8) : Value := .string ⟨l.toArray⟩
abbrev I (n : Int) : Value := .int .i64 n
abbrev B (b : UInt8) : Value := .int .u8 b.toNat

/-- a contract, said from the world in which the caller began -/
theorem acc {P : Program} {f : FuncId} {args : Array Value} {w0 W : World} {v : Value} (h : Calls P f args W fun e w' => e = .returned v ∧ Below W.heap.size W w') (hb : Below w0.heap.size w0 W) :
    Calls P f args W fun e w' => e = .returned v ∧ Below w0.heap.size w0 w' :=
  h.mono fun _ _ ⟨he, h1⟩ => ⟨he, hb.trans (h1.mono hb.size)⟩
theorem still {P : Program} {f : FuncId} {args : Array Value} {W : World} {v : Value} (h : Calls P f args W fun e w' => e = .returned v ∧ W = w') :
    Calls P f args W fun e w' => e = .returned v ∧ Below W.heap.size W w' :=
  h.mono fun _ _ ⟨he, h1⟩ => ⟨he, by subst h1; exact Below.refl _ _⟩

theorem hide {p : Prop} (h : p) : Hid p := h
theorem unhide {p : Prop} (h : Hid p) : p := h

theorem info_u8 : (Tryz.prog.info? 5).map (fun i => (i.zero, i.size, i.bytes)) = some (some (.int .u8 0), 1, 1) := by kernel_rfl

theorem ext_list (l : List UInt8) (a b : Nat) : (⟨l.toArray⟩ : ByteArray).extract a b = ⟨(Pl.slice l a b).toArray⟩ := by
  apply ByteArray.ext
  simp [Pl.slice, ByteArray.data_extract, List.extract_toArray, List.extract_eq_take_drop, List.drop_take]

theorem app_list (a b : List UInt8) : (⟨a.toArray⟩ : ByteArray) ++ (⟨b.toArray⟩ : ByteArray) = ⟨(a ++ b).toArray⟩ := by
  apply ByteArray.ext; simp

/-- append(v, x) of one element of one cell -/
theorem wpList_push {P : Program} {w : World} {ops : Array Oper} {rest : List Oper} {o : Oper} {a : Act} {Q : Exit → Act → World → Prop} (hgd : o.guard = none) (s x : Operand) (t : TypeId)
    (ho : o.op = .call { callee := .builtin .append, args := #[s, x], argTypes := #[t, t] })
    (base : Nat) (e : TypeId) (i : TypeInfo) (z : Value) (bytes : Nat) (ht : P.underlying t = some (.slice e)) (hi : P.info? e = some i) (hz : i.zero = some z)
    (hsize : i.size = 1) (hby : i.bytes = bytes) (hzs : z.cells.size = 1)
    (v : Value) (n : Nat) (xs : List Value) (hs : a.eval s = v) (hown : w.ownsRow base e 1 v n xs) (u : Value) (te : TypeId)
    (hx : a.eval x = .slice (some ⟨w.heap.size, 0, none⟩) 1 1) (h1 : u.oneCell' = true)
    (h63 : n + 1 ≤ maxLen) (hbytes : (n + 1) * bytes ≤ 140737488355328) (hbase : base ≤ w.heap.size)
    (h : ∀ v' w', w'.ownsRow base e 1 v' (n + 1) (xs ++ [u]) → Below base w w' → (w.alloc (.cells #[u] te)).grownBy w' v.ownBlock → wpList P ops Q rest (a.put o.dst v') w') :
    wpList P ops Q (o :: rest) a (w.alloc (.cells #[u] te)) := by
  refine wpList_append_own _ hgd s x t ho base e i z 1 bytes ht hi hz hsize hby hzs (by decide) v n xs hs (hown.alloc _) ⟨w.heap.size, 0, none⟩ 1 1 [u] hx rfl (cell_one_new _ _ _) ?_ h63 hbytes ?_ ?_
  · intro y hy; simp at hy; subst hy; exact h1
  · simp; omega
  · intro v' w' hown' hg _
    refine h v' w' hown' ?_ hg
    exact ((Below.refl _ _).alloc hbase _).grown hg (by simp; omega) (fun k hk => (hown.lt k hk).1)

/-- string(b) of a row of the call's own -/
theorem run_str_own {P : Program} {w : World} {base e : Nat} {v : Value} {n : Nat} {l : List UInt8} (h : w.ownsRow base e 1 v n (l.map B)) (src dst : TypeId)
    (hs : P.underlying src = some (.slice e)) (he : P.underlying e = some (.int .u8)) (hd : P.underlying dst = some .string) :
    (convert src dst v).run P w = .ok (S l) w := by
  have hn : l.length = n := by have := h.1; simpa using this
  rcases h.2 with ⟨rfl, h0⟩ | ⟨g, cap, cur, rfl, _⟩
  · subst h0
    have : l = [] := List.eq_nil_of_length_eq_zero hn
    subst this
    exact run_convert_nil_bytes w src dst e 0 hs he hd
  · subst hn
    refine run_convert_bytes_back w src dst e _ cap l hs he hd ?_
    intro j hj
    refine h.cells (g := g) rfl j _ ?_
    simp [hj]

/-- what was appended, read as a byte -/
theorem own_byte {w : World} {base e : Nat} {v : Value} {n : Nat} {l : List UInt8} {x : Int} (b : UInt8) (h : w.ownsRow base e 1 v n (l.map B ++ [.int .u8 x])) (hb : (b.toNat : Int) = x) :
    w.ownsRow base e 1 v n ((l ++ [b]).map B) := by
  subst hb; simpa using h
theorem byte_of (k : Nat) (h : k < 256) : ∃ b : UInt8, b = UInt8.ofNat k ∧ (b.toNat : Int) = k := ⟨_, rfl, by simp [UInt8.toNat_ofNat']; omega⟩
theorem ofNat_toNat {k : Nat} (h : k < 256) : ((UInt8.ofNat k).toNat : Int) = k := by
  simp [UInt8.toNat_ofNat']; omega

/-- string([]byte{x}) -/
theorem run_conv1 {P : Program} (w : World) (g : Nat) {x : Int} (b : UInt8) (hx : (b.toNat : Int) = x) (hc : w.cell? ⟨g, 0, none⟩ = some (.int .u8 x)) (src dst e : TypeId)
    (hs : P.underlying src = some (.slice e)) (he : P.underlying e = some (.int .u8)) (hd : P.underlying dst = some .string) :
    (convert src dst (.slice (some ⟨g, 0, none⟩) 1 1)).run P w = .ok (S [b]) w := by
  subst hx
  refine run_convert_bytes_back w src dst e _ 1 [b] hs he hd ?_
  intro j hj
  have hj0 : j = 0 := by simp at hj; omega
  subst hj0
  simpa [Addr.add] using hc
theorem run_conv1_new {P : Program} (w : World) {x : Int} (b : UInt8) (hx : (b.toNat : Int) = x) (t src dst e : TypeId)
    (hs : P.underlying src = some (.slice e)) (he : P.underlying e = some (.int .u8)) (hd : P.underlying dst = some .string) :
    (convert src dst (.slice (some ⟨w.heap.size, 0, none⟩) 1 1)).run P (w.alloc (.cells #[.int .u8 x] t)) = .ok (S [b]) (w.alloc (.cells #[.int .u8 x] t)) :=
  run_conv1 _ _ b hx (by simp) src dst e hs he hd
theorem run_conv1_drew {P : Program} (w : World) {x : Int} (b : UInt8) (hx : (b.toNat : Int) = x) (t src dst e : TypeId)
    (hs : P.underlying src = some (.slice e)) (he : P.underlying e = some (.int .u8)) (hd : P.underlying dst = some .string) :
    (convert src dst (.slice (some ⟨w.heap.size, 0, none⟩) 1 1)).run P (w.alloc (.cells #[.int .u8 x] t)).drew = .ok (S [b]) (w.alloc (.cells #[.int .u8 x] t)).drew :=
  run_conv1 _ _ b hx (by show (w.alloc (.cells #[.int .u8 x] t)).cell? _ = _; simp) src dst e hs he hd
theorem run_conv1_later {P : Program} {w w' : World} {t : TypeId} {x : Int} (b : UInt8) (hx : (b.toNat : Int) = x) (hb : Below (w.alloc (.cells #[.int .u8 x] t)).heap.size (w.alloc (.cells #[.int .u8 x] t)) w') (src dst e : TypeId)
    (hs : P.underlying src = some (.slice e)) (he : P.underlying e = some (.int .u8)) (hd : P.underlying dst = some .string) :
    (convert src dst (.slice (some ⟨w.heap.size, 0, none⟩) 1 1)).run P w' = .ok (S [b]) w' :=
  run_conv1 _ _ b hx (cell_later hb (by simp)) src dst e hs he hd
theorem run_conv1_later_drew {P : Program} {w w' : World} {t : TypeId} {x : Int} (b : UInt8) (hx : (b.toNat : Int) = x) (hb : Below (w.alloc (.cells #[.int .u8 x] t)).drew.heap.size (w.alloc (.cells #[.int .u8 x] t)).drew w') (src dst e : TypeId)
    (hs : P.underlying src = some (.slice e)) (he : P.underlying e = some (.int .u8)) (hd : P.underlying dst = some .string) :
    (convert src dst (.slice (some ⟨w.heap.size, 0, none⟩) 1 1)).run P w' = .ok (S [b]) w' :=
  run_conv1 _ _ b hx (cell_later hb (by show (w.alloc (.cells #[.int .u8 x] t)).cell? _ = _; simp)) src dst e hs he hd

theorem or128 (x : Int) (h0 : 0 ≤ x) (h1 : x < 256) : bits .or .u8 x 128 = 128 + x % 128 := by
  have h : ∀ y : Fin 256, bits .or .u8 (y.val : Int) 128 = 128 + (y.val : Int) % 128 := by decide +kernel
  have := h ⟨x.toNat, by omega⟩
  have e : ((x.toNat : Nat) : Int) = x := by omega
  rw [e] at this; exact this

theorem and127 (c : UInt8) : bits .and .u8 (c.toNat : Int) 127 = ((c.toNat % 128 : Nat) : Int) := by
  have h : ∀ y : Fin 256, bits .and .u8 (y.val : Int) 127 = ((y.val % 128 : Nat) : Int) := by decide +kernel
  exact h ⟨c.toNat, c.toNat_lt⟩

theorem ofInt_i64 (a : Nat) (ha : a < 9223372036854775808) : (BitVec.ofInt 64 (a : Int)).toNat = a := by
  rw [BitVec.ofInt_natCast, BitVec.toNat_ofNat]; exact Nat.mod_eq_of_lt (by omega)
theorem i64_and_nat (a b : Nat) (ha : a < 9223372036854775808) (hb : b < 9223372036854775808) : bits .and .i64 (a : Int) (b : Int) = ((a &&& b : Nat) : Int) := by
  have hx : a &&& b < 2 ^ 63 := Nat.and_lt_two_pow _ (by omega)
  show IntKind.i64.wrap ((BitVec.ofInt 64 (a : Int) &&& BitVec.ofInt 64 (b : Int)).toNat : Int) = _
  rw [BitVec.toNat_and, ofInt_i64 a ha, ofInt_i64 b hb, IntKind.wrap_i64]
  omega
theorem i64_or_nat (a b : Nat) (ha : a < 9223372036854775808) (hb : b < 9223372036854775808) : bits .or .i64 (a : Int) (b : Int) = ((a ||| b : Nat) : Int) := by
  have hx : a ||| b < 2 ^ 63 := Nat.or_lt_two_pow (by omega) (by omega)
  show IntKind.i64.wrap ((BitVec.ofInt 64 (a : Int) ||| BitVec.ofInt 64 (b : Int)).toNat : Int) = _
  rw [BitVec.toNat_or, ofInt_i64 a ha, ofInt_i64 b hb, IntKind.wrap_i64]
  omega

/-- seven bits more -/
theorem or7 (acc x k : Nat) (ha : acc < 128 ^ k) (hx : x < 128) (hk : k < 5) : bits .or .i64 (acc : Int) (wrap64 ((x : Int) * 2 ^ (7 * k))) = ((acc + x * 128 ^ k : Nat) : Int) := by
  have e : (2 : Int) ^ (7 * k) = ((128 ^ k : Nat) : Int) := by
    have : (128 : Nat) ^ k = 2 ^ (7 * k) := by rw [Nat.pow_mul]
    rw [this]; norm_cast
  have hp : (128 : Nat) ^ k ≤ 128 ^ 4 := Nat.pow_le_pow_right (by omega) (by omega)
  have hm : x * 128 ^ k ≤ 127 * 128 ^ 4 := Nat.mul_le_mul (by omega) hp
  rw [e, ← Int.natCast_mul]
  have hw : wrap64 ((x * 128 ^ k : Nat) : Int) = ((x * 128 ^ k : Nat) : Int) := IntWalk.wrap64_in _ ⟨by omega, by omega⟩
  rw [hw, i64_or_nat _ _ (by omega) (by omega)]
  congr 1
  have e2 : x * 128 ^ k = x <<< (7 * k) := by
    rw [Nat.shiftLeft_eq]; congr 1; rw [Nat.pow_mul]
  rw [e2, Nat.or_comm, ← Nat.shiftLeft_add_eq_or_of_lt (by rw [Nat.pow_mul]; exact ha)]
  omega

end Go.Proofs.YtbnmfdlaabdlhaaGreat

/- A row of the call's own that may bear the run-time's mark behind its cells ('[]byte(s)'): append onto it, whether there is room or not. The laws are the library's own proofs, arm for arm, over a row whose frozen range touches no cell. -/
namespace Go.Proofs.YtbnmfdlaabdlhaaGreat
open Go.RowKit Go.Lib

/-- no cell below n is frozen -/
def Clear (fz : Nat × Nat) (n : Nat) : Prop := fz.2 ≤ fz.1 ∨ n ≤ fz.1

def OwnM (w : World) (base : Nat) (e : TypeId) (size : Nat) (v : Value) (n : Nat) (xs : List Value) : Prop :=
  xs.length = n * size ∧
  ((v = .slice none 0 0 ∧ n = 0) ∨
   ∃ g cap cur fz, v = .slice (some ⟨g, 0, none⟩) n cap ∧ base ≤ g ∧ w.heap[g]? = some (.cells cur e fz) ∧ Clear fz cur.size ∧ n ≤ cap ∧ cap ≤ maxLen ∧ cur.size = cap * size ∧ cur.toList.take (n * size) = xs)

section
variable {w : World} {base : Nat} {e : TypeId} {size : Nat} {v : Value} {n : Nat} {xs : List Value}

theorem OwnM.of (h : w.ownsRow base e size v n xs) : OwnM w base e size v n xs := by
  refine ⟨h.1, ?_⟩
  rcases h.2 with hn | ⟨g, cap, cur, hv, hb, hg, rest⟩
  · exact .inl hn
  · exact .inr ⟨g, cap, cur, (0, 0), hv, hb, hg, .inl (Nat.le_refl _), rest⟩
theorem OwnM.nil (w : World) (base : Nat) (e : TypeId) (size : Nat) : OwnM w base e size (.slice none 0 0) 0 [] := ⟨by simp, .inl ⟨rfl, rfl⟩⟩

theorem OwnM.form (h : OwnM w base e size v n xs) : ∃ A cap, v = .slice A n cap := by
  rcases h.2 with ⟨rfl, rfl⟩ | ⟨g, cap, cur, fz, rfl, _⟩
  · exact ⟨_, _, rfl⟩
  · exact ⟨_, _, rfl⟩

theorem OwnM.lt (h : OwnM w base e size v n xs) : ∀ k, v.ownBlock = some k → base ≤ k ∧ k < w.heap.size := by
  intro k hk
  rcases h.2 with ⟨rfl, _⟩ | ⟨g, cap, cur, fz, rfl, hb, hg, _⟩
  · simp [Value.ownBlock] at hk
  · simp [Value.ownBlock] at hk
    subst hk
    exact ⟨hb, (Array.getElem?_eq_some_iff.1 hg).1⟩

theorem OwnM.kept {w' : World} (h : OwnM w base e size v n xs) (hg : ∀ k, v.ownBlock = some k → w'.heap[k]? = w.heap[k]?) : OwnM w' base e size v n xs := by
  refine ⟨h.1, ?_⟩
  rcases h.2 with hn | ⟨g, cap, cur, fz, rfl, hb, hgg, rest⟩
  · exact .inl hn
  · exact .inr ⟨g, cap, cur, fz, rfl, hb, (hg g rfl).trans hgg, rest⟩
theorem OwnM.alloc (h : OwnM w base e size v n xs) (o : Obj) : OwnM (w.alloc o) base e size v n xs :=
  h.kept fun k hk => Below.heap_alloc w o k (h.lt k hk).2
theorem OwnM.drew (h : OwnM w base e size v n xs) : OwnM w.drew base e size v n xs := h
theorem OwnM.drewN (h : OwnM w base e size v n xs) (k : Nat) : OwnM (w.drewN k) base e size v n xs := h
theorem OwnM.mono {b : Nat} (h : OwnM w base e size v n xs) (hb : b ≤ base) : OwnM w b e size v n xs := by
  refine ⟨h.1, ?_⟩
  rcases h.2 with hn | ⟨g, cap, cur, fz, hv, hb', rest⟩
  · exact .inl hn
  · exact .inr ⟨g, cap, cur, fz, hv, Nat.le_trans hb hb', rest⟩
theorem OwnM.setCell (h : OwnM w base e size v n xs) {p : Addr} (hp : v.ownBlock ≠ some p.block) (u : Value) : OwnM (w.setCell p u) base e size v n xs :=
  h.kept fun k hk => Below.heap_setCell w p u k (fun e => hp (by rw [hk, e]))

theorem OwnM.cells (h : OwnM w base e size v n xs) {g : Nat} (hg : v.ownBlock = some g) : ∀ j u, xs[j]? = some u → w.cell? ((⟨g, 0, none⟩ : Addr).add j) = some u := by
  intro j u hu
  rcases h.2 with ⟨rfl, _⟩ | ⟨g', cap, cur, fz, rfl, _, hgg, _, _, _, _, htake⟩
  · simp [Value.ownBlock] at hg
  · simp [Value.ownBlock] at hg
    subst hg
    have hadd : (⟨g', 0, none⟩ : Addr).add j = ⟨g', j, none⟩ := by unfold Addr.add; split <;> simp_all
    rw [hadd, cell_of_row w g' j cur e fz hgg]
    rw [← htake, List.getElem?_take] at hu
    split at hu
    · simpa using hu
    · cases hu

/-- where the slice is not empty: its address, and a cell of it -/
theorem OwnM.at_ (h : OwnM w base e 1 v n xs) {k : Nat} (hk : k < n) : ∃ g cap u, v = .slice (some ⟨g, 0, none⟩) n cap ∧ base ≤ g ∧ xs[k]? = some u ∧ w.cell? ⟨g, k, none⟩ = some u := by
  have hx : k < xs.length := by have := h.1; omega
  rcases h.2 with ⟨_, rfl⟩ | ⟨g, cap, cur, fz, hv, hb, _⟩
  · omega
  · have hc := h.cells (g := g) (by rw [hv]; rfl) k _ (List.getElem?_eq_getElem hx)
    have hadd : (⟨g, 0, none⟩ : Addr).add k = ⟨g, k, none⟩ := by unfold Addr.add; split <;> simp_all
    rw [hadd] at hc
    exact ⟨g, cap, _, hv, hb, List.getElem?_eq_getElem hx, hc⟩
end

/-- '[]byte(s)' -/
theorem OwnM.bytes (w : World) (e : TypeId) (s : ByteArray) (base : Nat) (hb : base ≤ w.heap.size) (hs : s.size ≤ maxLen) :
    OwnM (w.drew.alloc (.cells (bytesRow s (grownCap w s.size 0 e)) e ((bytesRow s (grownCap w s.size 0 e)).size, (bytesRow s (grownCap w s.size 0 e)).size + 1))) base e 1
      (.slice (some ⟨w.heap.size, 0, none⟩) s.size (grownCap w s.size 0 e)) s.size (strCells s) := by
  have hge := grownCap_ge w s.size 0 e
  refine ⟨by rw [strCells_length]; omega, .inr ⟨w.heap.size, _, _, _, rfl, hb, heap_alloc_new w.drew _, .inr (Nat.le_refl _), hge, grownCap_le_maxLen w _ _ e hs, ?_, ?_⟩⟩
  · have hz : s.data.size = s.size := rfl
    simp [bytesRow, hz]; omega
  · have hz : s.data.size = s.size := rfl
    simp only [bytesRow, Array.toList_append, Nat.mul_one]
    rw [List.take_append_of_le_length (by simp [hz])]
    rw [List.take_of_length_le (by simp [hz])]
    simp [strCells]

theorem run_storeCells_atM (P : Program) (g o : Nat) (t : TypeId) (fz : Nat × Nat) : ∀ (vs : List Value) (i : Nat) (cur : Array Value) (w : World), w.heap[g]? = some (.cells cur t fz) → Clear fz cur.size → o + i + vs.length ≤ cur.size → (∀ v ∈ vs, v.oneCell' = true) →
    (storeCells ⟨g, o, none⟩ vs i).run P w = .ok () (w.setRow g (cur.toList.take (o + i) ++ vs ++ cur.toList.drop (o + i + vs.length)).toArray)
  | [], i, cur, w, hg, _, _, _ => by
    simp only [storeCells, List.append_nil, List.length_nil, Nat.add_zero, List.take_append_drop, Array.toArray_toList]
    rw [setRow_self w g cur t fz hg]
    rfl
  | v :: rest, i, cur, w, hg, hfz, hl, h1 => by
    have hi : o + i < cur.size := by simp at hl; omega
    have hadd : (⟨g, o, none⟩ : Addr).add i = ⟨g, o + i, none⟩ := by unfold Addr.add; split <;> simp_all
    have hcell : w.cell? ⟨g, o + i, none⟩ = some cur[o + i] := by simp [World.cell?, hg, hi]
    have hfro : w.frozen? ⟨g, o + i, none⟩ = false := by
      obtain ⟨lo, hi'⟩ := fz
      simp only [World.frozen?, hg, Bool.and_eq_false_iff, decide_eq_false_iff_not]
      unfold Clear at hfz
      simp only at hfz
      omega
    have hst : (store ((⟨g, o, none⟩ : Addr).add i) v).run P w = .ok () (w.setRow g (cur.setIfInBounds (o + i) v)) := by
      rw [hadd, run_store P w _ v _ (h1 v (by simp)), hcell]
      simp [hfro, setCell_eq_setRow w g (o + i) cur t fz v hg]
    have ih := run_storeCells_atM P g o t fz rest (i + 1) (cur.setIfInBounds (o + i) v) (w.setRow g (cur.setIfInBounds (o + i) v)) (setRow_heap w g cur _ t _ hg) (by simpa using hfz) (by simp at hl ⊢; omega) (fun x hx => h1 x (by simp [hx]))
    simp only [storeCells, Sem.run_bind, hst, Result.andThen_ok, ih, setRow_setRow]
    congr 3
    have e := list_seg_step cur.toList (o + i) v rest (by simp at hl ⊢; omega)
    simpa [Array.toList_setIfInBounds, Nat.add_assoc] using e

section
variable {P : Program} (w : World)

theorem run_append_roomM (t ty e : TypeId) (i : TypeInfo) (ht : P.underlying t = some (.slice e)) (hi : P.info? e = some i)
    (g sLen sCap : Nat) (cur : Array Value) (fz : Nat × Nat) (hg : w.heap[g]? = some (.cells cur e fz)) (hfz : Clear fz cur.size)
    (a : Addr) (m c : Nat) (news : List Value) (hl : news.length = m * i.size) (hnews : ∀ j u, news[j]? = some u → w.cell? (a.add j) = some u) (h1 : ∀ u ∈ news, u.oneCell' = true)
    (hroom : sLen + m ≤ sCap) (hfit : sLen * i.size + news.length ≤ cur.size) :
    (Builtin.append_ #[t, t] ty #[.slice (some ⟨g, 0, none⟩) sLen sCap, .slice (some a) m c]).run P w =
      .ok (.slice (some ⟨g, 0, none⟩) (sLen + m) sCap) (w.setRow g (cur.toList.take (sLen * i.size) ++ news ++ cur.toList.drop (sLen * i.size + news.length)).toArray) := by
  have hf := run_firstCells_some (P := P) w i.size m a m c news hl hnews
  have hst := run_storeCells_atM P g (sLen * i.size) e fz news 0 cur w hg hfz (by simpa using hfit) h1
  simp only [Nat.add_zero] at hst
  simp [Builtin.append_, run_underlying ht, sizeOf, typeInfo, hi, Builtin.lenOf, hroom, hf, Addr.add_lit, hst]

theorem run_append_roomM_string (t u ty e : TypeId) (i : TypeInfo) (ht : P.underlying t = some (.slice e)) (hu : P.underlying u = some .string) (hi : P.info? e = some i) (hs1 : i.size = 1)
    (g sLen sCap : Nat) (cur : Array Value) (fz : Nat × Nat) (hg : w.heap[g]? = some (.cells cur e fz)) (hfz : Clear fz cur.size) (s : ByteArray)
    (hroom : sLen + s.size ≤ sCap) (hfit : sLen + s.size ≤ cur.size) :
    (Builtin.append_ #[t, u] ty #[.slice (some ⟨g, 0, none⟩) sLen sCap, .string s]).run P w =
      .ok (.slice (some ⟨g, 0, none⟩) (sLen + s.size) sCap) (w.setRow g (cur.toList.take sLen ++ strCells s ++ cur.toList.drop (sLen + s.size)).toArray) := by
  have hf := run_firstCells_string (P := P) w 1 s
  have hst := run_storeCells_atM P g sLen e fz (strCells s) 0 cur w hg hfz (by simpa [strCells_length] using hfit) (strCells_oneCell s)
  simp only [Nat.add_zero, strCells_length] at hst
  simp [Builtin.append_, run_underlying ht, run_underlying hu, sizeOf, typeInfo, hi, hs1, Builtin.lenOf, hroom, hf, Addr.add_lit, hst]

/-- append(v, x...) -/
theorem run_append_M (base : Nat) (t ty e : TypeId) (i : TypeInfo) (z : Value) (size bytes : Nat) (ht : P.underlying t = some (.slice e)) (hi : P.info? e = some i) (hz : i.zero = some z)
    (hsize : i.size = size) (hby : i.bytes = bytes) (hzs : z.cells.size = size) (hsz : 0 < size)
    (v : Value) (n : Nat) (xs : List Value) (hown : OwnM w base e size v n xs)
    (a : Addr) (m c : Nat) (news : List Value) (hl : news.length = m * size) (hnews : ∀ j u, news[j]? = some u → w.cell? (a.add j) = some u) (h1 : ∀ u ∈ news, u.oneCell' = true)
    (h63 : n + m ≤ maxLen) (hbytes : (n + m) * bytes ≤ 140737488355328) (hbase : base ≤ w.heap.size) :
    ∃ v' w', (Builtin.append_ #[t, t] ty #[v, .slice (some a) m c]).run P w = .ok v' w' ∧ OwnM w' base e size v' (n + m) (xs ++ news) ∧ w.grownBy w' v.ownBlock ∧
      (v'.ownBlock = v.ownBlock ∨ v'.ownBlock = some w.heap.size) := by
  rcases hown.2 with ⟨rfl, rfl⟩ | ⟨g, cap, cur, fz, rfl, hbg, hg, hfz, hnc, hcm, hcs, htake⟩
  · obtain ⟨v', w', hr, h2, h3, _, h5⟩ := run_append_own_at (P := P) w base t ty e i z size bytes ht hi hz hsize hby hzs hsz (.slice none 0 0) 0 xs ⟨hown.1, .inl ⟨rfl, rfl⟩⟩ a m c news hl hnews h1 h63 hbytes hbase
    exact ⟨v', w', hr, OwnM.of h2, h3, h5⟩
  · subst hsize
    subst hby
    have hsmall : n + m ≤ 9223372036854775807 := by simp only [maxLen] at h63; omega
    have hlen : (xs ++ news).length = (n + m) * i.size := by rw [List.length_append, hown.1, hl, Nat.add_mul]
    by_cases hroom : n + m ≤ cap
    · have hfit : n * i.size + news.length ≤ cur.size := by rw [hl, hcs, ← Nat.add_mul]; exact Nat.mul_le_mul_right _ hroom
      have hr := run_append_roomM (P := P) w t ty e i ht hi g n cap cur fz hg hfz a m c news hl hnews h1 hroom hfit
      have hcs2 : (cur.toList.take (n * i.size) ++ news ++ cur.toList.drop (n * i.size + news.length)).toArray.size = cur.size := by
        simp only [List.size_toArray, List.length_append, List.length_take, List.length_drop, Array.length_toList]
        omega
      refine ⟨_, _, hr, ⟨hlen, .inr ⟨g, cap, _, fz, rfl, hbg, setRow_heap w g cur _ e _ hg, by rw [hcs2]; exact hfz, hroom, hcm, by rw [hcs2]; exact hcs, ?_⟩⟩, ⟨rfl, rfl, rfl, by simp, fun k _ hk => setRow_other w g k _ (fun e => hk (by simp [Value.ownBlock, e]))⟩, .inl rfl⟩
      rw [htake, ← hlen]
      exact List.take_left
    · have holds : ∀ j u, xs[j]? = some u → w.cell? ((⟨g, 0, none⟩ : Addr).add j) = some u := hown.cells (g := g) rfl
      have hr := run_append_grow (P := P) w t ty e i z ht hi hz ⟨g, 0, none⟩ n cap xs hown.1 holds a m c news hl hnews (by omega) (by omega) (growslice_fits (by omega) hbytes)
      have hge := grownCap_ge w (n + m) cap e
      have hcm2 : grownCap w (n + m) cap e ≤ maxLen := grownCap_le_maxLen w (n + m) cap e h63
      refine ⟨_, _, hr, ⟨hlen, .inr ⟨w.heap.size, _, _, (0, 0), rfl, hbase, heap_alloc_new w.drew _, .inl (Nat.le_refl _), hge, hcm2, ?_, ?_⟩⟩, ⟨rfl, rfl, rfl, by simp, fun k hk _ => Below.heap_alloc w.drew _ k hk⟩, .inr rfl⟩
      · simp only [Array.size_append, List.size_toArray, size_zeroCells, hzs, hown.1, hl, ← Nat.add_mul]
        congr 1
        omega
      · simp only [Array.toList_append, List.append_assoc]
        rw [← List.append_assoc, ← hlen]
        exact List.take_left

/-- append(v, s...), s a string -/
theorem run_append_M_string (base : Nat) (t u ty e : TypeId) (i : TypeInfo) (ht : P.underlying t = some (.slice e)) (hu : P.underlying u = some .string) (hi : P.info? e = some i) (hz : i.zero = some (.int .u8 0))
    (hsize : i.size = 1) (hby : i.bytes = 1)
    (v : Value) (n : Nat) (xs : List Value) (hown : OwnM w base e 1 v n xs) (s : ByteArray)
    (h63 : n + s.size ≤ maxLen) (hbytes : n + s.size ≤ 140737488355328) (hbase : base ≤ w.heap.size) :
    ∃ v' w', (Builtin.append_ #[t, u] ty #[v, .string s]).run P w = .ok v' w' ∧ OwnM w' base e 1 v' (n + s.size) (xs ++ strCells s) ∧ w.grownBy w' v.ownBlock ∧
      (v'.ownBlock = v.ownBlock ∨ v'.ownBlock = none ∨ ∃ g, v'.ownBlock = some g ∧ w.heap.size ≤ g) := by
  rcases hown.2 with ⟨rfl, rfl⟩ | ⟨g, cap, cur, fz, rfl, hbg, hg, hfz, hnc, hcm, hcs, htake⟩
  · obtain ⟨v', w', h1, h2, h3, _⟩ := run_append_own_string (P := P) w w.heap.size t u ty e i ht hu hi hz hsize hby (.slice none 0 0) 0 xs ⟨hown.1, .inl ⟨rfl, rfl⟩⟩ s h63 hbytes (Nat.le_refl _)
    refine ⟨v', w', h1, (OwnM.of h2).mono hbase, h3, .inr ?_⟩
    cases hv : v'.ownBlock with
    | none => exact .inl rfl
    | some g => exact .inr ⟨g, rfl, (h2.lt g hv).1⟩
  · have hsmall : n + s.size ≤ 9223372036854775807 := by simp only [maxLen] at h63; omega
    have hxl : xs.length = n := by simpa using hown.1
    have hlen : (xs ++ strCells s).length = (n + s.size) * 1 := by rw [List.length_append, hxl, strCells_length, Nat.mul_one]
    by_cases hroom : n + s.size ≤ cap
    · have hcs' : cur.size = cap := by simpa using hcs
      have hr := run_append_roomM_string (P := P) w t u ty e i ht hu hi hsize g n cap cur fz hg hfz s hroom (by omega)
      have hcs2 : (cur.toList.take n ++ strCells s ++ cur.toList.drop (n + s.size)).toArray.size = cur.size := by
        simp only [List.size_toArray, List.length_append, List.length_take, List.length_drop, Array.length_toList, strCells_length]
        omega
      refine ⟨_, _, hr, ⟨hlen, .inr ⟨g, cap, _, fz, rfl, hbg, setRow_heap w g cur _ e _ hg, by rw [hcs2]; exact hfz, hroom, hcm, by rw [hcs2]; exact hcs, ?_⟩⟩, ⟨rfl, rfl, rfl, by simp, fun k _ hk => setRow_other w g k _ (fun e => hk (by simp [Value.ownBlock, e]))⟩, .inl rfl⟩
      have ht' : cur.toList.take n = xs := by simpa using htake
      rw [ht', ← hlen]
      exact List.take_left
    · have holds : ∀ j u, xs[j]? = some u → w.cell? ((⟨g, 0, none⟩ : Addr).add j) = some u := hown.cells (g := g) rfl
      have hr := run_append_grow_string (P := P) w t u ty e i (.int .u8 0) ht hu hi hz ⟨g, 0, none⟩ n cap xs (by rw [hsize]; simpa using hxl) holds s (by omega) (by omega) (by rw [hby]; exact growslice_fits (by omega) (by omega))
      have hge := grownCap_ge w (n + s.size) cap e
      have hcm2 : grownCap w (n + s.size) cap e ≤ maxLen := grownCap_le_maxLen w (n + s.size) cap e h63
      refine ⟨_, _, hr, ⟨hlen, .inr ⟨w.heap.size, _, _, (0, 0), rfl, hbase, heap_alloc_new w.drew _, .inl (Nat.le_refl _), hge, hcm2, ?_, ?_⟩⟩, ⟨rfl, rfl, rfl, by simp, fun k hk _ => Below.heap_alloc w.drew _ k hk⟩, .inr (.inr ⟨_, rfl, Nat.le_refl _⟩)⟩
      · have hz1 : (Value.int IntKind.u8 0).cells.size = 1 := rfl
        simp only [Array.size_append, List.size_toArray, size_zeroCells, hz1, hxl, strCells_length]
        omega
      · simp only [Array.toList_append, List.append_assoc]
        rw [← List.append_assoc, ← hlen]
        exact List.take_left
end

section
variable {P : Program} {w : World}
/-- at the operation, for the walk: append(v, s...) -/
theorem wp_append_M_string {o : Oper} {a : Act} {K : Act → World → Prop} {Q : Exit → Act → World → Prop} (sl x : Operand) (t u : TypeId)
    (ho : o.op = .call { callee := .builtin .append, args := #[sl, x], argTypes := #[t, u] })
    (base : Nat) (e : TypeId) (i : TypeInfo) (ht : P.underlying t = some (.slice e)) (hu : P.underlying u = some .string) (hi : P.info? e = some i) (hz : i.zero = some (.int .u8 0))
    (hsize : i.size = 1) (hby : i.bytes = 1)
    (v : Value) (n : Nat) (xs : List Value) (hs : a.eval sl = v) (hown : OwnM w base e 1 v n xs) (s : ByteArray) (hx : a.eval x = .string s)
    (h63 : n + s.size ≤ maxLen) (hbytes : n + s.size ≤ 140737488355328) (hbase : base ≤ w.heap.size)
    (h : ∀ A' cap' w', OwnM w' base e 1 (.slice A' (n + s.size) cap') (n + s.size) (xs ++ strCells s) → w.grownBy w' v.ownBlock →
      (Value.ownBlock (.slice A' (n + s.size) cap') = v.ownBlock ∨ Value.ownBlock (.slice A' (n + s.size) cap') = none ∨ ∃ g, Value.ownBlock (.slice A' (n + s.size) cap') = some g ∧ w.heap.size ≤ g) → K (a.put o.dst (.slice A' (n + s.size) cap')) w') : o.wp P a w K Q := by
  obtain ⟨v', w', hr, h2, h3, h4⟩ := run_append_M_string (P := P) w base t u o.type e i ht hu hi hz hsize hby v n xs hown s h63 hbytes hbase
  unfold Oper.wp execOp
  simp only [ho, resolve, invoke, builtin, Sem.run_bind, Sem.run_pure, Result.andThen_ok, List.map_toArray, List.map_cons, List.map_nil, hs, hx, hr]
  rcases h2.2 with ⟨rfl, hn⟩ | ⟨g, cap, cur, fz, rfl, _⟩
  · have e1 : Value.slice none 0 0 = .slice none (n + s.size) 0 := by rw [hn]
    rw [e1] at h2 h4 ⊢
    exact h _ _ _ h2 h3 h4
  · exact h _ _ _ h2 h3 h4
theorem step_append_M_string {ops : Array Oper} {o : Oper} {a : Act} {K : Act → World → Prop} {Q : Exit → Act → World → Prop} {E : Prop} (hgd : o.guard = none) (sl x : Operand) (t u : TypeId)
    (ho : o.op = .call { callee := .builtin .append, args := #[sl, x], argTypes := #[t, u] })
    (base : Nat) (e : TypeId) (i : TypeInfo) (ht : P.underlying t = some (.slice e)) (hu : P.underlying u = some .string) (hi : P.info? e = some i) (hz : i.zero = some (.int .u8 0))
    (hsize : i.size = 1) (hby : i.bytes = 1)
    (v : Value) (n : Nat) (xs : List Value) (hs : a.eval sl = v) (hown : OwnM w base e 1 v n xs) (s : ByteArray) (hx : a.eval x = .string s)
    (h63 : n + s.size ≤ maxLen) (hbytes : n + s.size ≤ 140737488355328) (hbase : base ≤ w.heap.size)
    (h : ∀ A' cap' w', OwnM w' base e 1 (.slice A' (n + s.size) cap') (n + s.size) (xs ++ strCells s) → w.grownBy w' v.ownBlock →
      (Value.ownBlock (.slice A' (n + s.size) cap') = v.ownBlock ∨ Value.ownBlock (.slice A' (n + s.size) cap') = none ∨ ∃ g, Value.ownBlock (.slice A' (n + s.size) cap') = some g ∧ w.heap.size ≤ g) → K (a.put o.dst (.slice A' (n + s.size) cap')) w') :
    if Region.wanted o (yielded ops a.tmps) = true then Oper.wp P o a w K Q else E := by
  have hw : Region.wanted o (yielded ops a.tmps) = true := by simp [Region.wanted, hgd]
  rw [if_pos hw]
  exact wp_append_M_string sl x t u ho base e i ht hu hi hz hsize hby v n xs hs hown s hx h63 hbytes hbase h
/-- append(v, x) of one element of one cell, in a plain region -/
theorem wpList_push_M {ops : Array Oper} {rest : List Oper} {o : Oper} {a : Act} {Q : Exit → Act → World → Prop} (hgd : o.guard = none) (s x : Operand) (t : TypeId)
    (ho : o.op = .call { callee := .builtin .append, args := #[s, x], argTypes := #[t, t] })
    (base : Nat) (e : TypeId) (i : TypeInfo) (z : Value) (bytes : Nat) (ht : P.underlying t = some (.slice e)) (hi : P.info? e = some i) (hz : i.zero = some z)
    (hsize : i.size = 1) (hby : i.bytes = bytes) (hzs : z.cells.size = 1)
    (v : Value) (n : Nat) (xs : List Value) (hs : a.eval s = v) (u : Value) (te : TypeId) (hown : OwnM w base e 1 v n xs)
    (hx : a.eval x = .slice (some ⟨w.heap.size, 0, none⟩) 1 1) (h1 : u.oneCell' = true)
    (h63 : n + 1 ≤ maxLen) (hbytes : (n + 1) * bytes ≤ 140737488355328) (hbase : base ≤ w.heap.size)
    (h : ∀ g' cap' w', OwnM w' base e 1 (.slice (some ⟨g', 0, none⟩) (n + 1) cap') (n + 1) (xs ++ [u]) → (w.alloc (.cells #[u] te)).grownBy w' v.ownBlock →
      (some g' = v.ownBlock ∨ g' = w.heap.size + 1) → wpList P ops Q rest (a.put o.dst (.slice (some ⟨g', 0, none⟩) (n + 1) cap')) w') :
    wpList P ops Q (o :: rest) a (w.alloc (.cells #[u] te)) := by
  refine wpList_plain hgd fun K hK => ?_
  obtain ⟨v', w', hr, h2, h3, h4⟩ := run_append_M (P := P) (w.alloc (.cells #[u] te)) base t o.type e i z 1 bytes ht hi hz hsize hby hzs (by decide) v n xs (hown.alloc _) ⟨w.heap.size, 0, none⟩ 1 1 [u] rfl (cell_one_new _ _ _)
    (by intro y hy; simp at hy; subst hy; exact h1) h63 hbytes (by simp; omega)
  unfold Oper.wp execOp
  simp only [ho, resolve, invoke, builtin, Sem.run_bind, Sem.run_pure, Result.andThen_ok, List.map_toArray, List.map_cons, List.map_nil, hs, hx, hr]
  rcases h2.2 with ⟨_, hn⟩ | ⟨g, cap, cur, fz, rfl, _⟩
  · omega
  · refine hK _ _ (h _ _ _ h2 h3 ?_)
    rcases h4 with h4 | h4
    · exact .inl h4
    · right; simpa [Value.ownBlock] using h4
end

section
variable {P : Program} {w : World}
/-- string(b) of a slice without elements -/
theorem run_str_zero (w : World) (p : Option Addr) (c : Nat) (src dst e : TypeId) (hs : P.underlying src = some (.slice e)) (he : P.underlying e = some (.int .u8)) (hd : P.underlying dst = some .string) :
    (convert src dst (.slice p 0 c)).run P w = .ok (S []) w := by
  rw [run_convert_bytes_string w src dst e p 0 c hs he hd]
  cases p with
  | none => rw [← run_convert_bytes_string w src dst e none 0 c hs he hd]; exact run_convert_nil_bytes w src dst e c hs he hd
  | some a =>
    have hl := run_loadCells_list (P := P) w a [] (fun j v hj => by simp at hj)
    exact run_bytesToString w a 0 c [] hl
/-- string(b[k:]) of a row of the call's own, k below the capacity -/
theorem run_str_cut {base e : Nat} {A : Option Addr} {n cap k : Nat} {l : List UInt8} (h : OwnM w base e 1 (.slice A n cap) n (l.map B)) (src dst : TypeId)
    (hs : P.underlying src = some (.slice e)) (he : P.underlying e = some (.int .u8)) (hd : P.underlying dst = some .string) :
    (convert src dst (.slice (Option.map (fun x => x.add k) A) (n - k) (cap - k))).run P w = .ok (S (l.drop k)) w := by
  have hn : l.length = n := by have := h.1; simpa using this
  by_cases hk : n ≤ k
  · rw [show n - k = 0 from by omega, List.drop_of_length_le (by omega)]
    exact run_str_zero w _ _ src dst e hs he hd
  · rcases h.2 with ⟨hv, h0⟩ | ⟨g, cap', cur, fz, hv, _⟩
    · omega
    · injection hv with hA _ hc
      subst hA hc
      have hlen : (l.drop k).length = n - k := by rw [List.length_drop, hn]
      rw [← hlen]
      refine run_convert_bytes_back w src dst e _ _ (l.drop k) hs he hd ?_
      intro j hj
      have hkj : (l.map B)[k + j]? = some (B (l.drop k)[j]) := by
        rw [List.getElem?_map, ← List.getElem?_drop, List.getElem?_eq_getElem hj]; rfl
      have := h.cells (g := g) rfl (k + j) _ hkj
      rw [← this]
      congr 1
      unfold Addr.add
      by_cases hk0 : k = 0 <;> by_cases hj0 : j = 0 <;> simp [hk0, hj0]
end

theorem strCells_list (l : List UInt8) : strCells ⟨l.toArray⟩ = l.map B := by simp [strCells]

end Go.Proofs.YtbnmfdlaabdlhaaGreat

/- Plain mathematics of chapter 2: copies. No program in sight. -/
namespace Go.Proofs.YtbnmfdlaabdlhaaGreat
namespace Pl

/-- A tok: bytes as they are, or a copy. -/
structure Tok where
  lit : Bytes
  far : Int
  len : Int
deriving DecidableEq

def maxDict : Nat := 256

def copyB : Nat → Nat → Bytes → Bytes
  | 0, _, s => s
  | n + 1, far, s => copyB n far (s ++ [s.getD (s.length - far) 0])

theorem copyB_len : ∀ (n far : Nat) (s : Bytes), (copyB n far s).length = s.length + n
  | 0, _, _ => rfl
  | n + 1, far, s => by rw [copyB, copyB_len]; simp; omega

theorem copyB_prefix : ∀ (n far : Nat) (s : Bytes), s <+: copyB n far s
  | 0, _, _ => List.prefix_refl _
  | n + 1, far, _ => (List.prefix_append _ _).trans (copyB_prefix n far _)

theorem copyB_snoc : ∀ (k far : Nat) (s : Bytes), copyB (k + 1) far s = copyB k far s ++ [(copyB k far s).getD ((copyB k far s).length - far) 0]
  | 0, _, _ => rfl
  | k + 1, far, s => by rw [copyB, copyB_snoc k far, copyB]

/-- the error that a tok brings: d: how many bytes the dictionary has; s: dictionary and what was made; lit: was the last one as it is -/
def tokE (d : Nat) (s : Bytes) (lit : Bool) (t : Tok) : Nat :=
  if t.lit ≠ [] then
    if t.far ≠ 0 ∨ t.len ≠ 0 ∨ lit = true then 1 else if 512 < t.lit.length + (s.length - d) then 2 else 0
  else if t.len < 3 ∨ 64 < t.len ∨ t.far < 1 ∨ (s.length : Int) < t.far then 1
  else if 512 < t.len + ((s.length - d : Nat) : Int) then 2 else 0
def tokS (s : Bytes) (t : Tok) : Bytes := if t.lit ≠ [] then s ++ t.lit else copyB t.len.toNat t.far.toNat s
def isLit (t : Tok) : Bool := !t.lit.isEmpty

def playF (d : Nat) : Bytes → Bool → List Tok → Bytes × Nat
  | s, _, [] => (s.drop d, 0)
  | s, b, t :: l => if tokE d s b t ≠ 0 then ([], tokE d s b t) else playF d (tokS s t) (isLit t) l
/-- B1: the text, and the error -/
def play (dict : Bytes) (l : List Tok) : Bytes × Nat :=
  if maxDict < dict.length then ([], 2) else playF dict.length dict false l

/-- how many bytes come to be as they must -/
def comeF (w : Bytes) (at' far : Nat) : Nat → Nat → Nat
  | 0, n => n
  | f + 1, n => if at' + n < w.length ∧ w.getD (at' + n) 0 = w.getD (at' + n - far) 0 then comeF w at' far f (n + 1) else n
def come (w : Bytes) (at' far : Nat) : Nat := comeF w at' far 64 0

/-- the best of the fars 1 to k: (far, size); none: (0, 0) -/
def bestF (w : Bytes) (at' : Nat) : Nat → Nat × Nat
  | 0 => (0, 0)
  | f + 1 => if 3 ≤ come w at' (f + 1) ∧ (bestF w at' f).2 < come w at' (f + 1) then (f + 1, come w at' (f + 1)) else bestF w at' f
def best (w : Bytes) (at' : Nat) : Nat × Nat := bestF w at' at'

/-- the reference's own: without the three -/
def bestR (w : Bytes) (at' : Nat) : Nat → Nat × Nat
  | 0 => (0, 0)
  | f + 1 => if (bestR w at' f).2 < come w at' (f + 1) then (f + 1, come w at' (f + 1)) else bestR w at' f

theorem bestR_bestF (w : Bytes) (at' : Nat) : ∀ f, bestF w at' f = if (bestR w at' f).2 < 3 then (0, 0) else bestR w at' f
  | 0 => by simp [bestF, bestR]
  | f + 1 => by
    rw [bestF, bestR, bestR_bestF w at' f]
    generalize come w at' (f + 1) = c
    obtain ⟨x, y⟩ := bestR w at' f
    by_cases h1 : y < 3 <;> by_cases h2 : 3 ≤ c
    · have h3 : y < c := by omega
      have h4 : 0 < c := by omega
      have h5 : ¬ c < 3 := by omega
      simp [h1, h2, h3, h4, h5]
    · by_cases h3 : y < c <;> simp [h1, h2, h3] <;> omega
    · by_cases h3 : y < c
      · have h5 : ¬ c < 3 := by omega
        simp [h1, h2, h3, h5]
      · simp [h1, h3]
    · have h3 : ¬ y < c := by omega
      simp [h1, h3]

theorem comeF_le (w : Bytes) (p far : Nat) (hp : p ≤ w.length) : ∀ f n, p + n ≤ w.length → n ≤ comeF w p far f n ∧ comeF w p far f n ≤ n + f ∧ p + comeF w p far f n ≤ w.length
  | 0, n, h => ⟨Nat.le_refl _, Nat.le_refl _, h⟩
  | f + 1, n, h => by
    rw [comeF]
    by_cases h1 : p + n < w.length ∧ w.getD (p + n) 0 = w.getD (p + n - far) 0
    · rw [if_pos h1]
      obtain ⟨a, b, c⟩ := comeF_le w p far hp f (n + 1) (by omega)
      exact ⟨by omega, by omega, c⟩
    · rw [if_neg h1]; exact ⟨Nat.le_refl _, by omega, h⟩
theorem come_le (w : Bytes) (p far : Nat) (hp : p ≤ w.length) : come w p far ≤ 64 ∧ p + come w p far ≤ w.length := by
  obtain ⟨_, b, c⟩ := comeF_le w p far hp 64 0 (by omega)
  exact ⟨by unfold come; omega, c⟩
theorem bestR_le (w : Bytes) (p : Nat) (hp : p ≤ w.length) : ∀ f, (bestR w p f).2 ≤ 64 ∧ p + (bestR w p f).2 ≤ w.length ∧ (bestR w p f).1 ≤ f
  | 0 => by simp [bestR]; omega
  | f + 1 => by
    obtain ⟨a, b, c⟩ := bestR_le w p hp f
    rw [bestR]
    by_cases h : (bestR w p f).2 < come w p (f + 1)
    · rw [if_pos h]
      obtain ⟨d, e⟩ := come_le w p (f + 1) hp
      exact ⟨d, e, Nat.le_refl _⟩
    · rw [if_neg h]; exact ⟨a, b, by omega⟩
theorem best_eq (w : Bytes) (p : Nat) : best w p = if (bestR w p p).2 < 3 then (0, 0) else bestR w p p := bestR_bestF w p p

def litTok (b : Bytes) : Tok := ⟨b, 0, 0⟩
def copyTok (far size : Nat) : Tok := ⟨[], far, size⟩

/-- what is as it is, from a place up to another: a tok, or none -/
def flush (w : Bytes) (a b : Nat) : List Tok := if a < b then [litTok (slice w a b)] else []
def parseF (w : Bytes) : Nat → Nat → Nat → List Tok
  | 0, at', a => flush w a at'
  | f + 1, at', a =>
    if at' < w.length then
      if (best w at').2 = 0 then parseF w f (at' + 1) a
      else flush w a at' ++ copyTok (best w at').1 (best w at').2 :: parseF w f (at' + (best w at').2) (at' + (best w at').2)
    else flush w a at'
theorem parseF_fuel (w : Bytes) : ∀ (f g p a : Nat), w.length ≤ p + f → w.length ≤ p + g → p ≤ w.length → parseF w f p a = parseF w g p a
  | 0, 0, _, _, _, _, _ => rfl
  | 0, g + 1, p, a, h, _, hp => by rw [parseF, parseF, if_neg (by omega)]
  | f + 1, 0, p, a, _, h, hp => by rw [parseF, parseF, if_neg (by omega)]
  | f + 1, g + 1, p, a, hf, hg, hp => by
    rw [parseF, parseF]
    by_cases h : p < w.length
    · rw [if_pos h, if_pos h]
      by_cases h2 : (best w p).2 = 0
      · rw [if_pos h2, if_pos h2, parseF_fuel w f g (p + 1) a (by omega) (by omega) (by omega)]
      · rw [if_neg h2, if_neg h2]
        have hb := bestR_le w p hp p
        have he := best_eq w p
        have : p + (best w p).2 ≤ w.length := by
          rw [he]
          by_cases h3 : (bestR w p p).2 < 3
          · rw [if_pos h3]; simp; omega
          · rw [if_neg h3]; exact hb.2.1
        rw [parseF_fuel w f g (p + (best w p).2) (p + (best w p).2) (by omega) (by omega) this]
    · rw [if_neg h, if_neg h]
/-- B2 -/
def parse (dict text : Bytes) : List Tok := parseF (dict ++ text) text.length dict.length dict.length

def tokB (t : Tok) : Bytes := if t.lit ≠ [] then nb (2 * t.lit.length) ++ t.lit else nb (2 * t.len.toNat + 1) ++ nb t.far.toNat
def toksB : List Tok → Bytes
  | [] => []
  | t :: l => tokB t ++ toksB l
/-- B3 -/
def write (dict : Bytes) (l : List Tok) : Bytes × Nat := if (play dict l).2 ≠ 0 then ([], (play dict l).2) else (toksB l, 0)

/-- the tok that bytes begin with, its form alone -/
def tokFrom (s : Bytes) : Option (Tok × Bytes) :=
  match take s with
  | none => none
  | some (n, rest) =>
    if n % 2 = 0 then
      if rest.length < n / 2 then none else some (⟨rest.take (n / 2), 0, 0⟩, rest.drop (n / 2))
    else match take rest with
      | none => none
      | some (f, rest) => some (⟨[], f, (n / 2 : Nat)⟩, rest)

def readF (d : Nat) : Nat → Bytes → Bool → Bytes → Option (List Tok)
  | _, _, _, [] => some []
  | 0, _, _, _ :: _ => none
  | f + 1, m, b, c :: s' =>
    match tokFrom (c :: s') with
    | none => none
    | some (t, rest) => if tokE d m b t ≠ 0 then none else (readF d f (tokS m t) (isLit t) rest).map (t :: ·)
/-- B3: the right toks of which these are the bytes -/
def read (dict s : Bytes) : Option (List Tok) := readF dict.length s.length dict false s

end Pl
end Go.Proofs.YtbnmfdlaabdlhaaGreat

/- The maker of a text, in memory: words; what of memory a step may turn. -/
namespace Go.Proofs.YtbnmfdlaabdlhaaGreat
open Go.RowKit Go.Lib Pl

/-- what is not of a kind that may turn is kept -/
structure Keeps (bad : Obj → Bool) (w w' : World) : Prop where
  size : w.heap.size ≤ w'.heap.size
  block : ∀ (k : Nat) (o : Obj), w.heap[k]? = some o → bad o = false → w'.heap[k]? = some o

section
variable {bad : Obj → Bool} {a b c : World}
theorem Keeps.refl (bad : Obj → Bool) (w : World) : Keeps bad w w := ⟨Nat.le_refl _, fun _ _ h _ => h⟩
theorem Keeps.trans (h : Keeps bad a b) (k : Keeps bad b c) : Keeps bad a c := ⟨Nat.le_trans h.size k.size, fun i o hi ho => k.block i o (h.block i o hi ho) ho⟩
theorem Keeps.drew (h : Keeps bad a b) : Keeps bad a b.drew := ⟨h.size, h.block⟩
theorem Keeps.drewN (h : Keeps bad a b) (n : Nat) : Keeps bad a (b.drewN n) := ⟨h.size, h.block⟩
theorem Keeps.alloc (h : Keeps bad a b) (o : Obj) : Keeps bad a (b.alloc o) :=
  ⟨Nat.le_trans h.size (by simp), fun i o' hi ho => by
    have h1 := h.block i o' hi ho
    rw [Below.heap_alloc b o i (by rcases Nat.lt_or_ge i b.heap.size with h2 | h2; exact h2; rw [Array.getElem?_eq_none h2] at h1; cases h1)]
    exact h1⟩
theorem Keeps.grown {row : Option Nat} (h : Keeps bad a b) (hg : b.grownBy c row) (hr : ∀ g, row = some g → ∃ o, b.heap[g]? = some o ∧ bad o = true) : Keeps bad a c :=
  ⟨Nat.le_trans h.size hg.size, fun i o hi ho => by
    have h1 := h.block i o hi ho
    have h2 : i < b.heap.size := by
      rcases Nat.lt_or_ge i b.heap.size with h2 | h2
      · exact h2
      · rw [Array.getElem?_eq_none h2] at h1; cases h1
    rw [hg.block i h2 (fun e => ?_)]
    · exact h1
    · obtain ⟨o2, h3, h4⟩ := hr i e.symm
      rw [h1] at h3; injection h3 with h3; subst h3; rw [ho] at h4; cases h4⟩
theorem Keeps.setCell (h : Keeps bad a b) {p : Addr} (u : Value) {o : Obj} (hp : b.heap[p.block]? = some o) (hb : bad o = true) : Keeps bad a (b.setCell p u) :=
  ⟨by have h1 := h.size; simpa [World.setCell] using h1, fun i o' hi ho => by
    have h1 := h.block i o' hi ho
    rw [Below.heap_setCell b p u i (fun e => by subst e; rw [hp] at h1; injection h1 with h1; subst h1; rw [ho] at hb; cases hb)]
    exact h1⟩
theorem Keeps.of_below (h : Below a.heap.size a b) : Keeps bad a b :=
  ⟨h.size, fun i o hi _ => by
    have h2 : i < a.heap.size := by
      rcases Nat.lt_or_ge i a.heap.size with h2 | h2
      · exact h2
      · rw [Array.getElem?_eq_none h2] at hi; cases hi
    rw [h.block i h2]; exact hi⟩
theorem Keeps.own {base : Nat} {e : TypeId} {size n : Nat} {v : Value} {xs : List Value} (h : Keeps bad a b) (ho : OwnM a base e size v n xs) (hb : ∀ cs fz, bad (.cells cs e fz) = false) : OwnM b base e size v n xs := by
  refine ⟨ho.1, ?_⟩
  rcases ho.2 with hn | ⟨g, cap, cur, fz, hv, hbg, hgg, rest⟩
  · exact .inl hn
  · exact .inr ⟨g, cap, cur, fz, hv, hbg, h.block g _ hgg (hb _ _), rest⟩
theorem Keeps.ownsRow {base : Nat} {e : TypeId} {size n : Nat} {v : Value} {xs : List Value} (h : Keeps bad a b) (ho : a.ownsRow base e size v n xs) (hb : ∀ cs fz, bad (.cells cs e fz) = false) : b.ownsRow base e size v n xs := by
  refine ⟨ho.1, ?_⟩
  rcases ho.2 with hn | ⟨g, cap, cur, hv, hbg, hgg, rest⟩
  · exact .inl hn
  · exact .inr ⟨g, cap, cur, hv, hbg, h.block g _ hgg (hb _ _), rest⟩
end

/-- rows of bytes, and makers -/
def badMk : Obj → Bool
  | .cells _ t _ => t == 5 || t == 104
  | _ => false

/-- Block M is a maker: what it has made, dictionary ahead, is s; the dictionary has d bytes; lit: was the last one as it is. -/
def Mk (w : World) (base M d : Nat) (lit : Bool) (s : Bytes) : Prop :=
  base ≤ M ∧ ∃ A cap, w.heap[M]? = some (.cells #[.slice A s.length cap, .int .i64 d, .bool lit] 104 (0, 0)) ∧ OwnM w base 5 1 (.slice A s.length cap) s.length (s.map B)

theorem set_row {w : World} {g : Nat} {cs : Array Value} {t : TypeId} {fz : Nat × Nat} (h : w.heap[g]? = some (.cells cs t fz)) (i : Nat) (u : Value) :
    (w.setCell ⟨g, i, none⟩ u).heap[g]? = some (.cells (cs.setIfInBounds i u) t fz) := by
  simp [World.setCell, Array.getElem?_modify, h]
theorem size_setCell (w : World) (p : Addr) (u : Value) : (w.setCell p u).heap.size = w.heap.size := by simp [World.setCell]

/-- a row of bytes is no maker -/
theorem mk_far {w : World} {base M n : Nat} {cs : Array Value} {fz : Nat × Nat} {v : Value} {xs : List Value} (hblk : w.heap[M]? = some (.cells cs 104 fz)) (hown : OwnM w base 5 1 v n xs) : v.ownBlock ≠ some M := by
  rcases hown.2 with ⟨rfl, _⟩ | ⟨g, cap, cur, fz', rfl, _, hg, _⟩
  · simp [Value.ownBlock]
  · intro e
    have : g = M := by simpa [Value.ownBlock] using e
    subst this
    rw [hblk] at hg
    injection hg with hg
    injection hg with _ h2
    exact absurd h2 (by decide)

theorem mk_after {w W w1 : World} {base M n : Nat} {cs : Array Value} {fz : Nat × Nat} {v : Value} {xs : List Value} (hblk : w.heap[M]? = some (.cells cs 104 fz)) (hown : OwnM w base 5 1 v n xs)
    (hW : Below w.heap.size w W) (hg : W.grownBy w1 v.ownBlock) : w1.heap[M]? = some (.cells cs 104 fz) := by
  have hlt : M < w.heap.size := (Array.getElem?_eq_some_iff.1 hblk).1
  exact (hg.block M (Nat.lt_of_lt_of_le hlt hW.size) (fun e => mk_far hblk hown e.symm)).trans ((hW.block M hlt).trans hblk)
theorem below_drewN_alloc (w : World) (k : Nat) (o : Obj) : Below w.heap.size w ((w.drewN k).alloc o) := (below_drewN (Below.refl _ _) k).alloc (Nat.le_refl _) o

/-- behind an append to what a maker has made, and the stores into the maker -/
theorem mk_end {w W w1 w2 : World} {base M d : Nat} {lit lit2 : Bool} {A A1 : Option Addr} {cap cap1 n1 : Nat} {s s1 : Bytes}
    (hbM : base ≤ M) (hblk : w.heap[M]? = some (.cells #[.slice A s.length cap, .int .i64 d, .bool lit] 104 (0, 0))) (hown : OwnM w base 5 1 (.slice A s.length cap) s.length (s.map B))
    (hW : Below w.heap.size w W) (hown1 : OwnM w1 base 5 1 (.slice A1 n1 cap1) n1 (s1.map B)) (hg : W.grownBy w1 (Value.ownBlock (.slice A s.length cap)))
    (h2 : w2.heap[M]? = some (.cells #[.slice A1 n1 cap1, .int .i64 d, .bool lit2] 104 (0, 0))) (h3 : ∀ k, k ≠ M → w2.heap[k]? = w1.heap[k]?) (h4 : w2.heap.size = w1.heap.size)
    (h5 : w2.os = w1.os) (h6 : w2.tape = w1.tape) (h7 : w2.output = w1.output) :
    Mk w2 base M d lit2 s1 ∧ Below base w w2 ∧ Keeps badMk w w2 := by
  have hn : n1 = s1.length := by have := hown1.1; simp at this; omega
  subst hn
  have hMlt : M < w.heap.size := (Array.getElem?_eq_some_iff.1 hblk).1
  have hm1 : w1.heap[M]? = some (.cells #[.slice A s.length cap, .int .i64 d, .bool lit] 104 (0, 0)) :=
    (hg.block M (Nat.lt_of_lt_of_le hMlt hW.size) (fun e => mk_far hblk hown e.symm)).trans ((hW.block M hMlt).trans hblk)
  have hfar1 := mk_far hm1 hown1
  refine ⟨⟨hbM, A1, cap1, h2, hown1.kept fun k hk => h3 k (fun e => hfar1 (by rw [hk, e]))⟩, ⟨?_, ?_, ?_, ?_, ?_⟩, ⟨?_, ?_⟩⟩
  · rw [h5, hg.os, hW.os]
  · rw [h6, hg.tape, hW.tape]
  · rw [h7, hg.output, hW.output]
  · rw [h4]; exact Nat.le_trans hW.size hg.size
  · intro k hk
    rw [h3 k (by omega), hg.block k (Nat.lt_of_lt_of_le (by omega) hW.size) (fun e => by have := (hown.lt k e.symm).1; omega), hW.block k (by omega)]
  · rw [h4]; exact Nat.le_trans hW.size hg.size
  · intro k o ho hbad
    have hk : k < w.heap.size := (Array.getElem?_eq_some_iff.1 ho).1
    have hne : k ≠ M := fun e => by
      subst e; rw [hblk] at ho; injection ho with ho; subst ho; simp [badMk] at hbad
    have hnr : some k ≠ Value.ownBlock (.slice A s.length cap) := fun e => by
      rcases hown.2 with ⟨hv, _⟩ | ⟨g, cap', cur, fz, hv, _, hgg, _⟩
      · rw [hv] at e; simp [Value.ownBlock] at e
      · rw [hv] at e
        have : k = g := by simpa [Value.ownBlock] using e
        subst this
        rw [hgg] at ho; injection ho with ho; subst ho; simp [badMk] at hbad
    rw [h3 k hne, hg.block k (Nat.lt_of_lt_of_le hk hW.size) hnr, hW.block k hk]
    exact ho

theorem Mk.alloc {w : World} {base M d : Nat} {lit : Bool} {s : Bytes} (h : Mk w base M d lit s) (o : Obj) : Mk (w.alloc o) base M d lit s := by
  obtain ⟨h1, A, cap, h2, h3⟩ := h
  exact ⟨h1, A, cap, (Below.heap_alloc w o M (Array.getElem?_eq_some_iff.1 h2).1).trans h2, h3.alloc o⟩
theorem Mk.drewN {w : World} {base M d : Nat} {lit : Bool} {s : Bytes} (h : Mk w base M d lit s) (n : Nat) : Mk (w.drewN n) base M d lit s := h
theorem Mk.drew {w : World} {base M d : Nat} {lit : Bool} {s : Bytes} (h : Mk w base M d lit s) : Mk w.drew base M d lit s := h
theorem bytesRow_cells (s : ByteArray) : strCells s = s.data.toList.map (fun b => Value.int .u8 b.toNat) := rfl
/-- a new maker -/
theorem Mk.made (w : World) (base : Nat) (dict : Bytes) (hb : base ≤ w.heap.size) (hd : dict.length ≤ 9223372036854775807) :
    Mk ((w.drew.alloc (.cells (bytesRow ⟨dict.toArray⟩ (grownCap w dict.length 0 5)) 5 ((bytesRow ⟨dict.toArray⟩ (grownCap w dict.length 0 5)).size, (bytesRow ⟨dict.toArray⟩ (grownCap w dict.length 0 5)).size + 1))).alloc
      (.cells #[.slice (some ⟨w.heap.size, 0, none⟩) dict.length (grownCap w dict.length 0 5), .int .i64 dict.length, .bool false] 104)) base (w.heap.size + 1) dict.length false dict := by
  have h := OwnM.bytes w 5 ⟨dict.toArray⟩ base hb (by unfold maxLen; exact hd)
  rw [strCells_list] at h
  refine ⟨by omega, _, _, ?_, h.alloc _⟩
  have := heap_alloc_new (w.drew.alloc (.cells (bytesRow ⟨dict.toArray⟩ (grownCap w dict.length 0 5)) 5 ((bytesRow ⟨dict.toArray⟩ (grownCap w dict.length 0 5)).size, (bytesRow ⟨dict.toArray⟩ (grownCap w dict.length 0 5)).size + 1)))
    (.cells #[.slice (some ⟨w.heap.size, 0, none⟩) dict.length (grownCap w dict.length 0 5), .int .i64 dict.length, .bool false] 104)
  have e : (w.drew.alloc (.cells (bytesRow ⟨dict.toArray⟩ (grownCap w dict.length 0 5)) 5 ((bytesRow ⟨dict.toArray⟩ (grownCap w dict.length 0 5)).size, (bytesRow ⟨dict.toArray⟩ (grownCap w dict.length 0 5)).size + 1))).heap.size = w.heap.size + 1 := by
    simp [World.alloc, World.drew, -World.alloc_eq, -World.drew_eq]
  rw [e] at this
  exact this

/-- a tok as a value -/
abbrev TokV (t : Tok) : Value := .agg #[S t.lit, I t.far, I t.len]

end Go.Proofs.YtbnmfdlaabdlhaaGreat

/- The walk of (*maker).tok. -/
namespace Go.Proofs.YtbnmfdlaabdlhaaGreat
open Go.RowKit Go.Lib Pl
attribute [local go_sem] ext_list app_list

theorem free_row (w : World) (b i : Nat) (c : Array Value) (t : TypeId) (h : w.heap[b]? = some (.cells c t (0, 0))) : w.frozen? ⟨b, i, none⟩ = false := by simp [World.frozen?, h]
theorem after_grown {w w1 : World} {base M n k : Nat} {o : Obj} {cs : Array Value} {fz : Nat × Nat} {v : Value} {xs : List Value} (hblk : w.heap[M]? = some (.cells cs 104 fz)) (hown : OwnM w base 5 1 v n xs)
    (hg : ((w.alloc o).drewN k).drew.grownBy w1 v.ownBlock) : w1.heap[M]? = some (.cells cs 104 fz) := by
  have hlt : M < w.heap.size := (Array.getElem?_eq_some_iff.1 hblk).1
  have h1 : M < ((w.alloc o).drewN k).drew.heap.size := by
    show M < (w.alloc o).heap.size
    simp; omega
  exact (hg.block M h1 (fun e => mk_far hblk hown e.symm)).trans ((Below.heap_alloc w o M hlt).trans hblk)

theorem below_drew_alloc (w : World) (o : Obj) (k : Nat) : Below w.heap.size w ((w.alloc o).drewN k).drew := (below_drewN ((Below.refl _ _).alloc (Nat.le_refl _) o) k).drew

set_option maxHeartbeats 1000000 in
set_option maxRecDepth 100000 in
theorem tok_litok (base M d : Nat) (lit : Bool) (s l : Bytes) (far len : Int) (w : World) (hM : Mk w base M d lit s) (hd : d ≤ s.length) (hs : s.length ≤ d + 512) (hd2 : d ≤ 256)
    (hl : l ≠ []) (h0 : far = 0 ∧ len = 0 ∧ lit = false) (hr : l.length + (s.length - d) ≤ 512) :
    Calls Tryz.prog 57 #[.pointer (some ⟨M, 0, none⟩), .agg #[S l, I far, I len]] w fun e w' => e = .returned (I 0) ∧ Mk w' base M d true (s ++ l) ∧ Below base w w' ∧ Keeps badMk w w' := by
  obtain ⟨hbM, A, cap, hblk, hown⟩ := hM
  obtain ⟨rfl, rfl, rfl⟩ := h0
  have hlt : M < w.heap.size := (Array.getElem?_eq_some_iff.1 hblk).1
  have c0 : w.cell? ⟨M, 0, none⟩ = some (.slice A s.length cap) := by rw [cell_of_row w M 0 _ _ _ hblk]; rfl
  have c1 : w.cell? ⟨M, 1, none⟩ = some (.int .i64 d) := by rw [cell_of_row w M 1 _ _ _ hblk]; rfl
  have c2 : w.cell? ⟨M, 2, none⟩ = some (.bool false) := by rw [cell_of_row w M 2 _ _ _ hblk]; rfl
  have f0 : w.frozen? ⟨M, 0, none⟩ = false := by simp [World.frozen?, hblk]
  have f2 : w.frozen? ⟨M, 2, none⟩ = false := by simp [World.frozen?, hblk]
  have hl1 : l.isEmpty = false := by simpa using hl
  have hl2 : (l == []) = false := by simpa using hl
  have hk1 : (0 : Int) ≤ (s.length : Int) - (d : Int) := by omega
  have hk2 : (s.length : Int) - (d : Int) ≤ 512 := by omega
  have hbH : base ≤ w.heap.size := by omega
  have hk3 : (l.length : Int) ≤ 512 - ((s.length : Int) - (d : Int)) := by omega
  obtain ⟨i0, hi0, hz0, hz1, hz2⟩ := info_parts info_u8
  have hB := hide hblk
  have hO := hide hown
  clear hblk hown hl
  go_enter Tryz.func57, Tryz.ntmps57
  go_wp2_with fail
  go_quiet (fail)
  go_wp2_with fail
  go_region_law (refine step_append_M_string rfl _ _ _ _ rfl base 5 i0 Tryz.underlying55 Tryz.underlying9 hi0 hz0 hz1 hz2 _ s.length (s.map B) rfl (by first | exact ((unhide hO).alloc _).drew | exact (((unhide hO).alloc _).drewN _) | exact (((unhide hO).alloc _).drewN _).drew) ⟨l.toArray⟩ rfl (by show s.length + l.length ≤ 9223372036854775807; omega) (by show s.length + l.length ≤ 140737488355328; omega) (by show base ≤ (w.alloc _).heap.size; simp; omega) ?_; intro A1 cap1 w1 hown1 hgrow1 hat1; have hm1 := after_grown (unhide hB) (unhide hO) hgrow1; have c0' := cell_of_row w1 M 0 _ _ _ hm1; have c2' := cell_of_row w1 M 2 _ _ _ hm1; simp at c0' c2'; have f0' := free_row w1 M 0 _ _ hm1; have f2' := free_row w1 M 2 _ _ hm1)
  all_goals
    go_wp2_with fail
    go_ret
    refine ⟨rfl, ?_⟩
    rw [strCells_list, ← List.map_append] at hown1
    refine mk_end hbM (unhide hB) (unhide hO) (below_drew_alloc w _ _) hown1 hgrow1 ?_ (fun k hk => ?_) (by rw [size_setCell, size_setCell]) rfl rfl rfl
    · rw [set_row (set_row hm1 _ _) _ _]; rfl
    · rw [Below.heap_setCell _ _ _ _ hk, Below.heap_setCell _ _ _ _ hk]

set_option maxHeartbeats 1000000 in
set_option maxRecDepth 100000 in
theorem tok_form1 (base M d : Nat) (lit : Bool) (s : Bytes) (l : Bytes) (far len : Int) (w : World) (hM : Mk w base M d lit s) (hd : d ≤ s.length) (hs : s.length ≤ d + 512)
    (hl : l ≠ []) (h0 : far ≠ 0) :
    Calls Tryz.prog 57 #[.pointer (some ⟨M, 0, none⟩), .agg #[S l, I far, I len]] w fun e w' => e = .returned (I 1) ∧ Below base w w' ∧ Keeps badMk w w' := by
  obtain ⟨hbM, A, cap, hblk, hown⟩ := hM
  have hlt : M < w.heap.size := (Array.getElem?_eq_some_iff.1 hblk).1
  have c0 : w.cell? ⟨M, 0, none⟩ = some (.slice A s.length cap) := by rw [cell_of_row w M 0 _ _ _ hblk]; rfl
  have c1 : w.cell? ⟨M, 1, none⟩ = some (.int .i64 d) := by rw [cell_of_row w M 1 _ _ _ hblk]; rfl
  have c2 : w.cell? ⟨M, 2, none⟩ = some (.bool lit) := by rw [cell_of_row w M 2 _ _ _ hblk]; rfl
  have hk1 : (0 : Int) ≤ (s.length : Int) - (d : Int) := by omega
  have hk2 : (s.length : Int) - (d : Int) ≤ 512 := by omega
  have hbH : base ≤ w.heap.size := by omega
  have hl1 : l.isEmpty = false := by simpa using hl
  have hl2 : (l == []) = false := by simpa using hl
  clear hl
  have h1 : (far == 0) = false := beq_eq_false_iff_ne.2 h0
  have h2 : (far != 0) = true := by rw [bne_iff_ne]; exact h0
  clear h0
  clear hblk hown
  go_enter Tryz.func57, Tryz.ntmps57
  go_wp2_with fail
  go_quiet (fail)
  go_wp2_with fail
  go_ret
  first | exact ⟨rfl, below_drewN ((Below.refl _ _).alloc hbH _) _, ((Keeps.refl _ _).alloc _).drewN _⟩ | exact ⟨rfl, below_drewN (below_drewN ((Below.refl _ _).alloc hbH _) _) _, (((Keeps.refl _ _).alloc _).drewN _).drewN _⟩

set_option maxHeartbeats 1000000 in
set_option maxRecDepth 100000 in
theorem tok_form2 (base M d : Nat) (lit : Bool) (s : Bytes) (l : Bytes) (far len : Int) (w : World) (hM : Mk w base M d lit s) (hd : d ≤ s.length) (hs : s.length ≤ d + 512)
    (hl : l ≠ []) (h0 : far = 0) (h9 : len ≠ 0) :
    Calls Tryz.prog 57 #[.pointer (some ⟨M, 0, none⟩), .agg #[S l, I far, I len]] w fun e w' => e = .returned (I 1) ∧ Below base w w' ∧ Keeps badMk w w' := by
  obtain ⟨hbM, A, cap, hblk, hown⟩ := hM
  have hlt : M < w.heap.size := (Array.getElem?_eq_some_iff.1 hblk).1
  have c0 : w.cell? ⟨M, 0, none⟩ = some (.slice A s.length cap) := by rw [cell_of_row w M 0 _ _ _ hblk]; rfl
  have c1 : w.cell? ⟨M, 1, none⟩ = some (.int .i64 d) := by rw [cell_of_row w M 1 _ _ _ hblk]; rfl
  have c2 : w.cell? ⟨M, 2, none⟩ = some (.bool lit) := by rw [cell_of_row w M 2 _ _ _ hblk]; rfl
  have hk1 : (0 : Int) ≤ (s.length : Int) - (d : Int) := by omega
  have hk2 : (s.length : Int) - (d : Int) ≤ 512 := by omega
  have hbH : base ≤ w.heap.size := by omega
  have hl1 : l.isEmpty = false := by simpa using hl
  have hl2 : (l == []) = false := by simpa using hl
  clear hl
  subst h0
  have h1 : (len == 0) = false := beq_eq_false_iff_ne.2 h9
  have h2 : (len != 0) = true := by rw [bne_iff_ne]; exact h9
  clear h9
  clear hblk hown
  go_enter Tryz.func57, Tryz.ntmps57
  go_wp2_with fail
  go_quiet (fail)
  go_wp2_with fail
  go_ret
  first | exact ⟨rfl, below_drewN ((Below.refl _ _).alloc hbH _) _, ((Keeps.refl _ _).alloc _).drewN _⟩ | exact ⟨rfl, below_drewN (below_drewN ((Below.refl _ _).alloc hbH _) _) _, (((Keeps.refl _ _).alloc _).drewN _).drewN _⟩

set_option maxHeartbeats 1000000 in
set_option maxRecDepth 100000 in
theorem tok_form3 (base M d : Nat) (lit : Bool) (s : Bytes) (l : Bytes) (far len : Int) (w : World) (hM : Mk w base M d lit s) (hd : d ≤ s.length) (hs : s.length ≤ d + 512)
    (hl : l ≠ []) (h0 : far = 0) (h9 : len = 0) (h8 : lit = true) :
    Calls Tryz.prog 57 #[.pointer (some ⟨M, 0, none⟩), .agg #[S l, I far, I len]] w fun e w' => e = .returned (I 1) ∧ Below base w w' ∧ Keeps badMk w w' := by
  obtain ⟨hbM, A, cap, hblk, hown⟩ := hM
  have hlt : M < w.heap.size := (Array.getElem?_eq_some_iff.1 hblk).1
  have c0 : w.cell? ⟨M, 0, none⟩ = some (.slice A s.length cap) := by rw [cell_of_row w M 0 _ _ _ hblk]; rfl
  have c1 : w.cell? ⟨M, 1, none⟩ = some (.int .i64 d) := by rw [cell_of_row w M 1 _ _ _ hblk]; rfl
  have c2 : w.cell? ⟨M, 2, none⟩ = some (.bool lit) := by rw [cell_of_row w M 2 _ _ _ hblk]; rfl
  have hk1 : (0 : Int) ≤ (s.length : Int) - (d : Int) := by omega
  have hk2 : (s.length : Int) - (d : Int) ≤ 512 := by omega
  have hbH : base ≤ w.heap.size := by omega
  have hl1 : l.isEmpty = false := by simpa using hl
  have hl2 : (l == []) = false := by simpa using hl
  clear hl
  subst h0 h9 h8
  clear hblk hown
  go_enter Tryz.func57, Tryz.ntmps57
  go_wp2_with fail
  go_quiet (fail)
  go_wp2_with fail
  go_ret
  first | exact ⟨rfl, below_drewN ((Below.refl _ _).alloc hbH _) _, ((Keeps.refl _ _).alloc _).drewN _⟩ | exact ⟨rfl, below_drewN (below_drewN ((Below.refl _ _).alloc hbH _) _) _, (((Keeps.refl _ _).alloc _).drewN _).drewN _⟩

set_option maxHeartbeats 1000000 in
set_option maxRecDepth 100000 in
theorem tok_many (base M d : Nat) (lit : Bool) (s : Bytes) (l : Bytes) (far len : Int) (w : World) (hM : Mk w base M d lit s) (hd : d ≤ s.length) (hs : s.length ≤ d + 512)
    (hl : l ≠ []) (h0 : far = 0) (h9 : len = 0) (h8 : lit = false) (hr : 512 < l.length + (s.length - d)) :
    Calls Tryz.prog 57 #[.pointer (some ⟨M, 0, none⟩), .agg #[S l, I far, I len]] w fun e w' => e = .returned (I 2) ∧ Below base w w' ∧ Keeps badMk w w' := by
  obtain ⟨hbM, A, cap, hblk, hown⟩ := hM
  have hlt : M < w.heap.size := (Array.getElem?_eq_some_iff.1 hblk).1
  have c0 : w.cell? ⟨M, 0, none⟩ = some (.slice A s.length cap) := by rw [cell_of_row w M 0 _ _ _ hblk]; rfl
  have c1 : w.cell? ⟨M, 1, none⟩ = some (.int .i64 d) := by rw [cell_of_row w M 1 _ _ _ hblk]; rfl
  have c2 : w.cell? ⟨M, 2, none⟩ = some (.bool lit) := by rw [cell_of_row w M 2 _ _ _ hblk]; rfl
  have hk1 : (0 : Int) ≤ (s.length : Int) - (d : Int) := by omega
  have hk2 : (s.length : Int) - (d : Int) ≤ 512 := by omega
  have hbH : base ≤ w.heap.size := by omega
  have hl1 : l.isEmpty = false := by simpa using hl
  have hl2 : (l == []) = false := by simpa using hl
  clear hl
  subst h0 h9 h8
  have hk3 : 512 - ((s.length : Int) - (d : Int)) < (l.length : Int) := by omega
  clear hblk hown
  go_enter Tryz.func57, Tryz.ntmps57
  go_wp2_with fail
  go_quiet (fail)
  go_wp2_with fail
  go_ret
  first | exact ⟨rfl, below_drewN ((Below.refl _ _).alloc hbH _) _, ((Keeps.refl _ _).alloc _).drewN _⟩ | exact ⟨rfl, below_drewN (below_drewN ((Below.refl _ _).alloc hbH _) _) _, (((Keeps.refl _ _).alloc _).drewN _).drewN _⟩

set_option maxHeartbeats 1000000 in
set_option maxRecDepth 100000 in
theorem tok_copy1 (base M d : Nat) (lit : Bool) (s : Bytes) (l : Bytes) (far len : Int) (w : World) (hM : Mk w base M d lit s) (hd : d ≤ s.length) (hs : s.length ≤ d + 512)
    (hl : l = []) (h0 : len < 3) :
    Calls Tryz.prog 57 #[.pointer (some ⟨M, 0, none⟩), .agg #[S l, I far, I len]] w fun e w' => e = .returned (I 1) ∧ Below base w w' ∧ Keeps badMk w w' := by
  obtain ⟨hbM, A, cap, hblk, hown⟩ := hM
  have hlt : M < w.heap.size := (Array.getElem?_eq_some_iff.1 hblk).1
  have c0 : w.cell? ⟨M, 0, none⟩ = some (.slice A s.length cap) := by rw [cell_of_row w M 0 _ _ _ hblk]; rfl
  have c1 : w.cell? ⟨M, 1, none⟩ = some (.int .i64 d) := by rw [cell_of_row w M 1 _ _ _ hblk]; rfl
  have c2 : w.cell? ⟨M, 2, none⟩ = some (.bool lit) := by rw [cell_of_row w M 2 _ _ _ hblk]; rfl
  have hk1 : (0 : Int) ≤ (s.length : Int) - (d : Int) := by omega
  have hk2 : (s.length : Int) - (d : Int) ≤ 512 := by omega
  have hbH : base ≤ w.heap.size := by omega
  subst hl
  have e1 : decide (len < 3) = true := by simpa using h0
  clear hblk hown
  go_enter Tryz.func57, Tryz.ntmps57
  go_wp2_with fail
  go_quiet (fail)
  go_wp2_with fail
  go_quiet (fail)
  go_wp2_with fail
  go_ret
  first | exact ⟨rfl, below_drewN ((Below.refl _ _).alloc hbH _) _, ((Keeps.refl _ _).alloc _).drewN _⟩ | exact ⟨rfl, below_drewN (below_drewN ((Below.refl _ _).alloc hbH _) _) _, (((Keeps.refl _ _).alloc _).drewN _).drewN _⟩

set_option maxHeartbeats 1000000 in
set_option maxRecDepth 100000 in
theorem tok_copy2 (base M d : Nat) (lit : Bool) (s : Bytes) (l : Bytes) (far len : Int) (w : World) (hM : Mk w base M d lit s) (hd : d ≤ s.length) (hs : s.length ≤ d + 512)
    (hl : l = []) (h0 : 64 < len) :
    Calls Tryz.prog 57 #[.pointer (some ⟨M, 0, none⟩), .agg #[S l, I far, I len]] w fun e w' => e = .returned (I 1) ∧ Below base w w' ∧ Keeps badMk w w' := by
  obtain ⟨hbM, A, cap, hblk, hown⟩ := hM
  have hlt : M < w.heap.size := (Array.getElem?_eq_some_iff.1 hblk).1
  have c0 : w.cell? ⟨M, 0, none⟩ = some (.slice A s.length cap) := by rw [cell_of_row w M 0 _ _ _ hblk]; rfl
  have c1 : w.cell? ⟨M, 1, none⟩ = some (.int .i64 d) := by rw [cell_of_row w M 1 _ _ _ hblk]; rfl
  have c2 : w.cell? ⟨M, 2, none⟩ = some (.bool lit) := by rw [cell_of_row w M 2 _ _ _ hblk]; rfl
  have hk1 : (0 : Int) ≤ (s.length : Int) - (d : Int) := by omega
  have hk2 : (s.length : Int) - (d : Int) ≤ 512 := by omega
  have hbH : base ≤ w.heap.size := by omega
  subst hl
  have e1 : decide (len < 3) = false := by simp; omega
  have e2 : decide (64 < len) = true := by simpa using h0
  clear hblk hown
  go_enter Tryz.func57, Tryz.ntmps57
  go_wp2_with fail
  go_quiet (fail)
  go_wp2_with fail
  go_quiet (fail)
  go_wp2_with fail
  go_ret
  first | exact ⟨rfl, below_drewN ((Below.refl _ _).alloc hbH _) _, ((Keeps.refl _ _).alloc _).drewN _⟩ | exact ⟨rfl, below_drewN (below_drewN ((Below.refl _ _).alloc hbH _) _) _, (((Keeps.refl _ _).alloc _).drewN _).drewN _⟩

set_option maxHeartbeats 1000000 in
set_option maxRecDepth 100000 in
theorem tok_copy3 (base M d : Nat) (lit : Bool) (s : Bytes) (l : Bytes) (far len : Int) (w : World) (hM : Mk w base M d lit s) (hd : d ≤ s.length) (hs : s.length ≤ d + 512)
    (hl : l = []) (h0 : 3 ≤ len) (h1 : len ≤ 64) (h2 : far < 1) :
    Calls Tryz.prog 57 #[.pointer (some ⟨M, 0, none⟩), .agg #[S l, I far, I len]] w fun e w' => e = .returned (I 1) ∧ Below base w w' ∧ Keeps badMk w w' := by
  obtain ⟨hbM, A, cap, hblk, hown⟩ := hM
  have hlt : M < w.heap.size := (Array.getElem?_eq_some_iff.1 hblk).1
  have c0 : w.cell? ⟨M, 0, none⟩ = some (.slice A s.length cap) := by rw [cell_of_row w M 0 _ _ _ hblk]; rfl
  have c1 : w.cell? ⟨M, 1, none⟩ = some (.int .i64 d) := by rw [cell_of_row w M 1 _ _ _ hblk]; rfl
  have c2 : w.cell? ⟨M, 2, none⟩ = some (.bool lit) := by rw [cell_of_row w M 2 _ _ _ hblk]; rfl
  have hk1 : (0 : Int) ≤ (s.length : Int) - (d : Int) := by omega
  have hk2 : (s.length : Int) - (d : Int) ≤ 512 := by omega
  have hbH : base ≤ w.heap.size := by omega
  subst hl
  have e1 : decide (len < 3) = false := by simp; omega
  have e2 : decide (64 < len) = false := by simp; omega
  have e3 : decide (far < 1) = true := by simpa using h2
  clear hblk hown
  go_enter Tryz.func57, Tryz.ntmps57
  go_wp2_with fail
  go_quiet (fail)
  go_wp2_with fail
  go_quiet (fail)
  go_wp2_with fail
  go_ret
  first | exact ⟨rfl, below_drewN ((Below.refl _ _).alloc hbH _) _, ((Keeps.refl _ _).alloc _).drewN _⟩ | exact ⟨rfl, below_drewN (below_drewN ((Below.refl _ _).alloc hbH _) _) _, (((Keeps.refl _ _).alloc _).drewN _).drewN _⟩

set_option maxHeartbeats 1000000 in
set_option maxRecDepth 100000 in
theorem tok_copy4 (base M d : Nat) (lit : Bool) (s : Bytes) (l : Bytes) (far len : Int) (w : World) (hM : Mk w base M d lit s) (hd : d ≤ s.length) (hs : s.length ≤ d + 512)
    (hl : l = []) (h0 : 3 ≤ len) (h1 : len ≤ 64) (h2 : 1 ≤ far) (h3 : (s.length : Int) < far) :
    Calls Tryz.prog 57 #[.pointer (some ⟨M, 0, none⟩), .agg #[S l, I far, I len]] w fun e w' => e = .returned (I 1) ∧ Below base w w' ∧ Keeps badMk w w' := by
  obtain ⟨hbM, A, cap, hblk, hown⟩ := hM
  have hlt : M < w.heap.size := (Array.getElem?_eq_some_iff.1 hblk).1
  have c0 : w.cell? ⟨M, 0, none⟩ = some (.slice A s.length cap) := by rw [cell_of_row w M 0 _ _ _ hblk]; rfl
  have c1 : w.cell? ⟨M, 1, none⟩ = some (.int .i64 d) := by rw [cell_of_row w M 1 _ _ _ hblk]; rfl
  have c2 : w.cell? ⟨M, 2, none⟩ = some (.bool lit) := by rw [cell_of_row w M 2 _ _ _ hblk]; rfl
  have hk1 : (0 : Int) ≤ (s.length : Int) - (d : Int) := by omega
  have hk2 : (s.length : Int) - (d : Int) ≤ 512 := by omega
  have hbH : base ≤ w.heap.size := by omega
  subst hl
  have e1 : decide (len < 3) = false := by simp; omega
  have e2 : decide (64 < len) = false := by simp; omega
  have e3 : decide (far < 1) = false := by simp; omega
  have e4 : decide ((s.length : Int) < far) = true := by simpa using h3
  clear hblk hown
  go_enter Tryz.func57, Tryz.ntmps57
  go_wp2_with fail
  go_quiet (fail)
  go_wp2_with fail
  go_quiet (fail)
  go_wp2_with fail
  go_ret
  first | exact ⟨rfl, below_drewN ((Below.refl _ _).alloc hbH _) _, ((Keeps.refl _ _).alloc _).drewN _⟩ | exact ⟨rfl, below_drewN (below_drewN ((Below.refl _ _).alloc hbH _) _) _, (((Keeps.refl _ _).alloc _).drewN _).drewN _⟩

set_option maxHeartbeats 1000000 in
set_option maxRecDepth 100000 in
theorem tok_copy5 (base M d : Nat) (lit : Bool) (s : Bytes) (l : Bytes) (far len : Int) (w : World) (hM : Mk w base M d lit s) (hd : d ≤ s.length) (hs : s.length ≤ d + 512)
    (hl : l = []) (h0 : 3 ≤ len) (h1 : len ≤ 64) (h2 : 1 ≤ far) (h3 : far ≤ (s.length : Int)) (hr : 512 < len + ((s.length - d : Nat) : Int)) :
    Calls Tryz.prog 57 #[.pointer (some ⟨M, 0, none⟩), .agg #[S l, I far, I len]] w fun e w' => e = .returned (I 2) ∧ Below base w w' ∧ Keeps badMk w w' := by
  obtain ⟨hbM, A, cap, hblk, hown⟩ := hM
  have hlt : M < w.heap.size := (Array.getElem?_eq_some_iff.1 hblk).1
  have c0 : w.cell? ⟨M, 0, none⟩ = some (.slice A s.length cap) := by rw [cell_of_row w M 0 _ _ _ hblk]; rfl
  have c1 : w.cell? ⟨M, 1, none⟩ = some (.int .i64 d) := by rw [cell_of_row w M 1 _ _ _ hblk]; rfl
  have c2 : w.cell? ⟨M, 2, none⟩ = some (.bool lit) := by rw [cell_of_row w M 2 _ _ _ hblk]; rfl
  have hk1 : (0 : Int) ≤ (s.length : Int) - (d : Int) := by omega
  have hk2 : (s.length : Int) - (d : Int) ≤ 512 := by omega
  have hbH : base ≤ w.heap.size := by omega
  subst hl
  have e1 : decide (len < 3) = false := by simp; omega
  have e2 : decide (64 < len) = false := by simp; omega
  have e3 : decide (far < 1) = false := by simp; omega
  have e4 : decide ((s.length : Int) < far) = false := by simp; omega
  have hk3 : 512 - ((s.length : Int) - (d : Int)) < len := by omega
  clear hblk hown
  go_enter Tryz.func57, Tryz.ntmps57
  go_wp2_with fail
  go_quiet (fail)
  go_wp2_with fail
  go_quiet (fail)
  go_wp2_with fail
  go_ret
  first | exact ⟨rfl, below_drewN ((Below.refl _ _).alloc hbH _) _, ((Keeps.refl _ _).alloc _).drewN _⟩ | exact ⟨rfl, below_drewN (below_drewN ((Below.refl _ _).alloc hbH _) _) _, (((Keeps.refl _ _).alloc _).drewN _).drewN _⟩

end Go.Proofs.YtbnmfdlaabdlhaaGreat

/- The walk of (*maker).tok where it copies. -/
namespace Go.Proofs.YtbnmfdlaabdlhaaGreat
open Go.RowKit Go.Lib Pl
attribute [local go_sem] ext_list app_list

set_option maxHeartbeats 1000000 in
set_option maxRecDepth 100000 in
theorem tok_copyok (base M d : Nat) (lit : Bool) (s : Bytes) (far len : Nat) (w : World) (hM : Mk w base M d lit s) (hd : d ≤ s.length) (hs : s.length ≤ d + 512) (hd2 : d ≤ 256)
    (h0 : 3 ≤ len) (h1 : len ≤ 64) (h2 : 1 ≤ far) (h3 : far ≤ s.length) (hr : len + (s.length - d) ≤ 512) :
    Calls Tryz.prog 57 #[.pointer (some ⟨M, 0, none⟩), .agg #[S [], I far, I len]] w fun e w' => e = .returned (I 0) ∧ Mk w' base M d false (copyB len far s) ∧ Below base w w' ∧ Keeps badMk w w' := by
  have hM0 := hM
  obtain ⟨hbM, A, cap, hblk, hown⟩ := hM
  have hlt : M < w.heap.size := (Array.getElem?_eq_some_iff.1 hblk).1
  have c0 : w.cell? ⟨M, 0, none⟩ = some (.slice A s.length cap) := by rw [cell_of_row w M 0 _ _ _ hblk]; rfl
  have c1 : w.cell? ⟨M, 1, none⟩ = some (.int .i64 d) := by rw [cell_of_row w M 1 _ _ _ hblk]; rfl
  have hk1 : (0 : Int) ≤ (s.length : Int) - (d : Int) := by omega
  have hk2 : (s.length : Int) - (d : Int) ≤ 512 := by omega
  have hbH : base ≤ w.heap.size := by omega
  have e1 : decide ((len : Int) < 3) = false := by simp; omega
  have e2 : decide (64 < (len : Int)) = false := by simp; omega
  have e3 : decide ((far : Int) < 1) = false := by simp; omega
  have e4 : decide ((s.length : Int) < (far : Int)) = false := by simp; omega
  have e5 : decide (s.length < far) = false := by simp; omega
  have hk3 : (len : Int) ≤ 512 - ((s.length : Int) - (d : Int)) := by omega
  have HM := hide hM0
  obtain ⟨i0, hi0, hz0, hz1, hz2⟩ := info_parts info_u8
  clear hblk hown hM0
  go_enter Tryz.func57, Tryz.ntmps57
  go_wp2_with fail
  go_quiet (fail)
  go_wp2_with fail
  go_quiet (fail)
  go_wp2_with fail
  clear e1 e2 e3 e4 e5 c0 c1
  go_loopw [82] (fun i wr => ∃ k : Nat, k ≤ len ∧ i = .int .i64 k ∧ Mk wr base M d lit (copyB k far s) ∧ Below base w wr ∧ Keeps badMk w wr ∧ wr.heap[w.heap.size]? = some (.cells #[S [], I far, I len] 50 (0, 0)))
    (fun i _ => len - (intOf i).toNat)
  case atStart =>
    refine ⟨0, by omega, rfl, ?_, ?_, ?_, ?_⟩
    · obtain ⟨a1, A, cap, a2, a3⟩ := unhide HM
      exact ⟨a1, A, cap, (Below.heap_alloc w _ M hlt).trans a2, (a3.alloc _)⟩
    · exact below_drewN ((Below.refl _ _).alloc hbH _) _
    · exact ((Keeps.refl _ _).alloc _).drewN _
    · exact heap_alloc_new w _
  case round =>
    obtain ⟨k, hk, rfl, hMk, hbel, hkeep, hpar⟩ := hrel
    have hlen := copyB_len k far s
    obtain ⟨s', hs'⟩ : ∃ s', s' = copyB k far s := ⟨_, rfl⟩
    rw [← hs'] at hlen hMk
    have hMk' := hMk
    obtain ⟨_, A1, cap1, hblk1, hown1⟩ := hMk
    have hMlt1 : M < wr.heap.size := (Array.getElem?_eq_some_iff.1 hblk1).1
    have c0 : wr.cell? ⟨M, 0, none⟩ = some (.slice A1 s'.length cap1) := by rw [cell_of_row wr M 0 _ _ _ hblk1]; rfl
    have c2 : wr.cell? ⟨M, 2, none⟩ = some (.bool lit) := by rw [cell_of_row wr M 2 _ _ _ hblk1]; rfl
    have p1 : wr.cell? ⟨w.heap.size, 1, none⟩ = some (I far) := by rw [cell_of_row wr _ 1 _ _ _ hpar]; rfl
    have p2 : wr.cell? ⟨w.heap.size, 2, none⟩ = some (I len) := by rw [cell_of_row wr _ 2 _ _ _ hpar]; rfl
    have f0 : wr.frozen? ⟨M, 0, none⟩ = false := by simp [World.frozen?, hblk1]
    have f2 : wr.frozen? ⟨M, 2, none⟩ = false := by simp [World.frozen?, hblk1]
    have hln : (s'.length : Int) = (s.length : Int) + k := by omega
    have HL := hide hln
    have hb3 : s'.length ≤ 832 := by omega
    by_cases hlk : k < len
    · obtain ⟨j, hj⟩ : ∃ j : Nat, j = s'.length - far := ⟨_, rfl⟩
      have hjlt : j < s'.length := by omega
      have hj2 : ((s'.length : Int) - (far : Int)).toNat = j := by omega
      have hj3 : (0 : Int) ≤ (s'.length : Int) - (far : Int) := by omega
      have hj4 : (s'.length : Int) - (far : Int) < (s'.length : Int) := by omega
      obtain ⟨g, capg, u, hv, hbg, hu, hcell⟩ := hown1.at_ (k := j) (by omega)
      injection hv with hvA _ hvc
      subst hvA hvc
      obtain ⟨c, hc⟩ : ∃ c, s'[j]? = some c := ⟨_, List.getElem?_eq_getElem hjlt⟩
      have huc : u = B c := by
        rw [List.getElem?_map, hc] at hu; simpa using hu.symm
      subst huc
      have HS := hide hs'
      have HJ := hide hj
      have HC := hide hc
      have HB := hide hblk1
      have HO := hide hown1
      have HP := hide hpar
      clear hlen hs' hj hu hblk1 hown1 hpar hln hc
      go_wp2_with fail
      go_quiet (fail)
      go_wp2_with (at_builtin; refine wpList_push_M rfl _ _ _ rfl base 5 i0 _ 1 Tryz.underlying55 hi0 hz0 hz1 hz2 rfl _ s'.length (s'.map B) rfl _ _ (by exact (unhide HO).drewN _) rfl rfl (by unfold maxLen; omega) (by omega) (by show base ≤ wr.heap.size; omega) ?_; intro g1 cap2 w1 hown1 hg1 hat1; have hm1 := mk_after (unhide HB) (unhide HO) (below_drewN_alloc wr _ _) hg1; have c0' := cell_of_row w1 M 0 _ _ _ hm1; simp at c0'; have f0' := free_row w1 M 0 _ _ hm1)
      have hend := mk_end (w2 := w1.setCell ⟨M, 0, none⟩ (.slice (some ⟨g1, 0, none⟩) (s'.length + 1) cap2)) (s1 := s' ++ [c]) hbM (unhide HB) (unhide HO) (below_drewN_alloc wr _ _) (by simpa using hown1) hg1 (by rw [set_row hm1]; rfl) (fun k hk => Below.heap_setCell _ _ _ _ hk) (size_setCell _ _ _) rfl rfl rfl
      obtain ⟨n1, n2, n3⟩ := hend
      clear hown1 hg1 hat1 hm1 c0' f0'
      go_roundw
      case rel =>
        refine ⟨k + 1, by omega, by go_num, ?_, hbel.trans n2, hkeep.trans n3, n3.block _ _ (unhide HP) rfl⟩
        rw [copyB_snoc, ← unhide HS, ← unhide HJ]
        have : s'.getD j 0 = c := by rw [List.getD_eq_getElem?_getD, unhide HC]; rfl
        rw [this]; exact n1
      case measure => simp [intOf]; omega
    · have hkl : k = len := by omega
      have HS := hide hs'
      have HB := hide hblk1
      have HO := hide hown1
      have HK := hide hkl
      clear hlen hs' hblk1 hown1 hpar hln hkl
      go_wp2_with fail
      go_ret
      rw [← unhide HK, ← unhide HS]
      refine ⟨rfl, ⟨hbM, A1, cap1, (set_row (unhide HB) _ _), (unhide HO).setCell (mk_far (unhide HB) (unhide HO)) _⟩, hbel.trans ?_, hkeep.trans ((Keeps.refl _ _).setCell _ (unhide HB) rfl)⟩
      exact (Below.refl _ _).setCell hbM _

end Go.Proofs.YtbnmfdlaabdlhaaGreat

/- (*maker).tok by one contract. -/
namespace Go.Proofs.YtbnmfdlaabdlhaaGreat
open Go.RowKit Go.Lib Pl

theorem tokE_le (d : Nat) (s : Bytes) (lit : Bool) (t : Tok) : tokE d s lit t ≤ 2 := by
  unfold tokE
  by_cases h1 : t.lit ≠ []
  · rw [if_pos h1]
    by_cases h2 : t.far ≠ 0 ∨ t.len ≠ 0 ∨ lit = true
    · rw [if_pos h2]; omega
    · rw [if_neg h2]; by_cases h3 : 512 < t.lit.length + (s.length - d)
      · rw [if_pos h3]; omega
      · rw [if_neg h3]; omega
  · rw [if_neg h1]
    by_cases h2 : t.len < 3 ∨ 64 < t.len ∨ t.far < 1 ∨ (s.length : Int) < t.far
    · rw [if_pos h2]; omega
    · rw [if_neg h2]; by_cases h3 : 512 < t.len + ((s.length - d : Nat) : Int)
      · rw [if_pos h3]; omega
      · rw [if_neg h3]; omega

theorem tok_any (base M d : Nat) (lit : Bool) (s : Bytes) (t : Tok) (w : World) (hM : Mk w base M d lit s) (hd : d ≤ s.length) (hs : s.length ≤ d + 512) (hd2 : d ≤ 256) :
    Calls Tryz.prog 57 #[.pointer (some ⟨M, 0, none⟩), TokV t] w fun e w' =>
      e = .returned (I (tokE d s lit t)) ∧ (tokE d s lit t = 0 → Mk w' base M d (isLit t) (tokS s t)) ∧ Below base w w' ∧ Keeps badMk w w' := by
  obtain ⟨l, far, len⟩ := t
  have noz : ∀ (n : Nat) (P : Prop), n ≠ 0 → (n = 0 → P) := fun n P h h2 => absurd h2 h
  by_cases hl : l = []
  · subst hl
    by_cases h1 : len < 3
    · have e : tokE d s lit ⟨[], far, len⟩ = 1 := by simp [tokE, h1]
      rw [e]; exact (tok_copy1 base M d lit s [] far len w hM hd hs rfl h1).mono fun _ _ ⟨a, b⟩ => ⟨a, noz _ _ (by omega), b⟩
    by_cases h2 : 64 < len
    · have e : tokE d s lit ⟨[], far, len⟩ = 1 := by simp [tokE, h2]
      rw [e]; exact (tok_copy2 base M d lit s [] far len w hM hd hs rfl h2).mono fun _ _ ⟨a, b⟩ => ⟨a, noz _ _ (by omega), b⟩
    by_cases h3 : far < 1
    · have e : tokE d s lit ⟨[], far, len⟩ = 1 := by simp [tokE, h3]
      rw [e]; exact (tok_copy3 base M d lit s [] far len w hM hd hs rfl (by omega) (by omega) h3).mono fun _ _ ⟨a, b⟩ => ⟨a, noz _ _ (by omega), b⟩
    by_cases h4 : (s.length : Int) < far
    · have e : tokE d s lit ⟨[], far, len⟩ = 1 := by simp [tokE, h4]
      rw [e]; exact (tok_copy4 base M d lit s [] far len w hM hd hs rfl (by omega) (by omega) (by omega) h4).mono fun _ _ ⟨a, b⟩ => ⟨a, noz _ _ (by omega), b⟩
    have hbad : ¬ (len < 3 ∨ 64 < len ∨ far < 1 ∨ (s.length : Int) < far) := by omega
    by_cases h5 : 512 < len + ((s.length - d : Nat) : Int)
    · have e : tokE d s lit ⟨[], far, len⟩ = 2 := by
        unfold tokE
        rw [if_neg (by simp), if_neg hbad, if_pos h5]
      rw [e]; exact (tok_copy5 base M d lit s [] far len w hM hd hs rfl (by omega) (by omega) (by omega) (by omega) h5).mono fun _ _ ⟨a, b⟩ => ⟨a, noz _ _ (by omega), b⟩
    · have e : tokE d s lit ⟨[], far, len⟩ = 0 := by
        unfold tokE
        rw [if_neg (by simp), if_neg hbad, if_neg h5]
      obtain ⟨f', rfl⟩ := Int.eq_ofNat_of_zero_le (show 0 ≤ far by omega)
      obtain ⟨n', rfl⟩ := Int.eq_ofNat_of_zero_le (show 0 ≤ len by omega)
      rw [e]
      refine (tok_copyok base M d lit s f' n' w hM hd hs hd2 (by omega) (by omega) (by omega) (by omega) (by omega)).mono fun _ _ ⟨a, b, c⟩ => ⟨a, fun _ => ?_, c⟩
      simpa [isLit, tokS] using b
  · by_cases h1 : far = 0
    · by_cases h2 : len = 0
      · by_cases h3 : lit = true
        · have e : tokE d s lit ⟨l, far, len⟩ = 1 := by simp [tokE, hl, h3]
          rw [e]; exact (tok_form3 base M d lit s l far len w hM hd hs hl h1 h2 h3).mono fun _ _ ⟨a, b⟩ => ⟨a, noz _ _ (by omega), b⟩
        · have h3 : lit = false := by simpa using h3
          by_cases h4 : 512 < l.length + (s.length - d)
          · have e : tokE d s lit ⟨l, far, len⟩ = 2 := by simp [tokE, hl, h1, h2, h3, h4]
            rw [e]; exact (tok_many base M d lit s l far len w hM hd hs hl h1 h2 h3 h4).mono fun _ _ ⟨a, b⟩ => ⟨a, noz _ _ (by omega), b⟩
          · have e : tokE d s lit ⟨l, far, len⟩ = 0 := by simp [tokE, hl, h1, h2, h3]; omega
            rw [e]
            refine (tok_litok base M d lit s l far len w hM hd hs hd2 hl ⟨h1, h2, h3⟩ (by omega)).mono fun _ _ ⟨a, b, c⟩ => ⟨a, fun _ => ?_, c⟩
            have e1 : l.isEmpty = false := by simpa using hl
            simpa [isLit, tokS, hl, e1] using b
      · have e : tokE d s lit ⟨l, far, len⟩ = 1 := by simp [tokE, hl, h2]
        rw [e]; exact (tok_form2 base M d lit s l far len w hM hd hs hl h1 h2).mono fun _ _ ⟨a, b⟩ => ⟨a, noz _ _ (by omega), b⟩
    · have e : tokE d s lit ⟨l, far, len⟩ = 1 := by simp [tokE, hl, h1]
      rw [e]; exact (tok_form1 base M d lit s l far len w hM hd hs hl h1).mono fun _ _ ⟨a, b⟩ => ⟨a, noz _ _ (by omega), b⟩

theorem tokS_len {d : Nat} {s : Bytes} {lit : Bool} {t : Tok} (h : tokE d s lit t = 0) (hs : s.length ≤ d + 512) (hd : d ≤ s.length) : d ≤ (tokS s t).length ∧ (tokS s t).length ≤ d + 512 ∧ s.length < (tokS s t).length := by
  obtain ⟨l, far, len⟩ := t
  unfold tokE at h
  unfold tokS
  by_cases hl : l = []
  · subst hl
    simp only [ne_eq, not_true_eq_false, if_false] at h ⊢
    rw [copyB_len]
    by_cases h1 : len < 3 ∨ 64 < len ∨ far < 1 ∨ (s.length : Int) < far
    · rw [if_pos h1] at h; cases h
    · rw [if_neg h1] at h
      by_cases h2 : 512 < len + ((s.length - d : Nat) : Int)
      · rw [if_pos h2] at h; cases h
      · omega
  · have hlp : 0 < l.length := List.length_pos_iff.2 hl
    simp only [ne_eq, hl, not_false_eq_true, if_true] at h ⊢
    rw [List.length_append]
    by_cases h1 : far ≠ 0 ∨ len ≠ 0 ∨ lit = true
    · rw [if_pos h1] at h; cases h
    · rw [if_neg h1] at h
      by_cases h2 : 512 < l.length + (s.length - d)
      · rw [if_pos h2] at h; cases h
      · omega

end Go.Proofs.YtbnmfdlaabdlhaaGreat

/- A slice of toks that reads as a list. -/
namespace Go.Proofs.YtbnmfdlaabdlhaaGreat
open Go.RowKit Go.Lib Pl

/-- The slice of address A and length n reads as the list l, below block Bd. -/
def ToksAt (w : World) (Bd : Nat) (A : Option Addr) (n : Nat) (l : List Tok) : Prop :=
  l.length = n ∧ (0 < n → ∃ b off, A = some ⟨b, off, none⟩ ∧ b < Bd ∧ ∀ i t, l[i]? = some t →
    w.cell? ⟨b, off + i * 3, none⟩ = some (S t.lit) ∧ w.cell? ⟨b, off + i * 3 + 1, none⟩ = some (I t.far) ∧ w.cell? ⟨b, off + i * 3 + 2, none⟩ = some (I t.len))

theorem ToksAt.keep {w w' : World} {Bd n : Nat} {A : Option Addr} {l : List Tok} (h : ToksAt w Bd A n l) (hk : ∀ p : Addr, p.block < Bd → w'.cell? p = w.cell? p) : ToksAt w' Bd A n l :=
  ⟨h.1, fun hn => by
    obtain ⟨b, off, e, hb, hc⟩ := h.2 hn
    refine ⟨b, off, e, hb, fun i t hi => ?_⟩
    obtain ⟨h1, h2, h3⟩ := hc i t hi
    exact ⟨(hk _ hb).trans h1, (hk _ hb).trans h2, (hk _ hb).trans h3⟩⟩
theorem ToksAt.below {w w' : World} {Bd n : Nat} {A : Option Addr} {l : List Tok} (h : ToksAt w Bd A n l) (hb : Below Bd w w') : ToksAt w' Bd A n l := h.keep fun _ hp => hb.cell hp
theorem ToksAt.at_ {w : World} {Bd n k : Nat} {A : Option Addr} {l : List Tok} (h : ToksAt w Bd A n l) (hk : k < n) : ∃ b off t, A = some ⟨b, off, none⟩ ∧ b < Bd ∧ l[k]? = some t ∧
    w.cell? ⟨b, off + k * 3, none⟩ = some (S t.lit) ∧ w.cell? ⟨b, off + k * 3 + 1, none⟩ = some (I t.far) ∧ w.cell? ⟨b, off + k * 3 + 2, none⟩ = some (I t.len) := by
  obtain ⟨b, off, e, hb, hc⟩ := h.2 (by omega)
  have hl : k < l.length := by have := h.1; omega
  exact ⟨b, off, l[k], e, hb, List.getElem?_eq_getElem hl, hc k _ (List.getElem?_eq_getElem hl)⟩

end Go.Proofs.YtbnmfdlaabdlhaaGreat

/- A row of toks of the call's own: append one. -/
namespace Go.Proofs.YtbnmfdlaabdlhaaGreat
open Go.RowKit Go.Lib Pl

def tokCells (t : Tok) : List Value := [S t.lit, I t.far, I t.len]
def toksCells (l : List Tok) : List Value := l.flatMap tokCells
theorem toksCells_len (l : List Tok) : (toksCells l).length = l.length * 3 := by
  induction l with
  | nil => rfl
  | cons t l ih => simp [toksCells, tokCells] at ih ⊢; omega
theorem toksCells_snoc (l : List Tok) (t : Tok) : toksCells (l ++ [t]) = toksCells l ++ tokCells t := by simp [toksCells]
theorem toksCells_get : ∀ (l : List Tok) (i : Nat) (t : Tok), l[i]? = some t → (toksCells l)[i * 3]? = some (S t.lit) ∧ (toksCells l)[i * 3 + 1]? = some (I t.far) ∧ (toksCells l)[i * 3 + 2]? = some (I t.len)
  | [], i, t, h => by simp at h
  | u :: l, 0, t, h => by simp at h; subst h; simp [toksCells, tokCells]
  | u :: l, i + 1, t, h => by
    have h' : l[i]? = some t := by simpa using h
    obtain ⟨a, b, c⟩ := toksCells_get l i t h'
    have e : toksCells (u :: l) = tokCells u ++ toksCells l := by simp [toksCells]
    have hl : (tokCells u).length = 3 := rfl
    rw [e]
    refine ⟨?_, ?_, ?_⟩
    · rw [List.getElem?_append_right (by omega), hl, show (i + 1) * 3 - 3 = i * 3 from by omega]; exact a
    · rw [List.getElem?_append_right (by omega), hl, show (i + 1) * 3 + 1 - 3 = i * 3 + 1 from by omega]; exact b
    · rw [List.getElem?_append_right (by omega), hl, show (i + 1) * 3 + 2 - 3 = i * 3 + 2 from by omega]; exact c

theorem info_tok : (Tryz.prog.info? 50).map (fun i => (i.zero, i.size, i.bytes)) = some (some (.agg #[.string ByteArray.empty, .int .i64 0, .int .i64 0]), 3, 32) := by kernel_rfl

/-- what is owned reads -/
theorem toksAt_of_own {w : World} {base n : Nat} {v : Value} {l : List Tok} (h : w.ownsRow base 50 3 v n (toksCells l)) : ∃ A cap, v = .slice A n cap ∧ ToksAt w w.heap.size A n l ∧ l.length = n := by
  have hn : l.length = n := by have := h.1; rw [toksCells_len] at this; omega
  rcases h.2 with ⟨rfl, h0⟩ | ⟨g, cap, cur, rfl, hb, hg, _⟩
  · subst h0
    exact ⟨_, _, rfl, ⟨hn, fun h => absurd h (by omega)⟩, hn⟩
  · refine ⟨_, _, rfl, ⟨hn, fun _ => ⟨g, 0, rfl, (Array.getElem?_eq_some_iff.1 hg).1, fun i t hi => ?_⟩⟩, hn⟩
    obtain ⟨a, b, c⟩ := toksCells_get l i t hi
    have hc := h.cells (g := g) rfl
    have e : ∀ j, (⟨g, 0, none⟩ : Addr).add j = ⟨g, 0 + j, none⟩ := fun j => by unfold Addr.add; split <;> simp_all
    have h0 := hc _ _ a
    have h1 := hc _ _ b
    have h2 := hc _ _ c
    rw [e] at h0 h1 h2
    exact ⟨h0, by rw [← h1, Nat.add_assoc], by rw [← h2, Nat.add_assoc]⟩

theorem own_below {w w' : World} {base e size n : Nat} {v : Value} {xs : List Value} (h : w.ownsRow base e size v n xs) (hb : Below w.heap.size w w') : w'.ownsRow base e size v n xs := by
  refine ⟨h.1, ?_⟩
  rcases h.2 with hn | ⟨g, cap, cur, hv, hbg, hgg, rest⟩
  · exact .inl hn
  · exact .inr ⟨g, cap, cur, hv, hbg, (hb.block g (Array.getElem?_eq_some_iff.1 hgg).1).trans hgg, rest⟩
theorem own_slice {w : World} {base e size n : Nat} {v : Value} {xs : List Value} (h : w.ownsRow base e size v n xs) : ∃ A cap, v = .slice A n cap := by
  rcases h.2 with ⟨rfl, rfl⟩ | ⟨g, cap, cur, rfl, _⟩
  · exact ⟨_, _, rfl⟩
  · exact ⟨_, _, rfl⟩

theorem cells3_new (w : World) (x y z : Value) (t : TypeId) : ∀ j u, [x, y, z][j]? = some u → (w.alloc (.cells #[x, y, z] t)).cell? ((⟨w.heap.size, 0, none⟩ : Addr).add j) = some u := by
  intro j u hj
  have e : (⟨w.heap.size, 0, none⟩ : Addr).add j = ⟨w.heap.size, j, none⟩ := by unfold Addr.add; split <;> simp_all
  rw [e, World.cell?_alloc_new]
  simpa using hj

/-- append(v, t) of one tok -/
theorem wpList_push_tok {w : World} {ops : Array Oper} {rest : List Oper} {o : Oper} {a : Act} {Q : Exit → Act → World → Prop} (hgd : o.guard = none) (s x : Operand)
    (ho : o.op = .call { callee := .builtin .append, args := #[s, x], argTypes := #[30, 30] })
    (base : Nat) (v : Value) (n : Nat) (l : List Tok) (hs : a.eval s = v) (hown : w.ownsRow base 50 3 v n (toksCells l)) (b : Bytes) (f m : Int)
    (hx : a.eval x = .slice (some ⟨w.heap.size, 0, none⟩) 1 1)
    (hn : n ≤ 1000000) (hbase : base ≤ w.heap.size)
    (h : ∀ A' cap' w', w'.ownsRow base 50 3 (.slice A' (n + 1) cap') (n + 1) (toksCells (l ++ [⟨b, f, m⟩])) → Below base w w' → (w.alloc (.cells #[S b, I f, I m] 50)).grownBy w' v.ownBlock → wpList Tryz.prog ops Q rest (a.put o.dst (.slice A' (n + 1) cap')) w') :
    wpList Tryz.prog ops Q (o :: rest) a (w.alloc (.cells #[S b, I f, I m] 50)) := by
  obtain ⟨i0, hi, hz0, hz1, hz2⟩ := info_parts info_tok
  refine wpList_append_own _ hgd s x _ ho base 50 i0 _ 3 32 Tryz.underlying30 hi hz0 hz1 hz2 rfl (by decide) v n (toksCells l) hs (hown.alloc _) ⟨w.heap.size, 0, none⟩ 1 1 [S b, I f, I m] hx rfl (cells3_new _ _ _ _ _) ?_ (by unfold maxLen; omega) (by omega) (by simp; omega) ?_
  · intro y hy
    simp at hy
    rcases hy with rfl | rfl | rfl <;> rfl
  · intro v' w' hown' hg _
    have hown2 : w'.ownsRow base 50 3 v' (n + 1) (toksCells (l ++ [⟨b, f, m⟩])) := by
      rw [toksCells_snoc]; exact hown'
    obtain ⟨A', cap', rfl, _⟩ := toksAt_of_own hown2
    refine h A' cap' w' hown2 ?_ hg
    exact ((Below.refl _ _).alloc hbase _).grown hg (by simp; omega) (fun k hk => (hown.lt k hk).1)

/-- the append of a tok, the new block's number under a letter -/
theorem wpList_push_tok_at {w : World} {ops : Array Oper} {rest : List Oper} {o : Oper} {a : Act} {Q : Exit → Act → World → Prop} (hgd : o.guard = none) (s x : Operand)
    (ho : o.op = .call { callee := .builtin .append, args := #[s, x], argTypes := #[30, 30] })
    (base : Nat) (v : Value) (n : Nat) (l : List Tok) (hs : a.eval s = v) (hown : w.ownsRow base 50 3 v n (toksCells l)) (b : Bytes) (f m : Int)
    (H : Nat) (hH : w.heap.size = H) (hx : a.eval x = .slice (some ⟨H, 0, none⟩) 1 1)
    (hn : n ≤ 1000000) (hbase : base ≤ w.heap.size)
    (h : ∀ A' cap' w', w'.ownsRow base 50 3 (.slice A' (n + 1) cap') (n + 1) (toksCells (l ++ [⟨b, f, m⟩])) → Below base w w' → (w.alloc (.cells #[S b, I f, I m] 50)).grownBy w' v.ownBlock → wpList Tryz.prog ops Q rest (a.put o.dst (.slice A' (n + 1) cap')) w') :
    wpList Tryz.prog ops Q (o :: rest) a (w.alloc (.cells #[S b, I f, I m] 50)) := by
  subst hH
  exact wpList_push_tok hgd s x ho base v n l hs hown b f m hx hn hbase h

end Go.Proofs.YtbnmfdlaabdlhaaGreat
