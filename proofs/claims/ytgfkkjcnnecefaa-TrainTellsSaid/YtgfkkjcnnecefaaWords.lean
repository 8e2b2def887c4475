/- Small words for the walks: lists read as strings; hiding; one element appended; bits. -/
import Derived.Test.YtgfkkjcnnecefaaProg
import Derived.Test.YtgfkkjcnnecefaaPureNums
import Derived.WalkKit
import Derived.WalkSpells
import Derived.WalkLawsBesides
import Derived.Lib.Hide
import Derived.Deep.Draws
import Derived.Laws.OwnMore
import Derived.Laws.IdiomStrings
import Derived.Lib.BufferRead
import Derived.Maps.AppendAt
import Derived.Laws.BitsAllLaws
import Derived.Laws.BitsLemmas
namespace Go.Proofs.Ytgfkkjcnnecefaa
open Go.RowKit Go.Lib

/-- a string, as a list of bytes -/
abbrev S (l : List UInt8) : Value := .string ⟨l.toArray⟩
abbrev I (n : Int) : Value := .int .i64 n
abbrev B (b : UInt8) : Value := .int .u8 b.toNat

/-- a contract, said from the world in which the caller began -/
theorem acc {P : Program} {f : FuncId} {args : Array Value} {w0 W : World} {v : Value} (h : Calls P f args W fun e w' => e = .returned v ∧ Below W.heap.size W w') (hb : Below w0.heap.size w0 W) :
    Calls P f args W fun e w' => e = .returned v ∧ Below w0.heap.size w0 w' :=
  h.mono fun _ _ ⟨he, h1⟩ => ⟨he, hb.trans (h1.mono hb.size)⟩
theorem still {P : Program} {f : FuncId} {args : Array Value} {W : World} {v : Value} (h : Calls P f args W fun e w' => e = .returned v ∧ W = w') :
    Calls P f args W fun e w' => e = .returned v ∧ Below W.heap.size W w' :=
  h.mono fun _ _ ⟨he, h1⟩ => ⟨he, by subst h1; exact Below.refl _ _⟩

theorem hide {p : Prop} (h : p) : Hid p := h
theorem unhide {p : Prop} (h : Hid p) : p := h

theorem info_u8 : (Try.prog.info? 5).map (fun i => (i.zero, i.size, i.bytes)) = some (some (.int .u8 0), 1, 1) := by kernel_rfl

theorem ext_list (l : List UInt8) (a b : Nat) : (⟨l.toArray⟩ : ByteArray).extract a b = ⟨(Pl.slice l a b).toArray⟩ := by
  apply ByteArray.ext
  simp [Pl.slice, ByteArray.data_extract, List.extract_toArray, List.extract_eq_take_drop, List.drop_take]

theorem app_list (a b : List UInt8) : (⟨a.toArray⟩ : ByteArray) ++ (⟨b.toArray⟩ : ByteArray) = ⟨(a ++ b).toArray⟩ := by
  apply ByteArray.ext; simp

/-- append(v, x) of one element of one cell -/
theorem wpList_push {P : Program} {w : World} {ops : Array Oper} {rest : List Oper} {o : Oper} {a : Act} {Q : Exit → Act → World → Prop} (hgd : o.guard = none) (s x : Operand) (t : TypeId)
    (ho : o.op = .call { callee := .builtin .append, args := #[s, x], argTypes := #[t, t] })
    (base : Nat) (e : TypeId) (i : TypeInfo) (z : Value) (bytes : Nat) (ht : P.underlying t = some (.slice e)) (hi : P.info? e = some i) (hz : i.zero = some z)
    (hsize : i.size = 1) (hby : i.bytes = bytes) (hzs : z.cells.size = 1)
    (v : Value) (n : Nat) (xs : List Value) (hs : a.eval s = v) (hown : w.ownsRow base e 1 v n xs) (u : Value) (te : TypeId)
    (hx : a.eval x = .slice (some ⟨w.heap.size, 0, none⟩) 1 1) (h1 : u.oneCell' = true)
    (h63 : n + 1 ≤ maxLen) (hbytes : (n + 1) * bytes ≤ 140737488355328) (hbase : base ≤ w.heap.size)
    (h : ∀ v' w', w'.ownsRow base e 1 v' (n + 1) (xs ++ [u]) → Below base w w' → (w.alloc (.cells #[u] te)).grownBy w' v.ownBlock → wpList P ops Q rest (a.put o.dst v') w') :
    wpList P ops Q (o :: rest) a (w.alloc (.cells #[u] te)) := by
  refine wpList_append_own _ hgd s x t ho base e i z 1 bytes ht hi hz hsize hby hzs (by decide) v n xs hs (hown.alloc _) ⟨w.heap.size, 0, none⟩ 1 1 [u] hx rfl (cell_one_new _ _ _) ?_ h63 hbytes ?_ ?_
  · intro y hy; simp at hy; subst hy; exact h1
  · simp; omega
  · intro v' w' hown' hg _
    refine h v' w' hown' ?_ hg
    exact ((Below.refl _ _).alloc hbase _).grown hg (by simp; omega) (fun k hk => (hown.lt k hk).1)

/-- string(b) of a row of the call's own -/
theorem run_str_own {P : Program} {w : World} {base e : Nat} {v : Value} {n : Nat} {l : List UInt8} (h : w.ownsRow base e 1 v n (l.map B)) (src dst : TypeId)
    (hs : P.underlying src = some (.slice e)) (he : P.underlying e = some (.int .u8)) (hd : P.underlying dst = some .string) :
    (convert src dst v).run P w = .ok (S l) w := by
  have hn : l.length = n := by have := h.1; simpa using this
  rcases h.2 with ⟨rfl, h0⟩ | ⟨g, cap, cur, rfl, _⟩
  · subst h0
    have : l = [] := List.eq_nil_of_length_eq_zero hn
    subst this
    exact run_convert_nil_bytes w src dst e 0 hs he hd
  · subst hn
    refine run_convert_bytes_back w src dst e _ cap l hs he hd ?_
    intro j hj
    refine h.cells (g := g) rfl j _ ?_
    simp [hj]

/-- what was appended, read as a byte -/
theorem own_byte {w : World} {base e : Nat} {v : Value} {n : Nat} {l : List UInt8} {x : Int} (b : UInt8) (h : w.ownsRow base e 1 v n (l.map B ++ [.int .u8 x])) (hb : (b.toNat : Int) = x) :
    w.ownsRow base e 1 v n ((l ++ [b]).map B) := by
  subst hb; simpa using h
theorem byte_of (k : Nat) (h : k < 256) : ∃ b : UInt8, b = UInt8.ofNat k ∧ (b.toNat : Int) = k := ⟨_, rfl, by simp [UInt8.toNat_ofNat']; omega⟩
theorem ofNat_toNat {k : Nat} (h : k < 256) : ((UInt8.ofNat k).toNat : Int) = k := by
  simp [UInt8.toNat_ofNat']; omega

/-- string([]byte{x}) -/
theorem run_conv1 {P : Program} (w : World) (g : Nat) {x : Int} (b : UInt8) (hx : (b.toNat : Int) = x) (hc : w.cell? ⟨g, 0, none⟩ = some (.int .u8 x)) (src dst e : TypeId)
    (hs : P.underlying src = some (.slice e)) (he : P.underlying e = some (.int .u8)) (hd : P.underlying dst = some .string) :
    (convert src dst (.slice (some ⟨g, 0, none⟩) 1 1)).run P w = .ok (S [b]) w := by
  subst hx
  refine run_convert_bytes_back w src dst e _ 1 [b] hs he hd ?_
  intro j hj
  have hj0 : j = 0 := by simp at hj; omega
  subst hj0
  simpa [Addr.add] using hc
theorem run_conv1_new {P : Program} (w : World) {x : Int} (b : UInt8) (hx : (b.toNat : Int) = x) (t src dst e : TypeId)
    (hs : P.underlying src = some (.slice e)) (he : P.underlying e = some (.int .u8)) (hd : P.underlying dst = some .string) :
    (convert src dst (.slice (some ⟨w.heap.size, 0, none⟩) 1 1)).run P (w.alloc (.cells #[.int .u8 x] t)) = .ok (S [b]) (w.alloc (.cells #[.int .u8 x] t)) :=
  run_conv1 _ _ b hx (by simp) src dst e hs he hd
theorem run_conv1_drew {P : Program} (w : World) {x : Int} (b : UInt8) (hx : (b.toNat : Int) = x) (t src dst e : TypeId)
    (hs : P.underlying src = some (.slice e)) (he : P.underlying e = some (.int .u8)) (hd : P.underlying dst = some .string) :
    (convert src dst (.slice (some ⟨w.heap.size, 0, none⟩) 1 1)).run P (w.alloc (.cells #[.int .u8 x] t)).drew = .ok (S [b]) (w.alloc (.cells #[.int .u8 x] t)).drew :=
  run_conv1 _ _ b hx (by show (w.alloc (.cells #[.int .u8 x] t)).cell? _ = _; simp) src dst e hs he hd
theorem run_conv1_later {P : Program} {w w' : World} {t : TypeId} {x : Int} (b : UInt8) (hx : (b.toNat : Int) = x) (hb : Below (w.alloc (.cells #[.int .u8 x] t)).heap.size (w.alloc (.cells #[.int .u8 x] t)) w') (src dst e : TypeId)
    (hs : P.underlying src = some (.slice e)) (he : P.underlying e = some (.int .u8)) (hd : P.underlying dst = some .string) :
    (convert src dst (.slice (some ⟨w.heap.size, 0, none⟩) 1 1)).run P w' = .ok (S [b]) w' :=
  run_conv1 _ _ b hx (cell_later hb (by simp)) src dst e hs he hd
theorem run_conv1_later_drew {P : Program} {w w' : World} {t : TypeId} {x : Int} (b : UInt8) (hx : (b.toNat : Int) = x) (hb : Below (w.alloc (.cells #[.int .u8 x] t)).drew.heap.size (w.alloc (.cells #[.int .u8 x] t)).drew w') (src dst e : TypeId)
    (hs : P.underlying src = some (.slice e)) (he : P.underlying e = some (.int .u8)) (hd : P.underlying dst = some .string) :
    (convert src dst (.slice (some ⟨w.heap.size, 0, none⟩) 1 1)).run P w' = .ok (S [b]) w' :=
  run_conv1 _ _ b hx (cell_later hb (by show (w.alloc (.cells #[.int .u8 x] t)).cell? _ = _; simp)) src dst e hs he hd

theorem or128 (x : Int) (h0 : 0 ≤ x) (h1 : x < 256) : bits .or .u8 x 128 = 128 + x % 128 := by
  have h : ∀ y : Fin 256, bits .or .u8 (y.val : Int) 128 = 128 + (y.val : Int) % 128 := by decide +kernel
  have := h ⟨x.toNat, by omega⟩
  have e : ((x.toNat : Nat) : Int) = x := by omega
  rw [e] at this; exact this

theorem and127 (c : UInt8) : bits .and .u8 (c.toNat : Int) 127 = ((c.toNat % 128 : Nat) : Int) := by
  have h : ∀ y : Fin 256, bits .and .u8 (y.val : Int) 127 = ((y.val % 128 : Nat) : Int) := by decide +kernel
  exact h ⟨c.toNat, c.toNat_lt⟩

theorem ofInt_i64 (a : Nat) (ha : a < 9223372036854775808) : (BitVec.ofInt 64 (a : Int)).toNat = a := by
  rw [BitVec.ofInt_natCast, BitVec.toNat_ofNat]; exact Nat.mod_eq_of_lt (by omega)
theorem i64_and_nat (a b : Nat) (ha : a < 9223372036854775808) (hb : b < 9223372036854775808) : bits .and .i64 (a : Int) (b : Int) = ((a &&& b : Nat) : Int) := by
  have hx : a &&& b < 2 ^ 63 := Nat.and_lt_two_pow _ (by omega)
  show IntKind.i64.wrap ((BitVec.ofInt 64 (a : Int) &&& BitVec.ofInt 64 (b : Int)).toNat : Int) = _
  rw [BitVec.toNat_and, ofInt_i64 a ha, ofInt_i64 b hb, IntKind.wrap_i64]
  omega
theorem i64_or_nat (a b : Nat) (ha : a < 9223372036854775808) (hb : b < 9223372036854775808) : bits .or .i64 (a : Int) (b : Int) = ((a ||| b : Nat) : Int) := by
  have hx : a ||| b < 2 ^ 63 := Nat.or_lt_two_pow (by omega) (by omega)
  show IntKind.i64.wrap ((BitVec.ofInt 64 (a : Int) ||| BitVec.ofInt 64 (b : Int)).toNat : Int) = _
  rw [BitVec.toNat_or, ofInt_i64 a ha, ofInt_i64 b hb, IntKind.wrap_i64]
  omega

/-- seven bits more -/
theorem or7 (acc x k : Nat) (ha : acc < 128 ^ k) (hx : x < 128) (hk : k < 5) : bits .or .i64 (acc : Int) (wrap64 ((x : Int) * 2 ^ (7 * k))) = ((acc + x * 128 ^ k : Nat) : Int) := by
  have e : (2 : Int) ^ (7 * k) = ((128 ^ k : Nat) : Int) := by
    have : (128 : Nat) ^ k = 2 ^ (7 * k) := by rw [Nat.pow_mul]
    rw [this]; norm_cast
  have hp : (128 : Nat) ^ k ≤ 128 ^ 4 := Nat.pow_le_pow_right (by omega) (by omega)
  have hm : x * 128 ^ k ≤ 127 * 128 ^ 4 := Nat.mul_le_mul (by omega) hp
  rw [e, ← Int.natCast_mul]
  have hw : wrap64 ((x * 128 ^ k : Nat) : Int) = ((x * 128 ^ k : Nat) : Int) := IntWalk.wrap64_in _ ⟨by omega, by omega⟩
  rw [hw, i64_or_nat _ _ (by omega) (by omega)]
  congr 1
  have e2 : x * 128 ^ k = x <<< (7 * k) := by
    rw [Nat.shiftLeft_eq]; congr 1; rw [Nat.pow_mul]
  rw [e2, Nat.or_comm, ← Nat.shiftLeft_add_eq_or_of_lt (by rw [Nat.pow_mul]; exact ha)]
  omega

end Go.Proofs.Ytgfkkjcnnecefaa
