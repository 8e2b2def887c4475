/- '!=' of two toks. -/
import Derived.Test.YtgfkkjcnnecefaaMaker
namespace Go.Proofs.Ytgfkkjcnnecefaa
open Go.RowKit Go.Lib Pl
theorem tok_fields : Try.prog.underlying 80 = some (.struct (Try.prog.fieldsOf 80)) := by kernel_rfl
theorem tok_stood : Try.prog.stoodInHeld 80 = false := by kernel_rfl
theorem tok_guard : Try.prog.eqGuardType Try.prog.depth 80 = false := by kernel_rfl

theorem S_eq (a b : Bytes) : ((⟨a.toArray⟩ : ByteArray).toList == (⟨b.toArray⟩ : ByteArray).toList) = decide (a = b) := by
  rw [ByteArray.toList_eq, ByteArray.toList_eq]
  simp [Bool.beq_eq_decide_eq]

theorem run_neq_tok (w : World) (a a' : Bytes) (b b' c c' : Int) : (binOp .neq 80 (.agg #[S a, I b, I c]) (.agg #[S a', I b', I c'])).run Try.prog w = .ok (.bool (!decide ((⟨a, b, c⟩ : Tok) = ⟨a', b', c'⟩))) w := by
  rw [run_neq_struct, run_equalIn_agg _ _ _ _ _ tok_fields tok_stood]
  simp only [Program.fieldsOf, Try.underlying80]
  have e1 : ∀ w, (Op.equalIn 9999 9 (S a) (S a')).run Try.prog w = .ok (decide (a = a')) w := fun w => by
    rw [run_equalIn_string w 9998 _ _ _ Try.underlying9, S_eq]
  have e2 : ∀ (x y : Int) w, (Op.equalIn 9999 3 (I x) (I y)).run Try.prog w = .ok (x == y) w := fun x y w => run_equalIn_int w 9998 _ _ _ x y Try.underlying3
  simp [Op.eqFields, part, e1, e2]
  by_cases h1 : a = a' <;> by_cases h2 : b = b' <;> by_cases h3 : c = c' <;> simp [h1, h2, h3]
end Go.Proofs.Ytgfkkjcnnecefaa
