import Derived.Test.YtikmniokbliolaaO
import Derived.Laws.StructEq
namespace Go.Proofs.Ytikmniokbliolaa
open Go.RowKit Go.Ext Go.BigFrame

theorem guard33 : Try.prog.eqGuardType Try.prog.depth 33 = false := by kernel_rfl
theorem guard40 : Try.prog.eqGuardType Try.prog.depth 40 = false := by kernel_rfl
theorem stood33 : Try.prog.stoodInHeld 33 = false := by kernel_rfl
theorem stood40 : Try.prog.stoodInHeld 40 = false := by kernel_rfl
theorem str33 : Try.prog.underlying 33 = some (.struct (Try.prog.fieldsOf 33)) := by kernel_rfl
theorem str40 : Try.prog.underlying 40 = some (.struct (Try.prog.fieldsOf 40)) := by kernel_rfl

theorem eqI (a b c d e f a' b' c' d' e' f' : Int) : decide (((a', b', c', d', e', f') : It) = (a, b, c, d, e, f)) = (((((((a' == a) && (b' == b)) && (c' == c)) && (d' == d)) && (e' == e)) && (f' == f))) := by
  rw [Bool.eq_iff_iff]
  simp only [decide_eq_true_eq, Prod.mk.injEq, Bool.and_eq_true, beq_iff_eq, and_assoc]

theorem equal33 (a b c d e f a' b' c' d' e' f' : Int) (w : World) : (Op.equalIn 10000 33 (.agg #[.int .i64 a', .int .i64 b', .int .i64 c', .int .i64 d', .int .i64 e', .int .i64 f']) (.agg #[.int .i64 a, .int .i64 b, .int .i64 c, .int .i64 d, .int .i64 e, .int .i64 f])).run Try.prog w = .ok (decide (((a', b', c', d', e', f') : It) = (a, b, c, d, e, f))) w := by
  rw [eqI]
  have u3 := Try.underlying3
  have a3 := Try.isAgg3
  have z3 := Try.sizeOf3
  rw [show (10000 : Nat) = 9999 + 1 from rfl, run_equalIn_agg w 9999 33 _ _ str33 stood33]
  simp only [Program.fieldsOf, Try.underlying33]
  go_simp
  cases h1 : a' == a <;> cases h2 : b' == b <;> cases h3 : c' == c <;> cases h4 : d' == d <;> cases h5 : e' == e <;> cases h6 : f' == f <;> simp_all
theorem equal40 (a b c d e f a' b' c' d' e' f' : Int) (w : World) : (Op.equalIn 10000 40 (.agg #[.int .i64 a', .int .i64 b', .int .i64 c', .int .i64 d', .int .i64 e', .int .i64 f']) (.agg #[.int .i64 a, .int .i64 b, .int .i64 c, .int .i64 d, .int .i64 e, .int .i64 f])).run Try.prog w = .ok (decide (((a', b', c', d', e', f') : It) = (a, b, c, d, e, f))) w := by
  rw [eqI]
  have u3 := Try.underlying3
  have a3 := Try.isAgg3
  have z3 := Try.sizeOf3
  rw [show (10000 : Nat) = 9999 + 1 from rfl, run_equalIn_agg w 9999 40 _ _ str40 stood40]
  simp only [Program.fieldsOf, Try.underlying40]
  go_simp
  cases h1 : a' == a <;> cases h2 : b' == b <;> cases h3 : c' == c <;> cases h4 : d' == d <;> cases h5 : e' == e <;> cases h6 : f' == f <;> simp_all

section
variable (a b c d e f a' b' c' d' e' f' : Int) (w : World)
theorem eq33 : (binOp .eql 33 (.agg #[.int .i64 a', .int .i64 b', .int .i64 c', .int .i64 d', .int .i64 e', .int .i64 f']) (.agg #[.int .i64 a, .int .i64 b, .int .i64 c, .int .i64 d, .int .i64 e, .int .i64 f])).run Try.prog w = .ok (.bool (decide (((a', b', c', d', e', f') : It) = (a, b, c, d, e, f)))) w := by
  rw [run_eql_struct, equal33]; rfl
theorem ne33 : (binOp .neq 33 (.agg #[.int .i64 a', .int .i64 b', .int .i64 c', .int .i64 d', .int .i64 e', .int .i64 f']) (.agg #[.int .i64 a, .int .i64 b, .int .i64 c, .int .i64 d, .int .i64 e, .int .i64 f])).run Try.prog w = .ok (.bool (!decide (((a', b', c', d', e', f') : It) = (a, b, c, d, e, f)))) w := by
  rw [run_neq_struct, equal33]; rfl
theorem eq40 : (binOp .eql 40 (.agg #[.int .i64 a', .int .i64 b', .int .i64 c', .int .i64 d', .int .i64 e', .int .i64 f']) (.agg #[.int .i64 a, .int .i64 b, .int .i64 c, .int .i64 d, .int .i64 e, .int .i64 f])).run Try.prog w = .ok (.bool (decide (((a', b', c', d', e', f') : It) = (a, b, c, d, e, f)))) w := by
  rw [run_eql_struct, equal40]; rfl
theorem ne40 : (binOp .neq 40 (.agg #[.int .i64 a', .int .i64 b', .int .i64 c', .int .i64 d', .int .i64 e', .int .i64 f']) (.agg #[.int .i64 a, .int .i64 b, .int .i64 c, .int .i64 d, .int .i64 e, .int .i64 f])).run Try.prog w = .ok (.bool (!decide (((a', b', c', d', e', f') : It) = (a, b, c, d, e, f)))) w := by
  rw [run_neq_struct, equal40]; rfl
end
end Go.Proofs.Ytikmniokbliolaa
