import Derived.Test.YtikmniokbliolaaT1
import Derived.Test.YtikmniokbliolaaO
import Derived.DeepKeys4
namespace Go.Proofs.Ytikmniokbliolaa
open Go.RowKit Go.Ext Go.BigFrame Go.Maps

/-- The numbers of an item are numbers of 64 bits. -/
def ItOk (x : It) : Prop := I64 x.1 ∧ I64 x.2.1 ∧ I64 x.2.2.1 ∧ I64 x.2.2.2.1 ∧ I64 x.2.2.2.2.1 ∧ I64 x.2.2.2.2.2

theorem laid33 : laidOutB Try.prog = true := by kernel_rfl
theorem fuel33 : Try.prog.types.size = 98 := by kernel_rfl
theorem row33 : 33 < Try.prog.types.size := by rw [fuel33]; omega
theorem keyed33 : Keyed Try.prog 33 := Keyed.of_law (deep_law_laid laid33 (m := 2) (by omega) row33 (by kernel_rfl) (by kernel_rfl))
theorem keyType33 : Try.prog.keyType 33 = true := by kernel_rfl
theorem cellsOf33 : Try.prog.cellsOf 33 = 6 := by kernel_rfl
theorem cellsOf3 : Try.prog.cellsOf 3 = 1 := by kernel_rfl
theorem lits_int (d : Nat) {n : Int} (h : I64 n) : Try.prog.keyLits (d + 1) 3 [.int .i64 n] = some [.int .i64 n] := by simp [Program.keyLits, Try.underlying3, h.wf]

theorem key33 {x : It} (h : ItOk x) : ∃ l, keyOf Try.prog 33 (iv x) = some l := by
  obtain ⟨h1, h2, h3, h4, h5, h6⟩ := h
  have e1 := lits_int 97 h1
  have e2 := lits_int 97 h2
  have e3 := lits_int 97 h3
  have e4 := lits_int 97 h4
  have e5 := lits_int 97 h5
  have e6 := lits_int 97 h6
  obtain ⟨a, b, c, d, e, f⟩ := x
  simp only at e1 e2 e3 e4 e5 e6
  refine ⟨.string (keyBytes [.int .i64 a, .int .i64 b, .int .i64 c, .int .i64 d, .int .i64 e, .int .i64 f]), ?_⟩
  unfold keyOf
  rw [Try.underlying33]
  simp only [keyType33, iv, Value.formed, Try.underlying33, cellsOf33, Value.cells, fuel33, Bool.true_and]
  rw [show (98 + 1 : Nat) = 98 + 1 from rfl]
  unfold Program.keyLits
  rw [Try.underlying33]
  simp [cellsOf33, cellsOf3, e1, e2, e3, e4, e5, e6]
end Go.Proofs.Ytikmniokbliolaa
