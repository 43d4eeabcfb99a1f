/- Items by value. -/
import Derived.Test.YtikmniokbliolaaRead2
import Derived.Lib.SmallJoins
namespace Go.Proofs.Ytikmniokbliolaa
open Go.RowKit Go.Ext Go.ChangeShapes Go.WideShapes Go.ChangeAt Go.Joins Go.Deep Go.Lib

theorem array6 {α : Type} {cs : Array α} (h : cs.size = 6) : ∃ c0 c1 c2 c3 c4 c5, cs = #[c0, c1, c2, c3, c4, c5] := by
  obtain ⟨l⟩ := cs
  match l, h with
  | [c0, c1, c2, c3, c4, c5], _ => exact ⟨c0, c1, c2, c3, c4, c5, rfl⟩

section
variable {H : Type} {enc : TypeId × Value → H}
theorem item_read {W : World} {b0 : Nat} {v : Value} {d : DataW H} {p : List MemPlace} (hv : Value.okWide Try.prog W .any b0 33 v) (h : DataW.Trod enc Try.prog W 0 (fun _ => true) true 33 v d p) : ∃ x : It, v = iv x := by
  obtain ⟨cs, rfl, hsz⟩ := okWide_struct Try.underlying33 hv
  have e6 : Try.prog.cellsOf 33 = 6 := by kernel_rfl
  obtain ⟨c0, c1, c2, c3, c4, c5, rfl⟩ := array6 (hsz.trans e6)
  obtain ⟨fuel, hf⟩ := h
  obtain ⟨ys, n, _, hy, hl, hyl, hf⟩ := DataW.trod_struct Try.underlying33 hf
  have hint : ∀ (u : Value) (y : Option (DataW H × List MemPlace)), DataW.trod enc Try.prog W 0 (fun _ => true) true n 3 [u] = y → y.isSome → ∃ z, u = .int .i64 z := by
    intro u y h1 h2
    obtain ⟨y, rfl⟩ := Option.isSome_iff_exists.1 h2
    obtain ⟨z, e, _, _⟩ := DataW.trod_int Try.underlying3 h1
    injection e with e
    exact ⟨z, e⟩
  have hsome : ∀ j, j < 6 → (ys[j]?).isSome := fun j hj => by
    rw [List.getElem?_eq_getElem (by rw [hyl]; exact hj)]; rfl
  have g0 := hf 0 _ rfl
  have g1 := hf 1 _ rfl
  have g2 := hf 2 _ rfl
  have g3 := hf 3 _ rfl
  have g4 := hf 4 _ rfl
  have g5 := hf 5 _ rfl
  simp only [Value.cells] at g0 g1 g2 g3 g4 g5
  obtain ⟨z0', rfl⟩ := hint _ _ g0 (hsome 0 (by omega))
  obtain ⟨z1, rfl⟩ := hint _ _ g1 (hsome 1 (by omega))
  obtain ⟨z2, rfl⟩ := hint _ _ g2 (hsome 2 (by omega))
  obtain ⟨z3, rfl⟩ := hint _ _ g3 (hsome 3 (by omega))
  obtain ⟨z4, rfl⟩ := hint _ _ g4 (hsome 4 (by omega))
  obtain ⟨z5, rfl⟩ := hint _ _ g5 (hsome 5 (by omega))
  exact ⟨(z0', z1, z2, z3, z4, z5), rfl⟩
end
end Go.Proofs.Ytikmniokbliolaa
