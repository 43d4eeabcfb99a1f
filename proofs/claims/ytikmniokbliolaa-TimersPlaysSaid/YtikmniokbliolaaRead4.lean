/- A row of acts. -/
import Derived.Test.YtikmniokbliolaaRead3
import Derived.Test.YtikmniokbliolaaE1
namespace Go.Proofs.Ytikmniokbliolaa
open Go.RowKit Go.Ext Go.ChangeShapes Go.WideShapes Go.ChangeAt Go.Joins Go.Deep Go.Lib

theorem list8 {α : Type} {l : List α} (h : l.length = 8) : ∃ c0 c1 c2 c3 c4 c5 c6 c7, l = [c0, c1, c2, c3, c4, c5, c6, c7] := by
  match l, h with
  | [c0, c1, c2, c3, c4, c5, c6, c7], _ => exact ⟨c0, c1, c2, c3, c4, c5, c6, c7, rfl⟩

section
variable {H : Type} {enc : TypeId × Value → H}
theorem act_cells {W : World} {n : Nat} {cs : List Value} {x : DataW H × List MemPlace} (hl : cs.length = 8) (h : DataW.trod enc Try.prog W 0 (fun _ => true) true n 53 cs = some x) :
    ∃ o a b c d e f k : Int, cs = [.int .i64 o, .int .i64 a, .int .i64 b, .int .i64 c, .int .i64 d, .int .i64 e, .int .i64 f, .int .i64 k] := by
  obtain ⟨c0, c1, c2, c3, c4, c5, c6, c7, rfl⟩ := list8 hl
  obtain ⟨ys, n', _, hy, _, hyl, hf⟩ := DataW.trod_struct Try.underlying53 h
  have hint : ∀ (m : Nat) (u : Value) (y : Option (DataW H × List MemPlace)), DataW.trod enc Try.prog W 0 (fun _ => true) true m 3 [u] = y → y.isSome → ∃ z, u = .int .i64 z := by
    intro m u y h1 h2
    obtain ⟨y, rfl⟩ := Option.isSome_iff_exists.1 h2
    obtain ⟨z, e, _, _⟩ := DataW.trod_int Try.underlying3 h1
    injection e with e
    exact ⟨z, e⟩
  have hsome : ∀ j, j < 3 → (ys[j]?).isSome := fun j hj => by
    rw [List.getElem?_eq_getElem (by rw [hyl]; exact hj)]; rfl
  have g0 := hf 0 _ rfl
  have g1 := hf 1 _ rfl
  have g2 := hf 2 _ rfl
  obtain ⟨o, rfl⟩ := hint _ _ _ g0 (hsome 0 (by omega))
  obtain ⟨k, rfl⟩ := hint _ _ _ g2 (hsome 2 (by omega))
  obtain ⟨y1, hy1⟩ := Option.isSome_iff_exists.1 (hsome 1 (by omega))
  rw [hy1] at g1
  have g1' : DataW.trod enc Try.prog W 0 (fun _ => true) true n' 33 [c1, c2, c3, c4, c5, c6] = some y1 := g1
  obtain ⟨zs, m, _, _, _, hzl, hg⟩ := DataW.trod_struct Try.underlying33 g1'
  have zsome : ∀ j, j < 6 → (zs[j]?).isSome := fun j hj => by
    rw [List.getElem?_eq_getElem (by rw [hzl]; exact hj)]; rfl
  obtain ⟨a, rfl⟩ := hint _ _ _ (hg 0 _ rfl) (zsome 0 (by omega))
  obtain ⟨b, rfl⟩ := hint _ _ _ (hg 1 _ rfl) (zsome 1 (by omega))
  obtain ⟨c, rfl⟩ := hint _ _ _ (hg 2 _ rfl) (zsome 2 (by omega))
  obtain ⟨d, rfl⟩ := hint _ _ _ (hg 3 _ rfl) (zsome 3 (by omega))
  obtain ⟨e, rfl⟩ := hint _ _ _ (hg 4 _ rfl) (zsome 4 (by omega))
  obtain ⟨f, rfl⟩ := hint _ _ _ (hg 5 _ rfl) (zsome 5 (by omega))
  exact ⟨o, a, b, c, d, e, f, k, rfl⟩
end
end Go.Proofs.Ytikmniokbliolaa
