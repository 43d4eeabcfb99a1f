/- What the rows of this seat read. -/
import Derived.Test.YtikmniokbliolaaO
import Derived.Test.YtikmniokbliolaaT1
import Derived.Test.YtikmniokbliolaaRow
import Derived.SizedLaws
import Derived.Deep.Slices
import Derived.Deep.Fields
import Derived.ChangeSame
namespace Go.Proofs.Ytikmniokbliolaa
open Go.RowKit Go.Ext Go.ChangeShapes Go.WideShapes Go.ChangeAt Go.Joins Go.Deep

theorem Try.own : ownKnob Try.prog.godebug = none := by kernel_rfl
theorem Try.laidOut : laidOutB Try.prog = true := by kernel_rfl

theorem addr_none {b off j : Nat} : (⟨b, off, none⟩ : Addr).add j = ⟨b, off + j, none⟩ := by unfold Addr.add; split <;> simp_all

section
variable {H : Type} {enc : TypeId × Value → H}
theorem ints_read {W : World} {b0 : Nat} {v : Value} {d : DataW H} {p : List MemPlace} (hv : Value.okWide Try.prog W .any b0 22 v) (h : DataW.Trod enc Try.prog W 0 (fun _ => true) true 22 v d p) (hz : ∀ n ∈ d.weights Try.prog 22, n ≤ reachBytes) :
    ∃ zs : List Int, Ints W v zs ∧ ∀ x ∈ zs, I64 x := by
  obtain ⟨A, n, c, rfl⟩ := okWide_slice Try.underlying22 hv
  obtain ⟨fuel, hf⟩ := h
  rcases open_ints (k := .i64) Try.underlying22 Try.underlying3 (by kernel_rfl) hf with ⟨hcs, _⟩ | ⟨x, l, c', zs, hcs, _, hl, hm, hzl, hx, hcell, hwz⟩
  · simp [Value.cells] at hcs
    obtain ⟨rfl, rfl, rfl⟩ := hcs
    exact ⟨[], ⟨none, 0, rfl, by simp, fun h => absurd rfl h⟩, fun x hx => by simp at hx⟩
  · simp [Value.cells] at hcs
    obtain ⟨rfl, rfl, rfl⟩ := hcs
    have hlen : zs.length = c := by simpa using hzl
    injection hx with hx _
    rw [hx] at hz
    have hsz := hz _ (by
      simp only [DataW.weights, Try.underlying22]
      exact List.mem_cons_self ..)
    simp only [Go.ChangeShapes.lits, List.length_map, List.length_take, List.length_drop, hlen] at hsz
    have e1 : Try.prog.bytesOf 3 = 8 := by kernel_rfl
    rw [e1] at hsz
    unfold reachBytes at hsz
    have htl : (zs.take n).length = n := by rw [List.length_take]; omega
    refine ⟨zs.take n, ⟨some x, c, by rw [htl], by omega, fun hn => ?_⟩, fun y hy => ?_⟩
    · obtain ⟨b, off, spot⟩ := x
      have hn0 : 0 < n := by
        rcases Nat.eq_zero_or_pos n with e | e
        · subst e; simp at hn
        · exact e
      have hs : spot = none := by
        have := hcell 0 (by omega)
        simpa [Addr.add] using World.cell?_spot this
      subst hs
      refine ⟨b, off, rfl, fun j hj => ?_⟩
      rw [htl] at hj
      have h0 := hcell j (by omega)
      rw [addr_none] at h0
      have e : (zs.take n).getD j 0 = zs.getD j 0 := by simp [List.getD, hj]
      rw [e]
      exact h0
    · have hw := hwz y (List.mem_of_mem_take hy)
      have hr : -9223372036854775808 ≤ y ∧ y ≤ 9223372036854775807 := by simpa [Lit.wf, IntKind.min, IntKind.max, IntKind.signed, IntKind.bits] using hw
      exact hr
end
end Go.Proofs.Ytikmniokbliolaa
