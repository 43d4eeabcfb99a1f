/- What the rows of this seat read of bytes. -/
import Derived.Test.YtlencagfkajcnaaN2
import Derived.Test.YtlencagfkajcnaaRow
import Derived.SizedLaws
import Derived.Deep.Slices
import Derived.Deep.Fields
import Derived.ChangeSame
namespace Go.Proofs.Ytlencagfkajcnaa
open Go.RowKit Go.Ext Go.ChangeShapes Go.WideShapes Go.ChangeAt Go.Joins Go.Deep

theorem Try.own : ownKnob Try.prog.godebug = none := by kernel_rfl
theorem Try.laidOut : laidOutB Try.prog = true := by kernel_rfl
theorem addr_none {b off j : Nat} : (⟨b, off, none⟩ : Addr).add j = ⟨b, off + j, none⟩ := by unfold Addr.add; split <;> simp_all

section
variable {H : Type} {enc : TypeId × Value → H}
theorem bys_trod {W : World} {fuel : Nat} {v : Value} {y : DataW H × List MemPlace} (h : DataW.trod enc Try.prog W 0 (fun _ => true) true fuel 22 [v] = some y) (hz : ∀ n ∈ y.1.weights Try.prog 22, n ≤ reachBytes) :
    ∃ bs, Bys W v bs := by
  rcases open_ints (k := .u8) Try.underlying22 Try.underlying5 (by kernel_rfl) h with ⟨hcs, _⟩ | ⟨a, len, cap, zs, hcs, _, hl, hm, hlen, hx, hcell, hw⟩
  · injection hcs with hcs
    subst hcs
    exact ⟨[], none, 0, rfl, by simp, Rd.nil _ _, fun _ => rfl⟩
  · injection hcs with hcs
    subst hcs
    have hcap : zs.length = cap := by simpa using hlen
    have hb : cap ≤ 140737488351232 := by
      have := hz _ (by
        rw [hx]
        simp only [DataW.weights, Try.underlying22]
        exact List.mem_cons_self ..)
      simp only [Go.ChangeShapes.lits, List.length_map, List.length_take, List.length_drop, hcap] at this
      have e1 : Try.prog.bytesOf 5 = 1 := by kernel_rfl
      rw [e1] at this
      unfold reachBytes at this
      omega
    refine ⟨(zs.take len).map (fun z => UInt8.ofNat z.toNat), some a, cap, by simp; omega, by simp; omega, fun hne => ?_, fun e => by cases e⟩
    have h0 : 0 < len := by
      rcases Nat.eq_zero_or_pos len with h0 | h0
      · subst h0; simp [bc] at hne
      · exact h0
    obtain ⟨b, off, spot⟩ := a
    have hs : spot = none := by
      have := hcell 0 (by omega)
      simpa [Addr.add] using World.cell?_spot this
    subst hs
    refine ⟨b, off, rfl, fun j u hu => ?_⟩
    have hj : j < len := by
      have := (List.getElem?_eq_some_iff.1 hu).1
      simp [bc] at this; omega
    have := hcell j (by omega)
    rw [addr_none] at this
    rw [this, ← hu]
    have hwz := hw (zs[j]'(by omega)) (List.getElem_mem _)
    have hr : 0 ≤ zs[j]'(by omega) ∧ zs[j]'(by omega) ≤ 255 := by simpa [Lit.wf, IntKind.min, IntKind.max, IntKind.signed, IntKind.bits] using hwz
    simp [bc, hj, List.getD, show j < zs.length by omega]
    omega
theorem bys_read {W : World} {b0 : Nat} {v : Value} {d : DataW H} {p : List MemPlace} (hv : Value.okWide Try.prog W .any b0 22 v) (h : DataW.Trod enc Try.prog W 0 (fun _ => true) true 22 v d p) (hz : ∀ n ∈ d.weights Try.prog 22, n ≤ reachBytes) :
    ∃ bs, Bys W v bs := by
  obtain ⟨A, n, c, rfl⟩ := okWide_slice Try.underlying22 hv
  obtain ⟨fuel, hf⟩ := h
  exact bys_trod hf hz
end
end Go.Proofs.Ytlencagfkajcnaa
