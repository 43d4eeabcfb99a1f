/- For every input LogMerges returns true, and each argument reads afterwards as it read before. -/
import Derived.Test.YthiahnpijdkboaaM2
import Derived.Test.YthiahnpijdkboaaRead
namespace Go.Proofs.Ythiahnpijdkboaa
open Go.RowKit Go.Ext Go.ChangeShapes Go.WideShapes Go.ChangeAt Go.Joins

section
variable {H : Type} {enc : TypeId × Value → H}
theorem none_cap {W : World} {A : Option Addr} {n c : Nat} {d : DataW H} {p : List MemPlace} (h : DataW.Trod enc Try.prog W 0 (fun _ => true) true 22 (.slice A n c) d p) : A = none → c = 0 := by
  rintro rfl
  obtain ⟨fuel, hf⟩ := h
  rcases open_slice_fields Try.underlying22 Try.underlying46 (by kernel_rfl) (by kernel_rfl) hf with ⟨hcs, _⟩ | ⟨a, len, cap, m, D, Pl, hcs, _⟩
  · simp [Value.cells] at hcs
    exact hcs.2
  · simp [Value.cells] at hcs
theorem ints_read {W : World} {b0 : Nat} {v : Value} {d : DataW H} {p : List MemPlace} (hv : Value.okWide Try.prog W .any b0 33 v) (h : DataW.Trod enc Try.prog W 0 (fun _ => true) true 33 v d p) (hz : ∀ n ∈ d.weights Try.prog 33, n ≤ reachBytes) :
    ∃ (A : Option Addr) (n c : Nat), v = .slice A n c ∧ Ints W A n ∧ n ≤ 17592186044416 ∧ n ≤ c := by
  obtain ⟨A, n, c, rfl⟩ := okWide_slice Try.underlying33 hv
  obtain ⟨fuel, hf⟩ := h
  rcases open_ints (k := .i64) Try.underlying33 Try.underlying3 (by kernel_rfl) hf with ⟨hcs, _⟩ | ⟨x, l, c', zs, hcs, _, hl, hm, hzl, hx, hcell, hwz⟩
  · simp [Value.cells] at hcs
    obtain ⟨rfl, rfl, rfl⟩ := hcs
    exact ⟨none, 0, 0, rfl, fun j hj => absurd hj (by omega), by omega, by omega⟩
  · simp [Value.cells] at hcs
    obtain ⟨rfl, rfl, rfl⟩ := hcs
    have hlen : zs.length = c := by simpa using hzl
    injection hx with hx _
    rw [hx] at hz
    have hsz := hz _ (by
      simp only [DataW.weights, Try.underlying33]
      exact List.mem_cons_self ..)
    simp only [Go.ChangeShapes.lits, List.length_map, List.length_take, List.length_drop, hlen] at hsz
    have e1 : Try.prog.bytesOf 3 = 8 := by kernel_rfl
    rw [e1] at hsz
    unfold reachBytes at hsz
    refine ⟨some x, n, c, rfl, fun j hj => ?_, by omega, hl⟩
    obtain ⟨b, off, spot⟩ := x
    have h0 := hcell j (by omega)
    have hs : spot = none := by
      have := hcell 0 (by omega)
      simpa [Addr.add] using World.cell?_spot this
    subst hs
    rw [addr_none] at h0
    have hw := hwz (zs.getD j 0) (by rw [show zs.getD j 0 = zs[j]'(by omega) by simp [List.getD, show j < zs.length by omega]]; exact List.getElem_mem _)
    have hr : -9223372036854775808 ≤ zs.getD j 0 ∧ zs.getD j 0 ≤ 9223372036854775807 := by simpa [Lit.wf, IntKind.min, IntKind.max, IntKind.signed, IntKind.bits] using hw
    exact ⟨b, off, _, rfl, h0, World.block_lt_of_cell? W _ h0, hr.1, hr.2⟩
end

set_option maxRecDepth 100000 in
theorem merges_lifted (os : Os) (started : os.Started) (H : Type) (enc : TypeId × Value → H) :
    ReturnsInHanded {} Try.checked os 4 .any (Rows.logMergesSpec.pre6 enc Try.prog Try.f4 Rows.logMergesRow.domain false) (Rows.logMergesSpec.post enc Try.prog Try.f4 false true false false) := by
  refine returnsInHanded_of_change_sized (C := Try.checked) Try.own started (by kernel_rfl) Try.func4
    (ChangeSpec.witness6 (enc := enc) (C := Try.checked) false ⟨#[], #[.slice none 0 0, .slice none 0 0, .slice none 0 0], []⟩ 8 (by kernel_rfl) (by kernel_rfl) (by kernel_rfl) (by kernel_rfl)) ?_
  intro W base args ds gs before hval0 hW hcnd hsz _
  have hval : ∀ (j : Nat) t v, Try.f4.params[j]? = some t → args[j]? = some v → Value.okWide Try.prog W .any base t v := hval0
  have hW' := hW
  obtain ⟨p, q, hA0, hV, rfl, hfz, hnd⟩ := hW
  have hA : DataW.TrodAll enc Try.prog W 0 (fun _ => true) true Try.f4.params.toList args.toList ds p := hA0
  have hz : ∀ n ∈ DataW.weightsEach Try.prog (Try.f4.params.toList ++ Rows.logMergesSpec.plain.varTypes Try.prog) (ds ++ gs), n ≤ reachBytes := fun n hn => by
    have := List.all_eq_true.1 hsz n hn
    simpa using this
  rw [Try.params4] at hA hval hz
  obtain ⟨v0, vs0, d0, ds0, p0, q0, hargs, rfl, rfl, h0, r0⟩ := trodAll_cons hA
  obtain ⟨v1, vs1, d1, ds1, p1, q1, rfl, rfl, rfl, h1, r1⟩ := trodAll_cons r0
  obtain ⟨v2, vs2, d2, ds2, p2, q2, rfl, rfl, rfl, h2, r2⟩ := trodAll_cons r1
  obtain ⟨rfl, rfl, rfl⟩ := trodAll_nil r2
  obtain rfl : args = #[v0, v1, v2] := by cases args; simp_all
  obtain ⟨rfl, rfl⟩ := trodVars_none hV
  obtain ⟨A, c, L, rfl, hs, hl, _⟩ := ents_read (hval 0 22 v0 rfl rfl) h0 (fun n hn => hz n (DataW.weights_mem_each (j := 0) rfl rfl n hn))
  obtain ⟨B, d, M, rfl, ht, hm, hmd⟩ := ents_read (hval 1 22 v1 rfl rfl) h1 (fun n hn => hz n (DataW.weights_mem_each (j := 1) rfl rfl n hn))
  obtain ⟨C, n, e, rfl, hC, hn, _⟩ := ints_read (hval 2 33 v2 rfl rfl) h2 (fun n hn => hz n (DataW.weights_mem_each (j := 2) rfl rfl n hn))
  have hB := none_cap h1
  clear hA0 hval0 hA hval
  refine (merges_true A B C c d n e L M W hs ht hC hl hm hmd hB hn).mono fun e W' ⟨he, y, hy⟩ => ?_
  subst he hy
  exact ⟨_, rfl, law_post Try.laidOut (by kernel_rfl) rfl Try.underlying4 rfl hW' rfl y.gr⟩

theorem merges_holds : Rows.LogMergesSaid :=
  OpenClaim.holds_of_wide 4 Try.f4 rfl rfl rfl rfl rfl rfl rfl ⟨rfl, rfl, rfl, rfl, rfl⟩ rfl rfl rfl rfl rfl (by kernel_rfl) Try.func4 (by kernel_rfl)
    (of_decide_eq_true (by kernel_rfl)) (by unfold Func.isWrapper; first | (rw [if_pos (by decide +kernel)]; kernel_rfl) | (rw [if_neg (by decide +kernel)]; exact ⟨rfl, rfl⟩))
    (fun os started H enc _ => merges_lifted os started H enc)
#print axioms merges_holds
end Go.Proofs.Ythiahnpijdkboaa
