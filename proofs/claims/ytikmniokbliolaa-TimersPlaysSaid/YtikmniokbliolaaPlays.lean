/- For every input TimersPlays returns true, and each argument reads afterwards as it read before. -/
import Derived.Test.YtikmniokbliolaaE9
import Derived.Test.YtikmniokbliolaaRead4
namespace Go.Proofs.Ytikmniokbliolaa
open Go.RowKit Go.Ext Go.ChangeShapes Go.WideShapes Go.ChangeAt Go.Joins Go.Deep Go.Lib

section
variable {H : Type} {enc : TypeId × Value → H}
theorem acts_read {W : World} {b0 : Nat} {v : Value} {d : DataW H} {p : List MemPlace} (hv : Value.okWide Try.prog W .any b0 47 v) (h : DataW.Trod enc Try.prog W 0 (fun _ => true) true 47 v d p) :
    ∃ (A : Option Addr) (c : Nat) (L : List ActA), v = .slice A L.length c ∧ RowA W A L := by
  obtain ⟨A, n, c, rfl⟩ := okWide_slice Try.underlying47 hv
  obtain ⟨fuel, hf⟩ := h
  have e8 : Try.prog.cellsOf 53 = 8 := by kernel_rfl
  rcases open_slice Try.underlying47 hf with ⟨hcs, _⟩ | ⟨a, len, cap, m, k, D, Pl, hcs, hb, hl, hm, hmm, hx, hi⟩
  · simp [Value.cells] at hcs
    obtain ⟨rfl, rfl, rfl⟩ := hcs
    exact ⟨none, 0, [], rfl, fun h => absurd rfl h⟩
  · simp [Value.cells] at hcs
    obtain ⟨rfl, rfl, rfl⟩ := hcs
    have hm' : m = c := by simpa using hmm
    subst hm'
    have each : ∀ i, i < n → ∃ x : ActA, ∀ j u, ([.int .i64 x.1, .int .i64 x.2.1.1, .int .i64 x.2.1.2.1, .int .i64 x.2.1.2.2.1, .int .i64 x.2.1.2.2.2.1, .int .i64 x.2.1.2.2.2.2.1, .int .i64 x.2.1.2.2.2.2.2, .int .i64 x.2.2] : List Value)[j]? = some u → W.cell? ((a.add (i * 8)).add j) = some u := by
      intro i hin
      obtain ⟨cs', hc, ht'⟩ := hi i (by omega)
      rw [e8] at hc
      obtain ⟨_, hcl, hat⟩ := World.cells?_some hc
      obtain ⟨o, a1, b1, c1, d1, e1, f1, k1, rfl⟩ := act_cells hcl ht'
      refine ⟨(o, (a1, b1, c1, d1, e1, f1), k1), fun j u hu => ?_⟩
      have hj : j < 8 := (List.getElem?_eq_some_iff.1 hu).1
      have := hat j hj
      rw [this]
      exact hu
    let f : Nat → ActA := fun i => if h : i < n then Classical.choose (each i h) else a0
    have hf : ∀ i, i < n → ∀ j u, ([.int .i64 (f i).1, .int .i64 (f i).2.1.1, .int .i64 (f i).2.1.2.1, .int .i64 (f i).2.1.2.2.1, .int .i64 (f i).2.1.2.2.2.1, .int .i64 (f i).2.1.2.2.2.2.1, .int .i64 (f i).2.1.2.2.2.2.2, .int .i64 (f i).2.2] : List Value)[j]? = some u → W.cell? ((a.add (i * 8)).add j) = some u := by
      intro i hin
      have := Classical.choose_spec (each i hin)
      simp only [f, dif_pos hin]
      exact this
    have hll : ((List.range n).map f).length = n := by simp
    refine ⟨some a, m, (List.range n).map f, by rw [hll], ?_⟩
    intro hne
    have h0 : 0 < n := by
      rcases Nat.eq_zero_or_pos n with h0 | h0
      · subst h0; simp at hne
      · exact h0
    obtain ⟨b, off, spot⟩ := a
    have hs : spot = none := by
      have := hf 0 h0 0 _ rfl
      simpa [Addr.add] using World.cell?_spot this
    subst hs
    refine ⟨b, off, rfl, fun i hin => ?_⟩
    rw [hll] at hin
    have g : ((List.range n).map f).getD i a0 = f i := by simp [List.getD, hin]
    rw [g]
    have at_ := fun j u (hu : _) => by
      have := hf i hin j u hu
      rw [addr_none, addr_none] at this
      exact this
    exact ⟨at_ 0 _ rfl, at_ 1 _ rfl, at_ 2 _ rfl, at_ 3 _ rfl, at_ 4 _ rfl, at_ 5 _ rfl, at_ 6 _ rfl, at_ 7 _ rfl⟩
end

set_option maxRecDepth 100000 in
theorem plays_lifted (os : Os) (started : os.Started) (H : Type) (enc : TypeId × Value → H) :
    ReturnsInHanded {} Try.checked os 6 .any (Rows.timersPlaysSpec.pre6 enc Try.prog Try.f6 Rows.timersPlaysRow.domain false) (Rows.timersPlaysSpec.post enc Try.prog Try.f6 false true false false) := by
  refine returnsInHanded_of_change_sized (C := Try.checked) Try.own started (by kernel_rfl) Try.func6
    (ChangeSpec.witness6 (enc := enc) (C := Try.checked) false ⟨#[], #[.slice none 0 0], []⟩ 8 (by kernel_rfl) (by kernel_rfl) (by kernel_rfl) (by kernel_rfl)) ?_
  intro W base args ds gs before hval0 hW hcnd hsz _
  have hval : ∀ (j : Nat) t v, Try.f6.params[j]? = some t → args[j]? = some v → Value.okWide Try.prog W .any base t v := hval0
  have hW' := hW
  obtain ⟨p, q, hA0, hV, rfl, hfz, hnd⟩ := hW
  have hA : DataW.TrodAll enc Try.prog W 0 (fun _ => true) true Try.f6.params.toList args.toList ds p := hA0
  rw [Try.params6] at hA hval
  obtain ⟨v0, vs0, d0, ds0, p0, q0, hargs, rfl, rfl, h0, r0⟩ := trodAll_cons hA
  obtain ⟨rfl, rfl, rfl⟩ := trodAll_nil r0
  obtain rfl : args = #[v0] := by cases args; simp_all
  obtain ⟨rfl, rfl⟩ := trodVars_none hV
  obtain ⟨A, c, L, rfl, hR⟩ := acts_read (hval 0 47 v0 rfl rfl) h0
  clear hA0 hval0 hA hval
  refine (plays_any A c L W hR).mono fun e W' ⟨he, y, hy⟩ => ?_
  subst he hy
  exact ⟨_, rfl, law_post Try.laidOut (by kernel_rfl) rfl Try.underlying4 rfl hW' rfl y.gr⟩

theorem plays_holds : Rows.TimersPlaysSaid :=
  OpenClaim.holds_of_wide 6 Try.f6 rfl rfl rfl rfl rfl rfl rfl ⟨rfl, rfl, rfl, rfl, rfl⟩ rfl rfl rfl rfl rfl (by kernel_rfl) Try.func6 (by kernel_rfl)
    (of_decide_eq_true (by kernel_rfl)) (by unfold Func.isWrapper; first | (rw [if_pos (by decide +kernel)]; kernel_rfl) | (rw [if_neg (by decide +kernel)]; exact ⟨rfl, rfl⟩))
    (fun os started H enc _ => plays_lifted os started H enc)
#print axioms plays_holds
end Go.Proofs.Ytikmniokbliolaa
