/- What the rows of this seat read. -/
import Derived.Test.YtikmniokbliolaaO
import Derived.Test.YtikmniokbliolaaMk
import Derived.Test.YtikmniokbliolaaRow
import Derived.SizedLaws
import Derived.Deep.Slices
import Derived.Deep.Fields
import Derived.ChangeSame
namespace Go.Proofs.Ytikmniokbliolaa
open Go.RowKit Go.Ext Go.ChangeShapes Go.WideShapes Go.ChangeAt Go.Joins Go.Deep

theorem Try.own : ownKnob Try.prog.godebug = none := by kernel_rfl
theorem Try.laidOut : laidOutB Try.prog = true := by kernel_rfl

section
variable {H : Type} {enc : TypeId × Value → H} {P : Program} {w : World} {base : Nat} {spare : Nat → Bool} {held : Bool}
theorem open_slice_fields {t e : TypeId} {fs : Array Field} {fuel : Nat} {cs : List Value} {x : DataW H × List MemPlace} (ht : P.underlying t = some (.slice e)) (he : P.underlying e = some (.struct fs))
    (hone : oneCellFields P fs = true) (hC : P.cellsOf e = fs.size) (h : DataW.trod enc P w base spare held fuel t cs = some x) :
    (cs = [.slice none 0 0] ∧ x = (.nil, [])) ∨
    ∃ (a : Addr) (len cap m : Nat) (D : Nat → DataW H) (Pl : Nat → List MemPlace), cs = [.slice (some a) len cap] ∧ base ≤ a.block ∧ len ≤ cap ∧ cap ≤ maxLen ∧ m = (if spare a.block then cap else len) ∧
      x = (.slice ((List.range len).map D) ((List.range (m - len)).map fun j => D (len + j)), MemPlace.row a (m * fs.size) ++ (List.range m).flatMap Pl) ∧
      ∀ i, i < m → ∃ (ys : List (DataW H × List MemPlace)) (n : Nat), D i = .agg (ys.map (·.1)) ∧ Pl i = ys.flatMap (·.2) ∧ ys.length = fs.size ∧
        ∀ (j : Nat) (f : Field), fs[j]? = some f → ∃ (v : Value) (y : DataW H × List MemPlace), w.cell? (a.add (i * fs.size + j)) = some v ∧ ys[j]? = some y ∧ DataW.trod enc P w base spare held n f.type [v] = some y := by
  rcases open_slice ht h with h0 | ⟨a, len, cap, m, n, D, Pl, hcs, hb, hl, hm, hmm, hx, hi⟩
  · exact .inl h0
  · refine .inr ⟨a, len, cap, m, D, Pl, hcs, hb, hl, hm, hmm, by rw [hC] at hx; exact hx, fun i him => ?_⟩
    obtain ⟨cs', hc, ht'⟩ := hi i him
    rw [hC] at hc
    obtain ⟨ys, n', hn', hy, hlen, hyl, hf⟩ := DataW.trod_struct he ht'
    obtain ⟨_, hcl, hat⟩ := World.cells?_some hc
    simp only [Prod.mk.injEq] at hy
    refine ⟨ys, n', hy.1, hy.2, hyl, fun j f hj => ?_⟩
    obtain ⟨ho, hk⟩ := hone_of hone j f hj
    have hjl : j < fs.size := (Array.getElem?_eq_some_iff.1 hj).1
    have hcell := hat j hjl
    have hv : cs'[j]? = some (cs'[j]'(by omega)) := List.getElem?_eq_getElem (by omega)
    have h1 := hf j f hj
    rw [ho, hk] at h1
    have hone' : (cs'.drop j).take 1 = [cs'[j]'(by omega)] := by
      rw [List.drop_eq_getElem_cons (by omega)]
      rfl
    rw [hone'] at h1
    have hys : ys[j]? = some (ys[j]'(by omega)) := List.getElem?_eq_getElem (by omega)
    refine ⟨_, _, ?_, hys, h1.trans hys⟩
    rw [← Go.Deep.add_add, hcell, hv]

theorem weightsAll_mem {e : TypeId} {d : DataW H} {n : Nat} : ∀ {ds : List (DataW H)}, d ∈ ds → n ∈ d.weights P e → n ∈ DataW.weightsAll P e ds
  | d0 :: ds, hd, hn => by
    simp only [DataW.weightsAll, List.mem_append]
    rcases List.mem_cons.1 hd with rfl | hd
    · exact .inl hn
    · exact .inr (weightsAll_mem hd hn)
end

theorem addr_none {b off j : Nat} : (⟨b, off, none⟩ : Addr).add j = ⟨b, off + j, none⟩ := by unfold Addr.add; split <;> simp_all

section
variable {H : Type} {enc : TypeId × Value → H}
theorem ints_read {W : World} {b0 : Nat} {v : Value} {d : DataW H} {p : List MemPlace} (hv : Value.okWide Try.prog W .any b0 22 v) (h : DataW.Trod enc Try.prog W 0 (fun _ => true) true 22 v d p) (hz : ∀ n ∈ d.weights Try.prog 22, n ≤ reachBytes) :
    ∃ zs : List Int, Ints W v zs ∧ ∀ x ∈ zs, I64 x := by
  obtain ⟨A, n, c, rfl⟩ := okWide_slice Try.underlying22 hv
  obtain ⟨fuel, hf⟩ := h
  rcases open_ints (k := .i64) Try.underlying22 Try.underlying3 (by kernel_rfl) hf with ⟨hcs, _⟩ | ⟨x, l, c', zs, hcs, _, hl, hm, hzl, hx, hcell, hwz⟩
  · simp [Value.cells] at hcs
    obtain ⟨rfl, rfl, rfl⟩ := hcs
    exact ⟨[], ⟨none, 0, rfl, by simp, fun h => absurd rfl h⟩, fun x hx => by simp at hx⟩
  · simp [Value.cells] at hcs
    obtain ⟨rfl, rfl, rfl⟩ := hcs
    have hlen : zs.length = c := by simpa using hzl
    injection hx with hx _
    rw [hx] at hz
    have hsz := hz _ (by
      simp only [DataW.weights, Try.underlying22]
      exact List.mem_cons_self ..)
    simp only [Go.ChangeShapes.lits, List.length_map, List.length_take, List.length_drop, hlen] at hsz
    have e1 : Try.prog.bytesOf 3 = 8 := by kernel_rfl
    rw [e1] at hsz
    unfold reachBytes at hsz
    have htl : (zs.take n).length = n := by rw [List.length_take]; omega
    refine ⟨zs.take n, ⟨some x, c, by rw [htl], by omega, fun hn => ?_⟩, fun y hy => ?_⟩
    · obtain ⟨b, off, spot⟩ := x
      have hn0 : 0 < n := by
        rcases Nat.eq_zero_or_pos n with e | e
        · subst e; simp at hn
        · exact e
      have hs : spot = none := by
        have := hcell 0 (by omega)
        simpa [Addr.add] using World.cell?_spot this
      subst hs
      refine ⟨b, off, rfl, fun j hj => ?_⟩
      rw [htl] at hj
      have h0 := hcell j (by omega)
      rw [addr_none] at h0
      have e : (zs.take n).getD j 0 = zs.getD j 0 := by simp [List.getD, hj]
      rw [e]
      exact h0
    · have hw := hwz y (List.mem_of_mem_take hy)
      have hr : -9223372036854775808 ≤ y ∧ y ≤ 9223372036854775807 := by simpa [Lit.wf, IntKind.min, IntKind.max, IntKind.signed, IntKind.bits] using hw
      exact hr

theorem items_read {W : World} {b0 : Nat} {v : Value} {d : DataW H} {p : List MemPlace} (hv : Value.okWide Try.prog W .any b0 27 v) (h : DataW.Trod enc Try.prog W 0 (fun _ => true) true 27 v d p) (hz : ∀ n ∈ d.weights Try.prog 27, n ≤ reachBytes) :
    ∃ (A : Option Addr) (c : Nat) (L : List It), v = .slice A L.length c ∧ Row W A L ∧ L.length ≤ 4398046511103 ∧ ∀ x ∈ L, ItOk x := by
  obtain ⟨A, n, c, rfl⟩ := okWide_slice Try.underlying27 hv
  obtain ⟨fuel, hf⟩ := h
  rcases open_slice_fields Try.underlying27 Try.underlying33 (by kernel_rfl) (by kernel_rfl) hf with ⟨hcs, _⟩ | ⟨a, len, cap, m, D, Pl, hcs, hb, hl, hm, hmm, hx, hi⟩
  · simp [Value.cells] at hcs
    obtain ⟨rfl, rfl, rfl⟩ := hcs
    exact ⟨none, 0, [], rfl, fun h => absurd rfl h, by simp, fun x hx => by simp at hx⟩
  · simp [Value.cells] at hcs
    obtain ⟨rfl, rfl, rfl⟩ := hcs
    have hm' : m = c := by simpa using hmm
    subst hm'
    injection hx with hx _
    rw [hx] at hz
    have hsz := hz ((n + (m - n)) * 48) (by
      simp only [DataW.weights, Try.underlying27]
      have e1 : Try.prog.bytesOf 33 = 48 := by kernel_rfl
      rw [e1, List.length_map, List.length_map, List.length_range, List.length_range]
      exact List.mem_cons_self ..)
    unfold reachBytes at hsz
    have each : ∀ i, i < n → ∃ x : It, ItOk x ∧ ∀ j u, (ic x)[j]? = some u → W.cell? (a.add (i * 6 + j)) = some u := by
      intro i hin
      obtain ⟨ys, k, hD, _, hyl, hf⟩ := hi i (by omega)
      have fld : ∀ j f, (Try.prog.fieldsOf 33)[j]? = some f → f.type = 3 → ∃ z, I64 z ∧ W.cell? (a.add (i * 6 + j)) = some (.int .i64 z) := by
        intro j f hj ht
        obtain ⟨v0, y0, c0, g0, t0⟩ := hf j f (by rw [Program.fieldsOf, Try.underlying33] at hj; exact hj)
        rw [ht] at t0
        obtain ⟨z, e0, h3, h4⟩ := DataW.trod_int Try.underlying3 t0
        injection e0 with e0
        subst e0
        refine ⟨z, ?_, c0⟩
        have h5 : -9223372036854775808 ≤ z ∧ z ≤ 9223372036854775807 := by simpa [Lit.wf, IntKind.min, IntKind.max, IntKind.signed, IntKind.bits] using h4
        exact h5
      obtain ⟨z0', o0, c0⟩ := fld 0 _ (by rw [Program.fieldsOf, Try.underlying33]; rfl) rfl
      obtain ⟨z1, o1, c1⟩ := fld 1 _ (by rw [Program.fieldsOf, Try.underlying33]; rfl) rfl
      obtain ⟨z2, o2, c2⟩ := fld 2 _ (by rw [Program.fieldsOf, Try.underlying33]; rfl) rfl
      obtain ⟨z3, o3, c3⟩ := fld 3 _ (by rw [Program.fieldsOf, Try.underlying33]; rfl) rfl
      obtain ⟨z4, o4, c4⟩ := fld 4 _ (by rw [Program.fieldsOf, Try.underlying33]; rfl) rfl
      obtain ⟨z5, o5, c5⟩ := fld 5 _ (by rw [Program.fieldsOf, Try.underlying33]; rfl) rfl
      refine ⟨(z0', z1, z2, z3, z4, z5), ⟨o0, o1, o2, o3, o4, o5⟩, fun j u hu => ?_⟩
      have hj := (List.getElem?_eq_some_iff.1 hu).1
      rw [ic_length] at hj
      have : j = 0 ∨ j = 1 ∨ j = 2 ∨ j = 3 ∨ j = 4 ∨ j = 5 := by omega
      rcases this with rfl | rfl | rfl | rfl | rfl | rfl <;> simp only [ic, List.getElem?_cons_zero, List.getElem?_cons_succ, Option.some.injEq] at hu <;> subst hu <;> assumption
    let f : Nat → It := fun i => if h : i < n then Classical.choose (each i h) else z0
    have hf : ∀ i, i < n → ItOk (f i) ∧ ∀ j u, (ic (f i))[j]? = some u → W.cell? (a.add (i * 6 + j)) = some u := by
      intro i hin
      have := Classical.choose_spec (each i hin)
      simp only [f, dif_pos hin]
      exact this
    have hll : ((List.range n).map f).length = n := by simp
    refine ⟨some a, m, (List.range n).map f, by rw [hll], ?_, by rw [hll]; omega, ?_⟩
    · intro hne
      have h0 : 0 < n := by
        rcases Nat.eq_zero_or_pos n with h0 | h0
        · subst h0; simp at hne
        · exact h0
      obtain ⟨b, off, spot⟩ := a
      have hs : spot = none := by
        have := (hf 0 h0).2 0 _ rfl
        simpa [Addr.add] using World.cell?_spot this
      subst hs
      refine ⟨b, off, rfl, fun i hin j u hu => ?_⟩
      rw [hll] at hin
      have g : ((List.range n).map f).getD i z0 = f i := by simp [List.getD, hin]
      rw [g] at hu
      have := (hf i hin).2 j u hu
      rw [addr_none] at this
      rw [Nat.add_assoc]
      exact this
    · intro x hx
      obtain ⟨i, hin, rfl⟩ := List.mem_map.1 hx
      exact (hf i (by simpa using hin)).1
end
end Go.Proofs.Ytikmniokbliolaa
