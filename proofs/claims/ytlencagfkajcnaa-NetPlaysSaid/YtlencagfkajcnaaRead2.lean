/- What the rows of this seat read of acts. -/
import Derived.Test.YtlencagfkajcnaaRead
import Derived.Test.YtlencagfkajcnaaF1
namespace Go.Proofs.Ytlencagfkajcnaa
open Go.RowKit Go.Ext Go.ChangeShapes Go.WideShapes Go.ChangeAt Go.Joins Go.Deep

section
variable {H : Type} {enc : TypeId × Value → H} {P : Program} {w : World} {base : Nat} {spare : Nat → Bool} {held : Bool}
theorem open_slice_fields {t e : TypeId} {fs : Array Field} {fuel : Nat} {cs : List Value} {x : DataW H × List MemPlace} (ht : P.underlying t = some (.slice e)) (he : P.underlying e = some (.struct fs))
    (hone : oneCellFields P fs = true) (hC : P.cellsOf e = fs.size) (h : DataW.trod enc P w base spare held fuel t cs = some x) :
    (cs = [.slice none 0 0] ∧ x = (.nil, [])) ∨
    ∃ (a : Addr) (len cap m : Nat) (D : Nat → DataW H) (Pl : Nat → List MemPlace), cs = [.slice (some a) len cap] ∧ base ≤ a.block ∧ len ≤ cap ∧ cap ≤ maxLen ∧ m = (if spare a.block then cap else len) ∧
      x = (.slice ((List.range len).map D) ((List.range (m - len)).map fun j => D (len + j)), MemPlace.row a (m * fs.size) ++ (List.range m).flatMap Pl) ∧
      ∀ i, i < m → ∃ (ys : List (DataW H × List MemPlace)) (n : Nat), D i = .agg (ys.map (·.1)) ∧ Pl i = ys.flatMap (·.2) ∧ ys.length = fs.size ∧
        ∀ (j : Nat) (f : Field), fs[j]? = some f → ∃ (v : Value) (y : DataW H × List MemPlace), w.cell? (a.add (i * fs.size + j)) = some v ∧ ys[j]? = some y ∧ DataW.trod enc P w base spare held n f.type [v] = some y := by
  rcases open_slice ht h with h0 | ⟨a, len, cap, m, n, D, Pl, hcs, hb, hl, hm, hmm, hx, hi⟩
  · exact .inl h0
  · refine .inr ⟨a, len, cap, m, D, Pl, hcs, hb, hl, hm, hmm, by rw [hC] at hx; exact hx, fun i him => ?_⟩
    obtain ⟨cs', hc, ht'⟩ := hi i him
    rw [hC] at hc
    obtain ⟨ys, n', hn', hy, hlen, hyl, hf⟩ := DataW.trod_struct he ht'
    obtain ⟨_, hcl, hat⟩ := World.cells?_some hc
    simp only [Prod.mk.injEq] at hy
    refine ⟨ys, n', hy.1, hy.2, hyl, fun j f hj => ?_⟩
    obtain ⟨ho, hk⟩ := hone_of hone j f hj
    have hjl : j < fs.size := (Array.getElem?_eq_some_iff.1 hj).1
    have hcell := hat j hjl
    have hv : cs'[j]? = some (cs'[j]'(by omega)) := List.getElem?_eq_getElem (by omega)
    have h1 := hf j f hj
    rw [ho, hk] at h1
    have hone' : (cs'.drop j).take 1 = [cs'[j]'(by omega)] := by
      rw [List.drop_eq_getElem_cons (by omega)]
      rfl
    rw [hone'] at h1
    have hys : ys[j]? = some (ys[j]'(by omega)) := List.getElem?_eq_getElem (by omega)
    refine ⟨_, _, ?_, hys, h1.trans hys⟩
    rw [← Go.Deep.add_add, hcell, hv]

theorem weightsAll_mem {e : TypeId} {d : DataW H} {n : Nat} : ∀ {ds : List (DataW H)}, d ∈ ds → n ∈ d.weights P e → n ∈ DataW.weightsAll P e ds
  | d0 :: ds, hd, hn => by
    simp only [DataW.weightsAll, List.mem_append]
    rcases List.mem_cons.1 hd with rfl | hd
    · exact .inl hn
    · exact .inr (weightsAll_mem hd hn)
end

section
variable {H : Type} {enc : TypeId × Value → H}
theorem acts_read {W : World} {b0 : Nat} {v : Value} {d : DataW H} {p : List MemPlace} (hv : Value.okWide Try.prog W .any b0 37 v) (h : DataW.Trod enc Try.prog W 0 (fun _ => true) true 37 v d p) (hz : ∀ n ∈ d.weights Try.prog 37, n ≤ reachBytes) :
    ∃ (A : Option Addr) (c : Nat) (L : List Ac), v = .slice A L.length c ∧ RowC W A L ∧ L.length ≤ 4398046511103 := by
  obtain ⟨A, n, c, rfl⟩ := okWide_slice Try.underlying37 hv
  obtain ⟨fuel, hf⟩ := h
  rcases open_slice_fields Try.underlying37 Try.underlying41 (by kernel_rfl) (by kernel_rfl) hf with ⟨hcs, _⟩ | ⟨a, len, cap, m, D, Pl, hcs, hb, hl, hm, hmm, hx, hi⟩
  · simp [Value.cells] at hcs
    obtain ⟨rfl, rfl, rfl⟩ := hcs
    exact ⟨none, 0, [], rfl, fun h => absurd rfl h, by simp⟩
  · simp [Value.cells] at hcs
    obtain ⟨rfl, rfl, rfl⟩ := hcs
    have hm' : m = c := by simpa using hmm
    subst hm'
    injection hx with hx _
    rw [hx] at hz
    have hsz := hz ((n + (m - n)) * 48) (by
      simp only [DataW.weights, Try.underlying37]
      have e1 : Try.prog.bytesOf 41 = 48 := by kernel_rfl
      rw [e1, List.length_map, List.length_map, List.length_range, List.length_range]
      exact List.mem_cons_self ..)
    unfold reachBytes at hsz
    have each : ∀ i, i < n → ∃ x : Ac, W.cell? (a.add (i * 4)) = some (.int .i64 x.1) ∧ W.cell? (a.add (i * 4 + 1)) = some (.int .i64 x.2.1) ∧ W.cell? (a.add (i * 4 + 2)) = some (.int .i64 x.2.2.1) ∧
        ∃ A' c', W.cell? (a.add (i * 4 + 3)) = some (.slice A' x.2.2.2.length c') ∧ Bys W (.slice A' x.2.2.2.length c') x.2.2.2 := by
      intro i hin
      obtain ⟨ys, k, hD, _, hyl, hf⟩ := hi i (by omega)
      obtain ⟨v0, y0, c0, g0, t0⟩ := hf 0 _ rfl
      obtain ⟨v1, y1, c1, g1, t1⟩ := hf 1 _ rfl
      obtain ⟨v2, y2, c2, g2, t2⟩ := hf 2 _ rfl
      obtain ⟨v3, y3, c3, g3, t3⟩ := hf 3 _ rfl
      obtain ⟨z0, e0, _, _⟩ := DataW.trod_int Try.underlying3 t0
      obtain ⟨z1, e1, _, _⟩ := DataW.trod_int Try.underlying3 t1
      obtain ⟨z2, e2, _, _⟩ := DataW.trod_int Try.underlying3 t2
      injection e0 with e0
      injection e1 with e1
      injection e2 with e2
      subst e0 e1 e2
      have hzD : ∀ q ∈ (D i).weights Try.prog 41, q ≤ reachBytes := fun q hq => hz q (by
        simp only [DataW.weights, Try.underlying37]
        exact List.mem_cons_of_mem _ (List.mem_append_left _ (weightsAll_mem (d := D i) (List.mem_map.2 ⟨i, by simpa using hin, rfl⟩) hq)))
      rw [hD] at hzD
      simp only [DataW.weights, Try.underlying41] at hzD
      obtain ⟨bs, hbs⟩ := bys_trod t3 (fun q hq => hzD q (DataW.weights_mem_each (j := 3) (t := 22) (d := y3.1) rfl (by simp [g3]) q hq))
      obtain ⟨A', c', rfl, h'⟩ := id hbs
      exact ⟨(z0, z1, z2, bs), c0, c1, c2, A', c', c3, hbs⟩
    let f : Nat → Ac := fun i => if h : i < n then Classical.choose (each i h) else a0
    have hf : ∀ i, i < n → W.cell? (a.add (i * 4)) = some (.int .i64 (f i).1) ∧ W.cell? (a.add (i * 4 + 1)) = some (.int .i64 (f i).2.1) ∧ W.cell? (a.add (i * 4 + 2)) = some (.int .i64 (f i).2.2.1) ∧
        ∃ A' c', W.cell? (a.add (i * 4 + 3)) = some (.slice A' (f i).2.2.2.length c') ∧ Bys W (.slice A' (f i).2.2.2.length c') (f i).2.2.2 := by
      intro i hin
      have := Classical.choose_spec (each i hin)
      simp only [f, dif_pos hin]
      exact this
    have hll : ((List.range n).map f).length = n := by simp
    refine ⟨some a, m, (List.range n).map f, by rw [hll], ?_, by rw [hll]; omega⟩
    intro hne
    have h0 : 0 < n := by
      rcases Nat.eq_zero_or_pos n with h0 | h0
      · subst h0; simp at hne
      · exact h0
    obtain ⟨b, off, spot⟩ := a
    have hs : spot = none := by
      have := (hf 0 h0).1
      simpa [Addr.add] using World.cell?_spot this
    subst hs
    refine ⟨b, off, rfl, fun i hin => ?_⟩
    rw [hll] at hin
    have g : ((List.range n).map f).getD i a0 = f i := by simp [List.getD, hin]
    rw [g]
    obtain ⟨e1, e2, e3, A', c', e4, e5⟩ := hf i hin
    rw [addr_none] at e1 e2 e3 e4
    exact ⟨e1, e2, e3, A', c', e4, e5⟩
end
end Go.Proofs.Ytlencagfkajcnaa
