/- What the rows of this seat read of a slice of entries. -/
import Derived.Test.YthiahnpijdkboaaW1
import Derived.Test.YthiahnpijdkboaaRow
import Derived.SizedLaws
import Derived.Deep.Slices
import Derived.Deep.Fields
import Derived.ChangeSame
namespace Go.Proofs.Ythiahnpijdkboaa
open Go.RowKit Go.Ext Go.ChangeShapes Go.WideShapes Go.ChangeAt Go.Joins Go.Deep

theorem Try.own : ownKnob Try.prog.godebug = none := by kernel_rfl
theorem Try.laidOut : laidOutB Try.prog = true := by kernel_rfl

section
variable {H : Type} {enc : TypeId × Value → H} {P : Program} {w : World} {base : Nat} {spare : Nat → Bool} {held : Bool}
theorem open_slice_fields {t e : TypeId} {fs : Array Field} {fuel : Nat} {cs : List Value} {x : DataW H × List MemPlace} (ht : P.underlying t = some (.slice e)) (he : P.underlying e = some (.struct fs))
    (hone : oneCellFields P fs = true) (hC : P.cellsOf e = fs.size) (h : DataW.trod enc P w base spare held fuel t cs = some x) :
    (cs = [.slice none 0 0] ∧ x = (.nil, [])) ∨
    ∃ (a : Addr) (len cap m : Nat) (D : Nat → DataW H) (Pl : Nat → List MemPlace), cs = [.slice (some a) len cap] ∧ base ≤ a.block ∧ len ≤ cap ∧ cap ≤ maxLen ∧ m = (if spare a.block then cap else len) ∧
      x = (.slice ((List.range len).map D) ((List.range (m - len)).map fun j => D (len + j)), MemPlace.row a (m * fs.size) ++ (List.range m).flatMap Pl) ∧
      ∀ i, i < m → ∃ (ys : List (DataW H × List MemPlace)) (n : Nat), D i = .agg (ys.map (·.1)) ∧ Pl i = ys.flatMap (·.2) ∧ ys.length = fs.size ∧
        ∀ (j : Nat) (f : Field), fs[j]? = some f → ∃ (v : Value) (y : DataW H × List MemPlace), w.cell? (a.add (i * fs.size + j)) = some v ∧ ys[j]? = some y ∧ DataW.trod enc P w base spare held n f.type [v] = some y := by
  rcases open_slice ht h with h0 | ⟨a, len, cap, m, n, D, Pl, hcs, hb, hl, hm, hmm, hx, hi⟩
  · exact .inl h0
  · refine .inr ⟨a, len, cap, m, D, Pl, hcs, hb, hl, hm, hmm, by rw [hC] at hx; exact hx, fun i him => ?_⟩
    obtain ⟨cs', hc, ht'⟩ := hi i him
    rw [hC] at hc
    obtain ⟨ys, n', hn', hy, hlen, hyl, hf⟩ := DataW.trod_struct he ht'
    obtain ⟨_, hcl, hat⟩ := World.cells?_some hc
    simp only [Prod.mk.injEq] at hy
    refine ⟨ys, n', hy.1, hy.2, hyl, fun j f hj => ?_⟩
    obtain ⟨ho, hk⟩ := hone_of hone j f hj
    have hjl : j < fs.size := (Array.getElem?_eq_some_iff.1 hj).1
    have hcell := hat j hjl
    have hv : cs'[j]? = some (cs'[j]'(by omega)) := List.getElem?_eq_getElem (by omega)
    have h1 := hf j f hj
    rw [ho, hk] at h1
    have hone' : (cs'.drop j).take 1 = [cs'[j]'(by omega)] := by
      rw [List.drop_eq_getElem_cons (by omega)]
      rfl
    rw [hone'] at h1
    have hys : ys[j]? = some (ys[j]'(by omega)) := List.getElem?_eq_getElem (by omega)
    refine ⟨_, _, ?_, hys, h1.trans hys⟩
    rw [← Go.Deep.add_add, hcell, hv]

theorem weightsAll_mem {e : TypeId} {d : DataW H} {n : Nat} : ∀ {ds : List (DataW H)}, d ∈ ds → n ∈ d.weights P e → n ∈ DataW.weightsAll P e ds
  | d0 :: ds, hd, hn => by
    simp only [DataW.weightsAll, List.mem_append]
    rcases List.mem_cons.1 hd with rfl | hd
    · exact .inl hn
    · exact .inr (weightsAll_mem hd hn)
end

theorem addr_none {b off j : Nat} : (⟨b, off, none⟩ : Addr).add j = ⟨b, off + j, none⟩ := by unfold Addr.add; split <;> simp_all

section
variable {H : Type} {enc : TypeId × Value → H}

theorem byt_read {W : World} {fuel : Nat} {v : Value} {y : DataW H × List MemPlace} (h : DataW.trod enc Try.prog W 0 (fun _ => true) true fuel 44 [v] = some y) (hz : ∀ n ∈ y.1.weights Try.prog 44, n ≤ reachBytes) :
    ∃ bs, Byt TB W.heap.size W v bs := by
  rcases open_ints (k := .u8) Try.underlying44 Try.underlying5 (by kernel_rfl) h with ⟨hcs, _⟩ | ⟨a, len, cap, zs, hcs, _, hl, hm, hlen, hx, hcell, hw⟩
  · injection hcs with hcs
    subst hcs
    exact ⟨[], Byt.nil _ _ _⟩
  · injection hcs with hcs
    subst hcs
    have hcap : zs.length = cap := by simpa using hlen
    have hb : cap ≤ 140737488351232 := by
      have := hz _ (by
        rw [hx]
        simp only [DataW.weights, Try.underlying44]
        exact List.mem_cons_self ..)
      simp only [Go.ChangeShapes.lits, List.length_map, List.length_take, List.length_drop, hcap] at this
      have e1 : Try.prog.bytesOf 5 = 1 := by kernel_rfl
      rw [e1] at this
      unfold reachBytes at this
      omega
    refine ⟨(zs.take len).map (fun z => UInt8.ofNat z.toNat), some a, cap, by simp; omega, by simp; omega, fun hne => ?_, fun hne => ?_, fun e => by cases e⟩
    · have h0 : 0 < len := by
        rcases Nat.eq_zero_or_pos len with h0 | h0
        · subst h0; simp [bc] at hne
        · exact h0
      obtain ⟨b, off, spot⟩ := a
      have hs : spot = none := by
        have := hcell 0 (by omega)
        simpa [Addr.add] using World.cell?_spot this
      subst hs
      refine ⟨b, off, rfl, fun j u hu => ?_⟩
      have hj : j < len := by
        have := (List.getElem?_eq_some_iff.1 hu).1
        simp [bc] at this; omega
      have := hcell j (by omega)
      rw [addr_none] at this
      rw [this, ← hu]
      have hwz := hw (zs[j]'(by omega)) (List.getElem_mem _)
      have hr : 0 ≤ zs[j]'(by omega) ∧ zs[j]'(by omega) ≤ 255 := by simpa [Lit.wf, IntKind.min, IntKind.max, IntKind.signed, IntKind.bits] using hwz
      simp [bc, hj, List.getD, show j < zs.length by omega]
      omega
    · have h0 : 0 < len := by
        rcases Nat.eq_zero_or_pos len with h0 | h0
        · subst h0; simp at hne
        · exact h0
      obtain ⟨b, off, spot⟩ := a
      have hc0 := hcell 0 (by omega)
      have hs : spot = none := by simpa [Addr.add] using World.cell?_spot hc0
      subst hs
      have := World.block_lt_of_cell? W _ hc0
      have hb' : b < W.heap.size := by rw [addr_none] at this; exact this
      exact ⟨b, off, rfl, hb', .inl hb'⟩

theorem ents_read {W : World} {b0 : Nat} {v : Value} {d : DataW H} {p : List MemPlace} (hv : Value.okWide Try.prog W .any b0 22 v) (h : DataW.Trod enc Try.prog W 0 (fun _ => true) true 22 v d p) (hz : ∀ n ∈ d.weights Try.prog 22, n ≤ reachBytes) :
    ∃ (A : Option Addr) (c : Nat) (L : List Ent), v = .slice A L.length c ∧ Sl W.heap.size W A L ∧ L.length ≤ 4398046511000 ∧ L.length ≤ c := by
  obtain ⟨A, n, c, rfl⟩ := okWide_slice Try.underlying22 hv
  obtain ⟨fuel, hf⟩ := h
  rcases open_slice_fields Try.underlying22 Try.underlying46 (by kernel_rfl) (by kernel_rfl) hf with ⟨hcs, _⟩ | ⟨a, len, cap, m, D, Pl, hcs, hb, hl, hm, hmm, hx, hi⟩
  · simp [Value.cells] at hcs
    obtain ⟨rfl, rfl, rfl⟩ := hcs
    exact ⟨none, 0, [], rfl, ⟨[], Rd.nil _ _, rfl, fun i hi => absurd hi (by simp)⟩, by simp, by simp⟩
  · simp [Value.cells] at hcs
    obtain ⟨rfl, rfl, rfl⟩ := hcs
    have hm' : m = c := by simpa using hmm
    subst hm'
    injection hx with hx _
    rw [hx] at hz
    have hsz := hz ((n + (m - n)) * 32) (by
      simp only [DataW.weights, Try.underlying22]
      have e1 : Try.prog.bytesOf 46 = 32 := by kernel_rfl
      rw [e1, List.length_map, List.length_map, List.length_range, List.length_range]
      exact List.mem_cons_self ..)
    unfold reachBytes at hsz
    have each : ∀ i, i < n → ∃ e : Ent × Value, W.cell? (a.add (i * 2)) = some (.int .i64 e.1.1) ∧ W.cell? (a.add (i * 2 + 1)) = some e.2 ∧ Byt TB W.heap.size W e.2 e.1.2 := by
      intro i hin
      obtain ⟨ys, k, hD, _, hyl, hf⟩ := hi i (by omega)
      obtain ⟨v0, y0, c0, g0, t0⟩ := hf 0 _ rfl
      obtain ⟨v1, y1, c1, g1, t1⟩ := hf 1 _ rfl
      obtain ⟨z, e0, _, _⟩ := DataW.trod_int Try.underlying3 t0
      injection e0 with e0
      subst e0
      obtain ⟨bs, hbs⟩ := byt_read t1 (fun q hq => hz q (by
        simp only [DataW.weights, Try.underlying22]
        refine List.mem_cons_of_mem _ (List.mem_append_left _ (weightsAll_mem (d := D i) (List.mem_map.2 ⟨i, by simpa using hin, rfl⟩) ?_))
        rw [hD]
        simp only [DataW.weights, Try.underlying46]
        exact DataW.weights_mem_each (j := 1) (t := 44) (d := y1.1) rfl (by simp [g1]) q hq))
      exact ⟨((z, bs), v1), c0, c1, hbs⟩
    let f : Nat → Ent × Value := fun i => if h : i < n then Classical.choose (each i h) else ((0, []), undef)
    have hf : ∀ i, i < n → W.cell? (a.add (i * 2)) = some (.int .i64 (f i).1.1) ∧ W.cell? (a.add (i * 2 + 1)) = some (f i).2 ∧ Byt TB W.heap.size W (f i).2 (f i).1.2 := by
      intro i hin
      have := Classical.choose_spec (each i hin)
      simp only [f, dif_pos hin]
      exact this
    have hll : ((List.range n).map fun i => (f i).1).length = n := by simp
    refine ⟨some a, m, (List.range n).map fun i => (f i).1, by rw [hll], ?_, by omega, by omega⟩
    have hcell : ∀ j, j < n * 2 → ∃ u, W.cell? (a.add j) = some u := by
      intro j hj
      obtain ⟨h1, h2, _⟩ := hf (j / 2) (by omega)
      rcases Nat.mod_two_eq_zero_or_one j with h0 | h0
      · exact ⟨_, by rw [show j / 2 * 2 = j by omega] at h1; exact h1⟩
      · exact ⟨_, by rw [show j / 2 * 2 + 1 = j by omega] at h2; exact h2⟩
    refine ⟨(List.range (n * 2)).map fun j => (W.cell? (a.add j)).getD undef, fun hne => ?_, by simp, fun i hin => ?_⟩
    · have h0 : 0 < n := by
        rcases Nat.eq_zero_or_pos n with h0 | h0
        · subst h0; simp at hne
        · exact h0
      obtain ⟨b, off, spot⟩ := a
      obtain ⟨u0, hu0⟩ := hcell 0 (by omega)
      have hs : spot = none := by simpa [Addr.add] using World.cell?_spot hu0
      subst hs
      refine ⟨b, off, rfl, fun j u hu => ?_⟩
      have hj : j < n * 2 := by
        have := (List.getElem?_eq_some_iff.1 hu).1
        simpa using this
      obtain ⟨u', hu'⟩ := hcell j hj
      simp [hj, hu'] at hu
      subst hu
      rw [addr_none] at hu'
      exact hu'
    · rw [hll] at hin
      obtain ⟨h1, h2, h3⟩ := hf i hin
      have g : (((List.range n).map fun i => (f i).1).getD i (0, [])) = (f i).1 := by simp [List.getD, hin]
      rw [g]
      exact ⟨by simp [show i * 2 < n * 2 by omega, h1], (f i).2, by simp [show i * 2 + 1 < n * 2 by omega, h2], h3⟩
end
end Go.Proofs.Ythiahnpijdkboaa
