/- What the row LogPlays reads: acts, and how much. -/
import Derived.Test.YthiahnpijdkboaaRead
import Derived.Test.YthiahnpijdkboaaQ5
namespace Go.Proofs.Ythiahnpijdkboaa
open Go.RowKit Go.Ext Go.ChangeShapes Go.WideShapes Go.ChangeAt Go.Joins Go.Deep

section
variable {H : Type}
theorem bulk_pos : ∀ d : DataW H, 1 ≤ Rows.uptoBulk d := fun d => by
  cases d with
  | lit l => cases l <;> simp [Rows.uptoBulk]
  | nil => simp [Rows.uptoBulk]
  | ptr d => simp [Rows.uptoBulk]
  | slice a b => simp [Rows.uptoBulk]
  | agg p => simp [Rows.uptoBulk]
  | iface t d => simp [Rows.uptoBulk]
  | map e => simp [Rows.uptoBulk]
  | held h => simp [Rows.uptoBulk]
theorem bulk_len : ∀ l : List (DataW H), l.length ≤ Rows.uptoBulkAll l
  | [] => by simp
  | d :: l => by
    have := bulk_len l
    have := bulk_pos d
    simp only [Rows.uptoBulkAll, List.length_cons]
    omega
theorem bulk_mem {d : DataW H} : ∀ {l : List (DataW H)}, d ∈ l → Rows.uptoBulk d ≤ Rows.uptoBulkAll l
  | x :: l, h => by
    simp only [Rows.uptoBulkAll]
    rcases List.mem_cons.1 h with rfl | h
    · omega
    · have := bulk_mem h
      omega
end

section
variable {H : Type} {enc : TypeId × Value → H}
theorem ents_trod {W : World} {fuel : Nat} {v : Value} {y : DataW H × List MemPlace} (h : DataW.trod enc Try.prog W 0 (fun _ => true) true fuel 22 [v] = some y) (hz : ∀ n ∈ y.1.weights Try.prog 22, n ≤ reachBytes) (hk : Rows.uptoBulk y.1 ≤ 1048576) :
    ∃ (A : Option Addr) (c : Nat) (L : List Ent), v = .slice A L.length c ∧ In W.heap.size W A c L := by
  rcases open_slice_fields Try.underlying22 Try.underlying46 (by kernel_rfl) (by kernel_rfl) h with ⟨hcs, _⟩ | ⟨a, n, c, m, D, Pl, hcs, hb, hl, hm, hmm, hx, hi⟩
  · simp at hcs
    subst hcs
    exact ⟨none, 0, [], rfl, ⟨[], Rd.nil _ _, rfl, fun i hi => absurd hi (by simp)⟩, by simp, fun _ => rfl, fun e => absurd rfl e, by simp⟩
  · simp at hcs
    subst hcs
    have hm' : m = c := by simpa using hmm
    subst hm'
    have hx1 : y.1 = .slice ((List.range n).map D) ((List.range (m - n)).map fun j => D (n + j)) := by rw [hx]
    rw [hx1] at hz hk
    have hnk : n ≤ 1048576 := by
      simp only [Rows.uptoBulk] at hk
      have := bulk_len ((List.range n).map D)
      rw [List.length_map, List.length_range] at this
      omega
    have each : ∀ i, i < n → ∃ e : Ent × Value, W.cell? (a.add (i * 2)) = some (.int .i64 e.1.1) ∧ W.cell? (a.add (i * 2 + 1)) = some e.2 ∧ Byt TB W.heap.size W e.2 e.1.2 := by
      intro i hin
      obtain ⟨ys, k, hD, _, hyl, hf⟩ := hi i (by omega)
      obtain ⟨v0, y0, c0, g0, t0⟩ := hf 0 _ rfl
      obtain ⟨v1, y1, c1, g1, t1⟩ := hf 1 _ rfl
      obtain ⟨z, e0, _, _⟩ := DataW.trod_int Try.underlying3 t0
      injection e0 with e0
      subst e0
      obtain ⟨bs, hbs⟩ := byt_read t1 (fun q hq => hz q (by
        simp only [DataW.weights, Try.underlying22]
        refine List.mem_cons_of_mem _ (List.mem_append_left _ (weightsAll_mem (d := D i) (List.mem_map.2 ⟨i, by simpa using hin, rfl⟩) ?_))
        rw [hD]
        simp only [DataW.weights, Try.underlying46]
        exact DataW.weights_mem_each (j := 1) (t := 44) (d := y1.1) rfl (by simp [g1]) q hq))
      exact ⟨((z, bs), v1), c0, c1, hbs⟩
    let f : Nat → Ent × Value := fun i => if h : i < n then Classical.choose (each i h) else ((0, []), undef)
    have hf : ∀ i, i < n → W.cell? (a.add (i * 2)) = some (.int .i64 (f i).1.1) ∧ W.cell? (a.add (i * 2 + 1)) = some (f i).2 ∧ Byt TB W.heap.size W (f i).2 (f i).1.2 := by
      intro i hin
      have := Classical.choose_spec (each i hin)
      simp only [f, dif_pos hin]
      exact this
    have hll : ((List.range n).map fun i => (f i).1).length = n := by simp
    have hcell : ∀ j, j < n * 2 → ∃ u, W.cell? (a.add j) = some u := by
      intro j hj
      obtain ⟨h1, h2, _⟩ := hf (j / 2) (by omega)
      rcases Nat.mod_two_eq_zero_or_one j with h0 | h0
      · exact ⟨_, by rw [show j / 2 * 2 = j by omega] at h1; exact h1⟩
      · exact ⟨_, by rw [show j / 2 * 2 + 1 = j by omega] at h2; exact h2⟩
    refine ⟨some a, m, (List.range n).map fun i => (f i).1, by rw [hll], ?_, by omega, (fun e => by cases e), fun hne b off e => ?_, by rw [hll]; exact hnk⟩
    · refine ⟨(List.range (n * 2)).map fun j => (W.cell? (a.add j)).getD undef, fun hne => ?_, by simp, fun i hin => ?_⟩
      · have h0 : 0 < n := by
          rcases Nat.eq_zero_or_pos n with h0 | h0
          · subst h0; simp at hne
          · exact h0
        obtain ⟨b, off, spot⟩ := a
        obtain ⟨u0, hu0⟩ := hcell 0 (by omega)
        have hs : spot = none := by simpa [Addr.add] using World.cell?_spot hu0
        subst hs
        refine ⟨b, off, rfl, fun j u hu => ?_⟩
        have hj : j < n * 2 := by
          have := (List.getElem?_eq_some_iff.1 hu).1
          simpa using this
        obtain ⟨u', hu'⟩ := hcell j hj
        simp [hj, hu'] at hu
        subst hu
        rw [addr_none] at hu'
        exact hu'
      · rw [hll] at hin
        obtain ⟨h1, h2, h3⟩ := hf i hin
        have g : (((List.range n).map fun i => (f i).1).getD i (0, [])) = (f i).1 := by simp [List.getD, hin]
        rw [g]
        exact ⟨by simp [show i * 2 < n * 2 by omega, h1], (f i).2, by simp [show i * 2 + 1 < n * 2 by omega, h2], h3⟩
    · injection e with e
      subst e
      have h0 : 0 < n := by
        rcases Nat.eq_zero_or_pos n with h0 | h0
        · subst h0; simp at hne
        · exact h0
      obtain ⟨u0, hu0⟩ := hcell 0 (by omega)
      have := World.block_lt_of_cell? W _ hu0
      rw [addr_none] at this
      exact this

theorem ents_in {W : World} {b0 : Nat} {v : Value} {d : DataW H} {p : List MemPlace} (hv : Value.okWide Try.prog W .any b0 22 v) (h : DataW.Trod enc Try.prog W 0 (fun _ => true) true 22 v d p) (hz : ∀ n ∈ d.weights Try.prog 22, n ≤ reachBytes) (hk : Rows.uptoBulk d ≤ 1048576) :
    ∃ (A : Option Addr) (c : Nat) (L : List Ent), v = .slice A L.length c ∧ In W.heap.size W A c L := by
  obtain ⟨A, n, c, rfl⟩ := okWide_slice Try.underlying22 hv
  obtain ⟨fuel, hf⟩ := h
  exact ents_trod (v := .slice A n c) (y := (d, p)) (by simpa [Value.cells] using hf) hz hk

theorem acts_read {W : World} {b0 : Nat} {v : Value} {d : DataW H} {p : List MemPlace} (hv : Value.okWide Try.prog W .any b0 54 v) (h : DataW.Trod enc Try.prog W 0 (fun _ => true) true 54 v d p) (hz : ∀ n ∈ d.weights Try.prog 54, n ≤ reachBytes) (hk : Rows.uptoBulk d ≤ 1048576) :
    ∃ (A : Option Addr) (c : Nat) (L : List Ac), v = .slice A L.length c ∧ RowC W.heap.size W A L ∧ L.length ≤ 1048576 := by
  obtain ⟨A, n, c, rfl⟩ := okWide_slice Try.underlying54 hv
  obtain ⟨fuel, hf⟩ := h
  rcases open_slice_fields Try.underlying54 Try.underlying57 (by kernel_rfl) (by kernel_rfl) hf with ⟨hcs, _⟩ | ⟨a, len, cap, m, D, Pl, hcs, hb, hl, hm, hmm, hx, hi⟩
  · simp [Value.cells] at hcs
    obtain ⟨rfl, rfl, rfl⟩ := hcs
    exact ⟨none, 0, [], rfl, fun h => absurd rfl h, by simp⟩
  · simp [Value.cells] at hcs
    obtain ⟨rfl, rfl, rfl⟩ := hcs
    have hm' : m = c := by simpa using hmm
    subst hm'
    injection hx with hx _
    rw [hx] at hz hk
    simp only [Rows.uptoBulk] at hk
    have hnk : n ≤ 1048576 := by
      have := bulk_len ((List.range n).map D)
      rw [List.length_map, List.length_range] at this
      omega
    have each : ∀ i, i < n → ∃ x : Ac, W.cell? (a.add (i * 6)) = some (.int .i64 x.op) ∧ W.cell? (a.add (i * 6 + 1)) = some (.int .i64 x.index) ∧ W.cell? (a.add (i * 6 + 2)) = some (.bool x.own) ∧ W.cell? (a.add (i * 6 + 3)) = some (.int .i64 x.term) ∧ W.cell? (a.add (i * 6 + 4)) = some (.bool x.know) ∧
        (-9223372036854775808 ≤ x.index ∧ x.index ≤ 9223372036854775807) ∧ ∃ A' c', W.cell? (a.add (i * 6 + 5)) = some (.slice A' x.l.length c') ∧ In W.heap.size W A' c' x.l := by
      intro i hin
      obtain ⟨ys, k, hD, _, hyl, hf⟩ := hi i (by omega)
      obtain ⟨v0, y0, c0, g0, t0⟩ := hf 0 _ rfl
      obtain ⟨v1, y1, c1, g1, t1⟩ := hf 1 _ rfl
      obtain ⟨v2, y2, c2, g2, t2⟩ := hf 2 _ rfl
      obtain ⟨v3, y3, c3, g3, t3⟩ := hf 3 _ rfl
      obtain ⟨v4, y4, c4, g4, t4⟩ := hf 4 _ rfl
      obtain ⟨v5, y5, c5, g5, t5⟩ := hf 5 _ rfl
      obtain ⟨z0, e0, _, _⟩ := DataW.trod_int Try.underlying3 t0
      obtain ⟨z1, e1, _, w1⟩ := DataW.trod_int Try.underlying3 t1
      obtain ⟨z2, e2, _⟩ := DataW.trod_bool Try.underlying4 t2
      obtain ⟨z3, e3, _, _⟩ := DataW.trod_int Try.underlying3 t3
      obtain ⟨z4, e4, _⟩ := DataW.trod_bool Try.underlying4 t4
      injection e0 with e0
      injection e1 with e1
      injection e2 with e2
      injection e3 with e3
      injection e4 with e4
      subst e0 e1 e2 e3 e4
      have hmem : D i ∈ (List.range n).map D := List.mem_map.2 ⟨i, by simpa using hin, rfl⟩
      have hzD : ∀ q ∈ (D i).weights Try.prog 57, q ≤ reachBytes := fun q hq => hz q (by
        simp only [DataW.weights, Try.underlying54]
        exact List.mem_cons_of_mem _ (List.mem_append_left _ (weightsAll_mem (d := D i) hmem hq)))
      rw [hD] at hzD
      simp only [DataW.weights, Try.underlying57] at hzD
      have hkD := bulk_mem hmem
      rw [hD] at hkD
      simp only [Rows.uptoBulk] at hkD
      have hk5 := bulk_mem (show y5.1 ∈ ys.map (·.1) from List.mem_map.2 ⟨y5, List.mem_of_getElem? g5, rfl⟩)
      obtain ⟨A', c', l, rfl, hI⟩ := ents_trod t5 (fun q hq => hzD q (DataW.weights_mem_each (j := 5) (t := 22) (d := y5.1) rfl (by simp [g5]) q hq)) (by omega)
      have hr : -9223372036854775808 ≤ z1 ∧ z1 ≤ 9223372036854775807 := by simpa [Lit.wf, IntKind.min, IntKind.max, IntKind.signed, IntKind.bits] using w1
      exact ⟨⟨z0, z1, z2, z3, z4, l⟩, c0, c1, c2, c3, c4, hr, A', c', c5, hI⟩
    let f : Nat → Ac := fun i => if h : i < n then Classical.choose (each i h) else a0
    have hf : ∀ i, i < n → W.cell? (a.add (i * 6)) = some (.int .i64 (f i).op) ∧ W.cell? (a.add (i * 6 + 1)) = some (.int .i64 (f i).index) ∧ W.cell? (a.add (i * 6 + 2)) = some (.bool (f i).own) ∧ W.cell? (a.add (i * 6 + 3)) = some (.int .i64 (f i).term) ∧ W.cell? (a.add (i * 6 + 4)) = some (.bool (f i).know) ∧
        (-9223372036854775808 ≤ (f i).index ∧ (f i).index ≤ 9223372036854775807) ∧ ∃ A' c', W.cell? (a.add (i * 6 + 5)) = some (.slice A' (f i).l.length c') ∧ In W.heap.size W A' c' (f i).l := by
      intro i hin
      have := Classical.choose_spec (each i hin)
      simp only [f, dif_pos hin]
      exact this
    have hll : ((List.range n).map f).length = n := by simp
    refine ⟨some a, m, (List.range n).map f, by rw [hll], ?_, by rw [hll]; exact hnk⟩
    intro hne
    have h0 : 0 < n := by
      rcases Nat.eq_zero_or_pos n with h0 | h0
      · subst h0; simp at hne
      · exact h0
    obtain ⟨b, off, spot⟩ := a
    have hc0 := (hf 0 h0).1
    have hs : spot = none := by simpa [Addr.add] using World.cell?_spot hc0
    subst hs
    have hblt := World.block_lt_of_cell? W _ hc0
    rw [addr_none] at hblt
    refine ⟨b, off, rfl, hblt, fun i hin => ?_⟩
    rw [hll] at hin
    have g : ((List.range n).map f).getD i a0 = f i := by simp [List.getD, hin]
    rw [g]
    obtain ⟨e1, e2, e3, e4, e5, e6, A', c', e7, e8⟩ := hf i hin
    rw [addr_none] at e1 e2 e3 e4 e5 e7
    exact ⟨e1, e2, e3, e4, e5, e6, A', c', e7, e8⟩
end
end Go.Proofs.Ythiahnpijdkboaa
