/- What the rows of this seat read of a slice of acts, with its numbers' bounds. -/
import Derived.Test.YtkgmienjioplaaaE11
import Derived.Test.YtkgmienjioplaaaRead2
namespace Go.Proofs.Ytkgmienjioplaaa
open Go.RowKit Go.Ext Go.ChangeShapes Go.WideShapes Go.ChangeAt Go.Joins Go.Deep

section
variable {H : Type} {enc : TypeId × Value → H}
theorem acts_read2 {W : World} {fuel : Nat} {v : Value} {y : DataW H × List MemPlace} (h : DataW.trod enc Try.prog W 0 (fun _ => true) true fuel 43 [v] = some y) (hz : ∀ n ∈ y.1.weights Try.prog 43, n ≤ reachBytes) :
    ∃ (A : Option Addr) (c : Nat) (L : List ActM), v = .slice A L.length c ∧ Acts2 W A L ∧ L.length ≤ 4398046511000 := by
  rcases open_slice_fields Try.underlying43 Try.underlying46 (by kernel_rfl) (by kernel_rfl) h with ⟨hcs, _⟩ | ⟨a, n, c, m, D, Pl, hcs, hb, hl, hm, hmm, hx, hi⟩
  · injection hcs with hcs
    subst hcs
    exact ⟨none, 0, [], rfl, ⟨fun i hi => absurd hi (by simp), fun i hi => absurd hi (by simp)⟩, by simp⟩
  · injection hcs with hcs
    subst hcs
    have hm' : m = c := by simpa using hmm
    subst hm'
    rw [hx] at hz
    have hsz := hz ((n + (m - n)) * 80) (by
      simp only [DataW.weights, Try.underlying43]
      have e1 : Try.prog.bytesOf 46 = 80 := by kernel_rfl
      rw [e1, List.length_map, List.length_map, List.length_range, List.length_range]
      exact List.mem_cons_self ..)
    unfold reachBytes at hsz
    have each : ∀ i, i < n → ∃ e : ActM × Value × Value, W.cell? (a.add (i * 6)) = some (.int .i64 e.1.op) ∧ W.cell? (a.add (i * 6 + 1)) = some (.int .i64 e.1.sector) ∧ W.cell? (a.add (i * 6 + 2)) = some (.int .u8 (e.1.fill.toNat : Int)) ∧
        W.cell? (a.add (i * 6 + 3)) = some e.2.1 ∧ W.cell? (a.add (i * 6 + 4)) = some (.int .i64 e.1.n) ∧ W.cell? (a.add (i * 6 + 5)) = some e.2.2 ∧ BytR W e.2.1 e.1.bytes ∧ BlsR W e.2.2 e.1.keep ∧ e.1.n ≤ 9223372036854775807 := by
      intro i hin
      obtain ⟨ys, k, hD, _, hyl, hf⟩ := hi i (by omega)
      obtain ⟨v0, y0, c0, g0, t0⟩ := hf 0 _ rfl
      obtain ⟨v1, y1, c1, g1, t1⟩ := hf 1 _ rfl
      obtain ⟨v2, y2, c2, g2, t2⟩ := hf 2 _ rfl
      obtain ⟨v3, y3, c3, g3, t3⟩ := hf 3 _ rfl
      obtain ⟨v4, y4, c4, g4, t4⟩ := hf 4 _ rfl
      obtain ⟨v5, y5, c5, g5, t5⟩ := hf 5 _ rfl
      obtain ⟨z0, e0, _, _⟩ := DataW.trod_int Try.underlying3 t0
      obtain ⟨z1, e1, _, _⟩ := DataW.trod_int Try.underlying3 t1
      obtain ⟨z2, e2, _, hw2⟩ := DataW.trod_int Try.underlying5 t2
      obtain ⟨z4, e4, _, hw4⟩ := DataW.trod_int Try.underlying3 t4
      injection e0 with e0
      injection e1 with e1
      injection e2 with e2
      injection e4 with e4
      subst e0 e1 e2 e4
      have r2 : 0 ≤ z2 ∧ z2 ≤ 255 := by simpa [Lit.wf, IntKind.min, IntKind.max, IntKind.signed, IntKind.bits] using hw2
      have r4 : -9223372036854775808 ≤ z4 ∧ z4 ≤ 9223372036854775807 := by simpa [Lit.wf, IntKind.min, IntKind.max, IntKind.signed, IntKind.bits] using hw4
      have q2 : (((UInt8.ofNat z2.toNat).toNat : Nat) : Int) = z2 := by simp; omega
      have hzD : ∀ q ∈ (D i).weights Try.prog 46, q ≤ reachBytes := fun q hq => hz q (by
        simp only [DataW.weights, Try.underlying43]
        exact List.mem_cons_of_mem _ (List.mem_append_left _ (weightsAll_mem (d := D i) (List.mem_map.2 ⟨i, by simpa using hin, rfl⟩) hq)))
      rw [hD] at hzD
      simp only [DataW.weights, Try.underlying46] at hzD
      obtain ⟨bs, hbs⟩ := byt_read t3 (fun q hq => hzD q (DataW.weights_mem_each (j := 3) (t := 22) (d := y3.1) rfl (by simp [g3]) q hq))
      obtain ⟨ks, K, kc, ek, hkl, hkb, hkn⟩ := bls_read t5 (fun q hq => hzD q (DataW.weights_mem_each (j := 5) (t := 23) (d := y5.1) rfl (by simp [g5]) q hq))
      exact ⟨(⟨z0, z1, UInt8.ofNat z2.toNat, bs, z4, ks⟩, v3, v5), c0, c1, by rw [q2]; exact c2, c3, c4, c5, hbs, ⟨K, kc, ek, hkl, hkb, hkn⟩, r4.2⟩
    obtain ⟨f, hf⟩ := choose_lt (α := ActM × Value × Value) each
    have hll : ((List.range n).map fun i => (f i).1).length = n := by simp
    refine ⟨some a, m, (List.range n).map fun i => (f i).1, by rw [hll], ⟨fun i hin => ?_, fun i hin => ?_⟩, by omega⟩
    rotate_left
    · rw [hll] at hin
      have g : ((List.range n).map fun i => (f i).1)[i]'(by rw [hll]; exact hin) = (f i).1 := by simp
      rw [g]
      exact (hf i hin).2.2.2.2.2.2.2.2
    rw [hll] at hin
    obtain ⟨h0, h1, h2, h3, h4, h5, h6, h7, _⟩ := hf i hin
    obtain ⟨b, off, spot⟩ := a
    have hs : spot = none := by
      obtain ⟨k0, _⟩ := hf 0 (by omega)
      simpa [Addr.add] using World.cell?_spot k0
    subst hs
    rw [addr_none] at h0 h1 h2 h3 h4 h5
    obtain ⟨B, bc', e3, _⟩ := id h6
    obtain ⟨K, kc, e5, _⟩ := id h7
    have g : ((List.range n).map fun i => (f i).1)[i]'(by rw [hll]; exact hin) = (f i).1 := by simp
    rw [g]
    rw [e3] at h3 h6
    rw [e5] at h5 h7
    exact ⟨b, off, B, _, bc', K, _, kc, rfl, World.block_lt_of_cell? W _ h0, h0, h1, h2, h3, h4, h5, h6, h7⟩
end
end Go.Proofs.Ytkgmienjioplaaa
