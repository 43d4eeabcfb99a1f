/- What the rows of this seat read: bytes, bools, acts. -/
import Derived.Test.YtkgmienjioplaaaD3
import Derived.Test.YtkgmienjioplaaaRow
import Derived.SizedLaws
import Derived.Deep.Slices
import Derived.Deep.Fields
import Derived.Deep.Grids
import Derived.ChangeSame
namespace Go.Proofs.Ytkgmienjioplaaa
open Go.RowKit Go.Ext Go.ChangeShapes Go.WideShapes Go.ChangeAt Go.Joins Go.Deep

theorem Try.own : ownKnob Try.prog.godebug = none := by kernel_rfl
theorem Try.laidOut : laidOutB Try.prog = true := by kernel_rfl
theorem addr_none {b off j : Nat} : (⟨b, off, none⟩ : Addr).add j = ⟨b, off + j, none⟩ := by unfold Addr.add; split <;> simp_all

/-- Bytes that were there. -/
def BytR (w : World) (v : Value) (bs : List UInt8) : Prop := ∃ A c, v = .slice A bs.length c ∧ bs.length ≤ 140737488351232 ∧ Rd w A (bc bs) ∧ (A = none → c = 0)
theorem BytR.byt {w : World} {v : Value} {bs : List UInt8} (h : BytR w v bs) (T : Nat → TypeId → Bool) : Byt T w.heap.size w v bs := by
  obtain ⟨A, c, e, h1, h2, h3⟩ := h
  refine ⟨A, c, e, h1, h2, fun hne => ?_, h3⟩
  have hb : bc bs ≠ [] := by unfold bc; simpa using hne
  obtain ⟨b, o, rfl, hc⟩ := h2 hb
  obtain ⟨u, hu⟩ : ∃ u, (bc bs)[0]? = some u := ⟨_, List.getElem?_eq_getElem (List.length_pos_iff.2 hb)⟩
  have := World.block_lt_of_cell? w _ (hc 0 u hu)
  exact ⟨b, o, rfl, this, .inl this⟩
theorem BytR.bts {w : World} {v : Value} {bs : List UInt8} (h : BytR w v bs) : Bts w v bs := h

section
variable {H : Type} {enc : TypeId × Value → H}
theorem byt_read {W : World} {fuel : Nat} {v : Value} {y : DataW H × List MemPlace} (h : DataW.trod enc Try.prog W 0 (fun _ => true) true fuel 22 [v] = some y) (hz : ∀ n ∈ y.1.weights Try.prog 22, n ≤ reachBytes) :
    ∃ bs, BytR W v bs := by
  rcases open_ints (k := .u8) Try.underlying22 Try.underlying5 (by kernel_rfl) h with ⟨hcs, _⟩ | ⟨a, len, cap, zs, hcs, _, hl, hm, hlen, hx, hcell, hw⟩
  · injection hcs with hcs
    subst hcs
    exact ⟨[], none, 0, rfl, by simp, Rd.nil _ _, fun _ => rfl⟩
  · injection hcs with hcs
    subst hcs
    have hcap : zs.length = cap := by simpa using hlen
    have hb : cap ≤ 140737488351232 := by
      have := hz _ (by
        rw [hx]
        simp only [DataW.weights, Try.underlying22]
        exact List.mem_cons_self ..)
      simp only [Go.ChangeShapes.lits, List.length_map, List.length_take, List.length_drop, hcap] at this
      have e1 : Try.prog.bytesOf 5 = 1 := by kernel_rfl
      rw [e1] at this
      unfold reachBytes at this
      omega
    refine ⟨(zs.take len).map (fun z => UInt8.ofNat z.toNat), some a, cap, by simp; omega, by simp; omega, fun hne => ?_, fun e => by cases e⟩
    have h0 : 0 < len := by
      rcases Nat.eq_zero_or_pos len with h0 | h0
      · subst h0; simp [bc] at hne
      · exact h0
    obtain ⟨b, off, spot⟩ := a
    have hs : spot = none := by
      have := hcell 0 (by omega)
      simpa [Addr.add] using World.cell?_spot this
    subst hs
    refine ⟨b, off, rfl, fun j u hu => ?_⟩
    have hj : j < len := by
      have := (List.getElem?_eq_some_iff.1 hu).1
      simp [bc] at this; omega
    have := hcell j (by omega)
    rw [addr_none] at this
    rw [this, ← hu]
    have hwz := hw (zs[j]'(by omega)) (List.getElem_mem _)
    have hr : 0 ≤ zs[j]'(by omega) ∧ zs[j]'(by omega) ≤ 255 := by simpa [Lit.wf, IntKind.min, IntKind.max, IntKind.signed, IntKind.bits] using hwz
    simp [bc, hj, List.getD, show j < zs.length by omega]
    omega

theorem bls_read {W : World} {fuel : Nat} {v : Value} {y : DataW H × List MemPlace} (h : DataW.trod enc Try.prog W 0 (fun _ => true) true fuel 23 [v] = some y) (hz : ∀ n ∈ y.1.weights Try.prog 23, n ≤ reachBytes) :
    ∃ ks A c, v = .slice A ks.length c ∧ ks.length ≤ 140737488351232 ∧ Bls W A ks ∧ (A = none → c = 0) := by
  rcases open_bools Try.underlying23 Try.underlying4 (by kernel_rfl) h with ⟨hcs, _⟩ | ⟨a, len, cap, B, hcs, _, hl, hm, hx, hcell⟩
  · injection hcs with hcs
    subst hcs
    exact ⟨[], none, 0, rfl, by simp, Rd.nil _ _, fun _ => rfl⟩
  · injection hcs with hcs
    subst hcs
    have hb : cap ≤ 140737488351232 := by
      have := hz ((len + (cap - len)) * 1) (by
        rw [hx]
        simp only [boolRow, DataW.weights, Try.underlying23]
        have e1 : Try.prog.bytesOf 4 = 1 := by kernel_rfl
        rw [e1, List.length_map, List.length_map, List.length_range, List.length_range]
        exact List.mem_cons_self ..)
      unfold reachBytes at this
      omega
    refine ⟨(List.range len).map B, some a, cap, by simp, by simp; omega, fun hne => ?_, fun e => by cases e⟩
    have h0 : 0 < len := by
      rcases Nat.eq_zero_or_pos len with h0 | h0
      · subst h0; simp at hne
      · exact h0
    obtain ⟨b, off, spot⟩ := a
    have hs : spot = none := by
      have := hcell 0 (by omega)
      simpa [Addr.add] using World.cell?_spot this
    subst hs
    refine ⟨b, off, rfl, fun j u hu => ?_⟩
    have hj : j < len := by
      have := (List.getElem?_eq_some_iff.1 hu).1
      simpa using this
    have := hcell j (by omega)
    rw [addr_none] at this
    rw [this, ← hu]
    simp [hj]
end
end Go.Proofs.Ytkgmienjioplaaa
