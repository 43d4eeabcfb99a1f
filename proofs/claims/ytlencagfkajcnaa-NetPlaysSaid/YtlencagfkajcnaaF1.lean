import Derived.Test.YtlencagfkajcnaaN2
namespace Go.Proofs.Ytlencagfkajcnaa
open Go.RowKit Go.Ext Go.BigFrame
attribute [local go_sem] Ext.cell Ext.frozen Ext.lt Ext.le s1 s2 s3 s4 s5 s6 t1 t2 t3 t4 t5 t6
attribute [local go_sem ↓] Go.wp_at_zero Go.wp_at_succ

/-- An act: its kind, two numbers, its bytes. -/
abbrev Ac := Int × Int × Int × List UInt8
abbrev a0 : Ac := (0, 0, 0, [])
/-- The slice at A reads as acts. -/
def RowC (w : World) (A : Option Addr) (L : List Ac) : Prop := L ≠ [] → ∃ b off, A = some ⟨b, off, none⟩ ∧ ∀ i, i < L.length →
  w.cell? ⟨b, off + i * 4, none⟩ = some (.int .i64 (L.getD i a0).1) ∧ w.cell? ⟨b, off + i * 4 + 1, none⟩ = some (.int .i64 (L.getD i a0).2.1) ∧ w.cell? ⟨b, off + i * 4 + 2, none⟩ = some (.int .i64 (L.getD i a0).2.2.1) ∧
  ∃ A' c', w.cell? ⟨b, off + i * 4 + 3, none⟩ = some (.slice A' (L.getD i a0).2.2.2.length c') ∧ Bys w (.slice A' (L.getD i a0).2.2.2.length c') (L.getD i a0).2.2.2
theorem RowC.gr {w w' : World} {A : Option Addr} {L : List Ac} (h : RowC w A L) (g : Gr w w') : RowC w' A L := fun hn => by
  obtain ⟨b, off, rfl, hc⟩ := h hn
  refine ⟨b, off, rfl, fun i hi => ?_⟩
  obtain ⟨h1, h2, h3, A', c', h4, h5⟩ := hc i hi
  have e := fun {v : Value} {o : Nat} (hh : w.cell? ⟨b, o, none⟩ = some v) => (g.cell (World.block_lt_of_cell? w _ hh)).trans hh
  exact ⟨e h1, e h2, e h3, A', c', e h4, h5.gr g⟩
theorem RowC.at_ {w : World} {A : Option Addr} {L : List Ac} (h : RowC w A L) {i : Nat} (hi : i < L.length) : ∃ b off A' c', A = some ⟨b, off, none⟩ ∧ b < w.heap.size ∧
    w.cell? ⟨b, off + i * 4, none⟩ = some (.int .i64 (L.getD i a0).1) ∧ w.cell? ⟨b, off + i * 4 + 1, none⟩ = some (.int .i64 (L.getD i a0).2.1) ∧ w.cell? ⟨b, off + i * 4 + 2, none⟩ = some (.int .i64 (L.getD i a0).2.2.1) ∧
    w.cell? ⟨b, off + i * 4 + 3, none⟩ = some (.slice A' (L.getD i a0).2.2.2.length c') ∧ Bys w (.slice A' (L.getD i a0).2.2.2.length c') (L.getD i a0).2.2.2 := by
  obtain ⟨b, off, rfl, hc⟩ := h (by rintro rfl; simp at hi)
  obtain ⟨h1, h2, h3, A', c', h4, h5⟩ := hc i hi
  exact ⟨b, off, A', c', rfl, World.block_lt_of_cell? w _ h1, h1, h2, h3, h4, h5⟩

/-- All bytes of acts. -/
def sumL (L : List Ac) : Nat := (L.map fun a => a.2.2.2.length).sum
theorem sumL_succ (L : List Ac) (k : Nat) (hk : k < L.length) : sumL (L.take (k + 1)) = sumL (L.take k) + (L.getD k a0).2.2.2.length := by
  unfold sumL
  rw [List.take_add_one, List.map_append, List.sum_append]
  simp [List.getD, hk]
theorem sumL_mem : ∀ (L : List Ac) (i : Nat), i < L.length → (L.getD i a0).2.2.2.length ≤ sumL L
  | [], i, h => by simp at h
  | a :: L, 0, _ => by simp [sumL]
  | a :: L, i + 1, h => by
    have := sumL_mem L i (by simpa using h)
    simp only [List.getD_cons_succ, sumL, List.map_cons, List.sum_cons] at this ⊢
    omega

/-- What few says. -/
def RetF (acts : List Ac) (w : World) (e : Ending) (w' : World) : Prop := ∃ r, e = .returned (.bool r) ∧ (r = true → acts.length ≤ 200 ∧ ∀ i, i < acts.length → (acts.getD i a0).2.2.2.length ≤ 16384) ∧ w = w'

set_option maxHeartbeats 1000000 in
theorem few_any (A : Option Addr) (c : Nat) (acts : List Ac) (w : World) (hr : RowC w A acts) (hl : acts.length ≤ 4398046511103) : Calls Try.prog 13 #[.slice A acts.length c] w (RetF acts w) := by
  have HR := hid hr
  clear hr
  go_enter Try.func13, Try.ntmps13
  go_wp2_with fail
  go_loopw [3, 4] (fun s i wr => ∃ (k : Nat) (z : Int), k ≤ acts.length ∧ i = .int .i64 k ∧ s = .int .i64 z ∧ (k ≤ 200 → z = sumL (acts.take k) ∧ sumL (acts.take k) ≤ k * 140737488351232) ∧ w = wr) (fun _ i _ => acts.length - (intOf i).toNat)
  case atStart => exact ⟨0, 0, Nat.zero_le _, rfl, rfl, fun _ => by simp [sumL], rfl⟩
  case round =>
    obtain ⟨k, z, hk, rfl, rfl, hz, rfl⟩ := hrel
    have HZ := hid hz
    clear hz
    by_cases hlt : k < acts.length
    · obtain ⟨b, off, A', c', rfl, hb, d0, d1, d2, d3, d4⟩ := HR.out.at_ hlt
      have hS := hid (sumL_succ acts k hlt)
      have hlb : (acts.getD k a0).2.2.2.length ≤ 140737488351232 := by obtain ⟨_, _, _, h, _⟩ := d4; exact h
      generalize (acts.getD k a0).2.2.2.length = n at *
      clear d0 d1 d2 d4
      by_cases h200 : k < 200
      · obtain ⟨e1, e2⟩ := HZ.out (by omega)
        have hz0 : 0 ≤ z := by omega
        have hz1 : z ≤ 28147497670246400 := by omega
        have HE1 := hid e1
        have HE2 := hid e2
        clear e1 e2
        go_wp2_with fail
        go_roundw
        case rel => exact ⟨k + 1, z + n, by omega, by go_num, by go_num, fun _ => by rw [hS.out]; have := HE1.out; have := HE2.out; constructor <;> omega, trivial⟩
        case measure => simp [intOf]; omega
      · go_wp2_with fail
        go_roundw
        case rel => exact ⟨k + 1, _, by omega, by go_num, rfl, fun h => by omega, trivial⟩
        case measure => simp [intOf]; omega
    · have hke : k = acts.length := by omega
      subst hke
      by_cases h200 : acts.length ≤ 200
      · obtain ⟨e1, e2⟩ := HZ.out h200
        rw [List.take_length] at e1 e2
        have HE1 := hid e1
        clear e1 e2
        have h2z : (acts.length : Int) ≤ 200 := by omega
        go_wp2_with fail
        go_ret
        refine ⟨_, rfl, fun h => ⟨h200, fun i hi => ?_⟩, rfl⟩
        have h16 : z ≤ 16384 := by simpa using h
        have := sumL_mem acts i hi
        have := HE1.out
        omega
      · have h2z : ¬ (acts.length : Int) ≤ 200 := by omega
        go_wp2_with fail
        go_ret
        exact ⟨false, rfl, (fun h => by cases h), rfl⟩
end Go.Proofs.Ytlencagfkajcnaa
