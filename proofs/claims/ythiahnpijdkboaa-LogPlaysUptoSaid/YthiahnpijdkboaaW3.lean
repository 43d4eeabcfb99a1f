import Derived.Test.YthiahnpijdkboaaW2
namespace Go.Proofs.Ythiahnpijdkboaa
open Go.RowKit Go.Ext Go.BigFrame
attribute [local go_sem] Ext.cell Ext.frozen Ext.lt Ext.le s1 s2 s3 s4 s5 s6 t1 t2 t3 t4 t5 t6
attribute [local go_sem ↓] Go.wp_at_zero Go.wp_at_succ

/-- A log at block g: its index, its term, its entries, which lie at v. -/
structure LogAt (base : Nat) (w : World) (g : Nat) (idx term : Int) (L : List Ent) (v : Value) : Prop where
  blk : w.heap[g]? = some (.cells #[.int .i64 idx, .int .i64 term, v] 65 (0, 0))
  lo : base ≤ g
  row : OwnE base base w v L
  i0 : 0 ≤ idx
  i1 : idx ≤ 1125899906842624
  len : L.length ≤ 4398046511103

theorem LogAt.gr {base g : Nat} {w w' : World} {idx term : Int} {L : List Ent} {v : Value} (h : LogAt base w g idx term L v) (k : Gr w w') : LogAt base w' g idx term L v :=
  ⟨(k.block g (Array.getElem?_eq_some_iff.1 h.blk).1).trans h.blk, h.lo, h.row.gr k, h.i0, h.i1, h.len⟩
theorem LogAt.lt {base g : Nat} {w : World} {idx term : Int} {L : List Ent} {v : Value} (h : LogAt base w g idx term L v) : g < w.heap.size := (Array.getElem?_eq_some_iff.1 h.blk).1
theorem LogAt.cell {base g : Nat} {w : World} {idx term : Int} {L : List Ent} {v : Value} (h : LogAt base w g idx term L v) (i : Nat) : w.cell? ⟨g, i, none⟩ = (#[.int .i64 idx, .int .i64 term, v] : Array Value)[i]? := cell_of_row w g i _ 65 (0, 0) h.blk
theorem LogAt.frozen {base g : Nat} {w : World} {idx term : Int} {L : List Ent} {v : Value} (h : LogAt base w g idx term L v) (i : Nat) : w.frozen? ⟨g, i, none⟩ = false := by simp [World.frozen?, h.blk]
/-- The entries' slice, written out. -/
theorem LogAt.slice {base g : Nat} {w : World} {idx term : Int} {L : List Ent} {v : Value} (h : LogAt base w g idx term L v) : ∃ A c, v = .slice A L.length c ∧ Sl base w A L ∧ L.length ≤ c := by
  obtain ⟨ys, h1, h2⟩ := h.row
  rcases h1.2 with ⟨rfl, h0⟩ | ⟨g', cap, cur, rfl, hb, hh, hnc, _⟩
  · refine ⟨none, 0, by rw [h0], ⟨ys, ?_, h2⟩, by omega⟩
    have : ys = [] := List.eq_nil_of_length_eq_zero (by rw [h1.1, h0])
    rw [this]; exact Rd.nil _ _
  · exact ⟨_, cap, rfl, ⟨ys, Rd.of_own h1, h2⟩, hnc⟩

/-- The last entry's term. -/
def lastT (term : Int) (L : List Ent) : Int := if L.length = 0 then term else (L.getD (L.length - 1) (0, [])).1

set_option maxHeartbeats 1000000 in
theorem last_any (base g : Nat) (idx term : Int) (L : List Ent) (v : Value) (w : World) (h : LogAt base w g idx term L v) :
    Calls Try.prog 11 #[.pointer (some ⟨g, 0, none⟩)] w (RetE (.tuple #[.int .i64 (idx + L.length), .int .i64 (lastT term L)]) w) := by
  refine retE ?_
  obtain ⟨A, c, rfl, hs, hlc⟩ := h.slice
  have g0 := h.cell 0
  have g1 := h.cell 1
  have g2 := h.cell 2
  have hi0 := h.i0
  have hi1 := h.i1
  have hl := h.len
  have hlt := h.lt
  simp at g0 g1 g2
  clear h
  by_cases hn : 0 < L.length
  · obtain ⟨b, off, D, c', rfl, c1, _, _, c4⟩ := hs.at_ (i := L.length - 1) (by omega)
    have HT := hid (show lastT term L = (L.getD (L.length - 1) (0, [])).1 by unfold lastT; rw [if_neg (by omega)])
    generalize (L.getD (L.length - 1) (0, [])).1 = e at *
    clear hs
    have k0 : (0 : Int) ≤ (L.length : Int) - 1 := by omega
    have k1 : (L.length : Int) - 1 < (L.length : Int) := by omega
    go_enter Try.func11, Try.ntmps11
    go_wp2_with fail
    refine wp_region_ext (by kernel_rfl) (by kernel_rfl) ?_
    repeat (go_big_quiet_step (fail))
    refine wpQuiet_nil ?_
    rintro _ ⟨x, rfl⟩
    go_wp2_with fail
    go_ret2
    exact ⟨by rw [HT.out]; rfl, x.gr⟩
  · have hn0 : L.length = 0 := by omega
    have HT := hid (show lastT term L = term by unfold lastT; rw [if_pos hn0])
    have HI := hid (show idx + (L.length : Int) = idx by omega)
    go_enter Try.func11, Try.ntmps11
    go_wp2_with fail
    refine wp_region_ext (by kernel_rfl) (by kernel_rfl) ?_
    repeat (go_big_quiet_step (fail))
    refine wpQuiet_nil ?_
    rintro _ ⟨x, rfl⟩
    go_wp2_with fail
    go_ret2
    exact ⟨by rw [HT.out, HI.out]; rfl, x.gr⟩

theorem first_any (base g : Nat) (idx term : Int) (L : List Ent) (v : Value) (w : World) (h : LogAt base w g idx term L v) :
    Calls Try.prog 21 #[.pointer (some ⟨g, 0, none⟩)] w (RetE (.int .i64 (idx + 1)) w) := by
  refine retE_same ?_
  have g0 := h.cell 0
  have hi0 := h.i0
  have hi1 := h.i1
  simp at g0
  clear h
  go_enter Try.func21, Try.ntmps21
  go_wp2_with fail
  go_ret
  exact ⟨rfl, rfl⟩
theorem len_any (base g : Nat) (idx term : Int) (L : List Ent) (v : Value) (w : World) (h : LogAt base w g idx term L v) :
    Calls Try.prog 24 #[.pointer (some ⟨g, 0, none⟩)] w (RetE (.int .i64 L.length) w) := by
  refine retE_same ?_
  obtain ⟨A, c, rfl, hs, hlc⟩ := h.slice
  have g2 := h.cell 2
  have hl := h.len
  simp at g2
  clear h hs
  go_enter Try.func24, Try.ntmps24
  go_wp2_with fail
  go_ret
  exact ⟨rfl, rfl⟩

/-- Is there such an entry, or the one ahead? Its term. -/
def tmB (idx : Int) (n : Nat) (i : Int) : Bool := decide (idx ≤ i ∧ i ≤ idx + n)
def tmT (idx term : Int) (L : List Ent) (i : Int) : Int := if i = idx then term else if idx < i ∧ i ≤ idx + L.length then (L.getD (i - idx - 1).toNat (0, [])).1 else 0

set_option maxHeartbeats 1000000 in
theorem term_any (base g : Nat) (idx term i : Int) (L : List Ent) (v : Value) (w : World) (h : LogAt base w g idx term L v) (hm : i ≤ 9223372036854775807) :
    Calls Try.prog 22 #[.pointer (some ⟨g, 0, none⟩), .int .i64 i] w (RetE (.tuple #[.int .i64 (tmT idx term L i), .bool (tmB idx L.length i)]) w) := by
  refine retE ?_
  obtain ⟨A, c, rfl, hs, hlc⟩ := h.slice
  have g0 := h.cell 0
  have g1 := h.cell 1
  have g2 := h.cell 2
  have hi0 := h.i0
  have hi1 := h.i1
  have hl := h.len
  have hlt := h.lt
  simp at g0 g1 g2
  clear h
  by_cases e0 : i = idx
  · subst e0
    have HT := hid (show tmT i term L i = term by unfold tmT; rw [if_pos rfl])
    have HB := hid (show tmB i L.length i = true from decide_eq_true (by omega))
    clear hs
    go_enter Try.func22, Try.ntmps22
    go_wp2_with fail
    go_ret2
    exact ⟨by rw [HT.out, HB.out]; rfl, Gr.refl _⟩
  have b0 : (i == idx) = false := by simpa using e0
  by_cases e1 : i < idx
  · have HT := hid (show tmT idx term L i = 0 by unfold tmT; rw [if_neg e0, if_neg (by omega)])
    have HB := hid (show tmB idx L.length i = false from decide_eq_false (by omega))
    have b1 : decide (i < idx) = true := decide_eq_true e1
    clear hs e0
    go_enter Try.func22, Try.ntmps22
    go_wp2_with fail
    refine wp_region_ext (by kernel_rfl) (by kernel_rfl) ?_
    repeat (go_big_quiet_step (fail))
    refine wpQuiet_nil ?_
    rintro _ ⟨x, rfl⟩
    go_wp2_with fail
    go_ret2
    exact ⟨by rw [HT.out, HB.out]; rfl, x.gr⟩
  have b1 : decide (i < idx) = false := decide_eq_false e1
  by_cases e2 : (L.length : Int) < i - idx
  · have HT := hid (show tmT idx term L i = 0 by unfold tmT; rw [if_neg e0, if_neg (by omega)])
    have HB := hid (show tmB idx L.length i = false from decide_eq_false (by omega))
    clear hs e0
    go_enter Try.func22, Try.ntmps22
    go_wp2_with fail
    refine wp_region_ext (by kernel_rfl) (by kernel_rfl) ?_
    repeat (go_big_quiet_step (fail))
    refine wpQuiet_nil ?_
    rintro _ ⟨x, rfl⟩
    go_wp2_with fail
    go_ret2
    exact ⟨by rw [HT.out, HB.out]; rfl, x.gr⟩
  · obtain ⟨j, hj⟩ : ∃ j : Nat, i - idx - 1 = (j : Int) := ⟨(i - idx - 1).toNat, by omega⟩
    obtain ⟨b, off, D, c', rfl, c1, _, _, c4⟩ := hs.at_ (i := j) (by omega)
    have HT := hid (show tmT idx term L i = (L.getD j (0, [])).1 by unfold tmT; rw [if_neg e0, if_pos (by omega), hj, Int.toNat_natCast])
    have HB := hid (show tmB idx L.length i = true from decide_eq_true (by omega))
    generalize (L.getD j (0, [])).1 = e at *
    have k1 : (j : Int) < (L.length : Int) := by omega
    have b2 : decide ((L.length : Int) < i - idx) = false := decide_eq_false e2
    clear hs e0
    go_enter Try.func22, Try.ntmps22
    go_wp2_with fail
    refine wp_region_ext (by kernel_rfl) (by kernel_rfl) ?_
    repeat (go_big_quiet_step (fail))
    refine wpQuiet_nil ?_
    rintro _ ⟨x, rfl⟩
    go_wp2_with fail
    refine wp_region_ext (by kernel_rfl) (by kernel_rfl) ?_
    repeat (go_big_quiet_step (fail))
    refine wpQuiet_nil ?_
    rintro _ ⟨y, rfl⟩
    go_wp2_with fail
    go_ret2
    exact ⟨by rw [HT.out, HB.out]; rfl, x.gr.trans y.gr⟩
end Go.Proofs.Ythiahnpijdkboaa
