import Derived.Test.YthiahnpijdkboaaR2
import Derived.Test.YthiahnpijdkboaaW5
namespace Go.Proofs.Ythiahnpijdkboaa
open Go.RowKit Go.Ext Go.BigFrame
attribute [local go_sem] Ext.cell Ext.frozen Ext.lt Ext.le s1 s2 s3 s4 s5 s6 t1 t2 t3 t4 t5 t6
attribute [local go_sem ↓] Go.wp_at_zero Go.wp_at_succ

/-- The document's log at block g: its index, its term, its entries, which lie at v. -/
structure RefAt (base : Nat) (w : World) (g : Nat) (idx term : Int) (L : List Ent) (v : Value) : Prop where
  blk : w.heap[g]? = some (.cells #[.int .i64 idx, .int .i64 term, v] 60 (0, 0))
  lo : base ≤ g
  row : OwnR base base w v L
  i0 : 0 ≤ idx
  i1 : idx ≤ 1125899906842624
  len : L.length ≤ 4398046511103

theorem RefAt.gr {base g : Nat} {w w' : World} {idx term : Int} {L : List Ent} {v : Value} (h : RefAt base w g idx term L v) (k : Gr w w') : RefAt base w' g idx term L v :=
  ⟨(k.block g (Array.getElem?_eq_some_iff.1 h.blk).1).trans h.blk, h.lo, h.row.gr k, h.i0, h.i1, h.len⟩
theorem RefAt.lt {base g : Nat} {w : World} {idx term : Int} {L : List Ent} {v : Value} (h : RefAt base w g idx term L v) : g < w.heap.size := (Array.getElem?_eq_some_iff.1 h.blk).1
theorem RefAt.cell {base g : Nat} {w : World} {idx term : Int} {L : List Ent} {v : Value} (h : RefAt base w g idx term L v) (i : Nat) : w.cell? ⟨g, i, none⟩ = (#[.int .i64 idx, .int .i64 term, v] : Array Value)[i]? := cell_of_row w g i _ 60 (0, 0) h.blk
theorem RefAt.frozen {base g : Nat} {w : World} {idx term : Int} {L : List Ent} {v : Value} (h : RefAt base w g idx term L v) (i : Nat) : w.frozen? ⟨g, i, none⟩ = false := by simp [World.frozen?, h.blk]
set_option maxHeartbeats 1000000 in
theorem termR_any (base g : Nat) (idx term i : Int) (L : List Ent) (v : Value) (w : World) (h : RefAt base w g idx term L v) (hm : i ≤ 9223372036854775807) :
    Calls Try.prog 15 #[.pointer (some ⟨g, 0, none⟩), .int .i64 i] w (RetE (.tuple #[.int .i64 (tmT idx term L i), .bool (tmB idx L.length i)]) w) := by
  refine retE ?_
  obtain ⟨A, c, rfl, hs, hlc⟩ := h.row.shape
  have g0 := h.cell 0
  have g1 := h.cell 1
  have g2 := h.cell 2
  have hi0 := h.i0
  have hi1 := h.i1
  have hl := h.len
  have hlt := h.lt
  simp at g0 g1 g2
  clear h
  by_cases e0 : i = idx
  · subst e0
    have HT := hid (show tmT i term L i = term by unfold tmT; rw [if_pos rfl])
    have HB := hid (show tmB i L.length i = true from decide_eq_true (by omega))
    clear hs
    go_enter Try.func15, Try.ntmps15
    go_wp2_with fail
    go_ret2
    exact ⟨by rw [HT.out, HB.out]; rfl, Gr.refl _⟩
  have b0 : (i == idx) = false := by simpa using e0
  by_cases e1 : i < idx
  · have HT := hid (show tmT idx term L i = 0 by unfold tmT; rw [if_neg e0, if_neg (by omega)])
    have HB := hid (show tmB idx L.length i = false from decide_eq_false (by omega))
    have b1 : decide (i < idx) = true := decide_eq_true e1
    clear hs e0
    go_enter Try.func15, Try.ntmps15
    go_wp2_with fail
    refine wp_region_ext (by kernel_rfl) (by kernel_rfl) ?_
    repeat (go_big_quiet_step (fail))
    refine wpQuiet_nil ?_
    rintro _ ⟨x, rfl⟩
    go_wp2_with fail
    go_ret2
    exact ⟨by rw [HT.out, HB.out]; rfl, x.gr⟩
  have b1 : decide (i < idx) = false := decide_eq_false e1
  by_cases e2 : idx + (L.length : Int) < i
  · have HT := hid (show tmT idx term L i = 0 by unfold tmT; rw [if_neg e0, if_neg (by omega)])
    have HB := hid (show tmB idx L.length i = false from decide_eq_false (by omega))
    clear hs e0
    go_enter Try.func15, Try.ntmps15
    go_wp2_with fail
    refine wp_region_ext (by kernel_rfl) (by kernel_rfl) ?_
    repeat (go_big_quiet_step (fail))
    refine wpQuiet_nil ?_
    rintro _ ⟨x, rfl⟩
    go_wp2_with fail
    go_ret2
    exact ⟨by rw [HT.out, HB.out]; rfl, x.gr⟩
  · obtain ⟨j, hj⟩ : ∃ j : Nat, i - idx - 1 = (j : Int) := ⟨(i - idx - 1).toNat, by omega⟩
    obtain ⟨b, off, D, c', rfl, c1, _, _, c4⟩ := hs.at_ (i := j) (by omega)
    have HT := hid (show tmT idx term L i = (L.getD j (0, [])).1 by unfold tmT; rw [if_neg e0, if_pos (by omega), hj, Int.toNat_natCast])
    have HB := hid (show tmB idx L.length i = true from decide_eq_true (by omega))
    generalize (L.getD j (0, [])).1 = e at *
    have k1 : (j : Int) < (L.length : Int) := by omega
    have b2 : decide (idx + (L.length : Int) < i) = false := decide_eq_false e2
    clear hs e0
    go_enter Try.func15, Try.ntmps15
    go_wp2_with fail
    refine wp_region_ext (by kernel_rfl) (by kernel_rfl) ?_
    repeat (go_big_quiet_step (fail))
    refine wpQuiet_nil ?_
    rintro _ ⟨x, rfl⟩
    go_wp2_with fail
    refine wp_region_ext (by kernel_rfl) (by kernel_rfl) ?_
    repeat (go_big_quiet_step (fail))
    refine wpQuiet_nil ?_
    rintro _ ⟨y, rfl⟩
    go_wp2_with fail
    go_ret2
    exact ⟨by rw [HT.out, HB.out]; rfl, x.gr.trans y.gr⟩
set_option maxHeartbeats 2000000 in
theorem newR_bad (base : Nat) (idx term : Int) (A : Option Addr) (c : Nat) (L : List Ent) (w : World) (hs : Sl base w A L) (hl : L.length ≤ 4398046511103) (h : ¬ NewOk idx term L) :
    Calls Try.prog 13 #[.int .i64 idx, .int .i64 term, .slice A L.length c] w (RetE (.tuple #[.pointer none, .int .i64 1]) w) := by
  refine retE ?_
  have HS := hid hs
  clear hs
  have HN := hid h
  clear h
  by_cases h1 : idx < 0
  · go_enter Try.func13, Try.ntmps13
    go_wp2_with fail
    go_ret2
    exact ⟨rfl, Gr.refl _⟩
  by_cases h2 : term < 0
  · go_enter Try.func13, Try.ntmps13
    go_wp2_with fail
    go_ret2
    exact ⟨rfl, Gr.refl _⟩
  by_cases h3 : idx = 0
  · by_cases h4 : term = 0
    · have hr := hid (show rs term L = false by
        cases hr : rs term L
        · rfl
        · exact absurd ⟨by omega, by omega, by omega, hr⟩ HN.out)
      have HC := hid ((risesR_any base term A c L w HS.out hl).mono (R' := RetE (.bool false) w) (fun _ _ h => by rwa [hr.out] at h))
      subst h3 h4
      go_enter Try.func13, Try.ntmps13
      go_wp2_with (go_at_call 29; (with_reducible refine HC.out.mono ?_); rintro e _ ⟨rfl, y, rfl⟩)
      go_ret2
      exact ⟨rfl, y.gr⟩
    · subst h3
      have h4' : (term == 0) = false := by simpa using h4
      go_enter Try.func13, Try.ntmps13
      go_wp2_with fail
      go_ret2
      exact ⟨rfl, Gr.refl _⟩
  · have h3' : (idx == 0) = false := by simpa using h3
    by_cases h4 : term = 0
    · subst h4
      go_enter Try.func13, Try.ntmps13
      go_wp2_with fail
      go_ret2
      exact ⟨rfl, Gr.refl _⟩
    · have h4' : (term == 0) = false := by simpa using h4
      have hr := hid (show rs term L = false by
        cases hr : rs term L
        · rfl
        · exact absurd ⟨by omega, by omega, by omega, hr⟩ HN.out)
      have HC := hid ((risesR_any base term A c L w HS.out hl).mono (R' := RetE (.bool false) w) (fun _ _ h => by rwa [hr.out] at h))
      go_enter Try.func13, Try.ntmps13
      go_wp2_with (go_at_call 29; (with_reducible refine HC.out.mono ?_); rintro e _ ⟨rfl, y, rfl⟩)
      go_ret2
      exact ⟨rfl, y.gr⟩

def RetLR (base : Nat) (idx term : Int) (L : List Ent) (w : World) (e : Ending) (w' : World) : Prop :=
  ∃ g v, ∃ y : Ext w, e = .returned (.tuple #[.pointer (some ⟨g, 0, none⟩), .int .i64 0]) ∧ w' = y.val ∧ RefAt base y.val g idx term L v ∧ w.heap.size ≤ g

set_option maxHeartbeats 2000000 in
theorem newR_ok (base : Nat) (idx term : Int) (A : Option Addr) (c : Nat) (L : List Ent) (w : World) (hs : Sl base w A L) (hl : L.length ≤ 4398046511103) (h : NewOk idx term L) (hi : idx ≤ 1125899906842624) (hb : base ≤ w.heap.size) :
    Calls Try.prog 13 #[.int .i64 idx, .int .i64 term, .slice A L.length c] w (RetLR base idx term L w) := by
  obtain ⟨h1, h2, h3, h4⟩ := h
  have HS := hid hs
  clear hs
  have HC := hid ((risesR_any base term A c L w HS.out hl).mono (R' := RetE (.bool true) w) (fun _ _ h => by rwa [h4] at h))
  have H3 := hid h3
  clear h4 h3
  have fin : ∀ (y : Ext w) (y2 : Ext y.val) (A1 : Option Addr) (n1 : Nat), OwnR base y.val.heap.size y2.val (.slice A1 L.length n1) L →
      RetLR base idx term L w (.returned (.tuple #[.pointer (some ⟨y2.val.heap.size, 0, none⟩), .int .i64 0])) (y2.val.alloc (.cells #[.int .i64 idx, .int .i64 term, .slice A1 L.length n1] 60)) := by
    intro y y2 A1 n1 ho
    refine ⟨_, _, ⟨_, ((y.gr.trans y2.gr).alloc _)⟩, rfl, rfl, ⟨heap_alloc_new _ _, Nat.le_trans hb (y.gr.trans y2.gr).size, ?_, h1, hi, hl⟩, (y.gr.trans y2.gr).size⟩
    obtain ⟨ys, o1, o2⟩ := ho.gr ((Gr.refl _).alloc (.cells #[.int .i64 idx, .int .i64 term, .slice A1 L.length n1] 60))
    exact ⟨ys, own_base o1 (Nat.le_trans hb y.gr.size), o2⟩
  by_cases h5 : idx = 0
  · have h6 : term = 0 := H3.out.1 h5
    subst h5 h6
    go_enter Try.func13, Try.ntmps13
    go_wp2_with (first | (go_at_call 29; (with_reducible refine HC.out.mono ?_); rintro e _ ⟨rfl, y, rfl⟩) | (go_at_call 30; (with_reducible refine (copied_any base A c L _ (HS.out.gr (Ext.gr _)) hl (Nat.le_trans hb (Ext.gr _).size)).mono ?_); rintro e _ ⟨v, y2, rfl, rfl, ho⟩; obtain ⟨A1, n1, rfl, _, _⟩ := ho.shape))
    go_ret2
    exact fin _ _ _ _ ho
  · have h6 : term ≠ 0 := fun e => h5 (H3.out.2 e)
    have h5' : (idx == 0) = false := by simpa using h5
    have h6' : (term == 0) = false := by simpa using h6
    clear h5 h6
    go_enter Try.func13, Try.ntmps13
    go_wp2_with (first | (go_at_call 29; (with_reducible refine HC.out.mono ?_); rintro e _ ⟨rfl, y, rfl⟩) | (go_at_call 30; (with_reducible refine (copied_any base A c L _ (HS.out.gr (Ext.gr _)) hl (Nat.le_trans hb (Ext.gr _).size)).mono ?_); rintro e _ ⟨v, y2, rfl, rfl, ho⟩; obtain ⟨A1, n1, rfl, _, _⟩ := ho.shape))
    go_ret2
    exact fin _ _ _ _ ho

set_option maxHeartbeats 1000000 in
theorem fresh_any (base k : Nat) (term : Int) (A : Option Addr) (c : Nat) (L : List Ent) (w : World) (hs : Sl base w A L) (hk : k ≤ 4398046511103) :
    Calls Try.prog 19 #[.slice A L.length c, .int .i64 k, .int .i64 term] w (RetE (.bool (decide (L.length ≤ k) || (L.getD k (0, [])).1 != term)) w) := by
  refine retE ?_
  by_cases h : L.length ≤ k
  · have e : (decide (L.length ≤ k) || (L.getD k (0, [])).1 != term) = true := by rw [decide_eq_true h, Bool.true_or]
    rw [e]
    clear e hs
    go_enter Try.func19, Try.ntmps19
    go_wp2_with fail
    go_ret
    exact ⟨rfl, Gr.refl _⟩
  · have e : (decide (L.length ≤ k) || (L.getD k (0, [])).1 != term) = ((L.getD k (0, [])).1 != term) := by rw [decide_eq_false h, Bool.false_or]
    rw [e]
    clear e
    obtain ⟨b, off, D, c', rfl, c1, c2, c3, c4⟩ := hs.at_ (i := k) (by omega)
    generalize (L.getD k (0, [])).1 = ek at *
    clear c2 c3 hs
    go_enter Try.func19, Try.ntmps19
    go_wp2_with fail
    go_ret
    exact ⟨rfl, Gr.refl _⟩
end Go.Proofs.Ythiahnpijdkboaa
