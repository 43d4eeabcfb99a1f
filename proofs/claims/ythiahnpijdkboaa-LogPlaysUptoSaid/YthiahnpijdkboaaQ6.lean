import Derived.Test.YthiahnpijdkboaaQ4
import Derived.Test.YthiahnpijdkboaaQ5
import Derived.Deep.Cut
namespace Go.Proofs.Ythiahnpijdkboaa
open Go.RowKit Go.Ext Go.BigFrame
attribute [local go_sem] Ext.cell Ext.frozen Ext.lt Ext.le s1 s2 s3 s4 s5 s6 t1 t2 t3 t4 t5 t6
attribute [local go_sem ↓] Go.wp_at_zero Go.wp_at_succ

/-- Both logs, of one state, after at most n acts. -/
structure Upto (base : Nat) (w : World) (g r n : Nat) (idx term : Int) (L : List Ent) : Prop where
  o : O base w g idx term L
  r : R base w r idx term L
  pos : ∀ k, k < L.length → 1 ≤ (L.getD k (0, [])).1
  i0 : 0 ≤ idx
  s1 : idx + L.length ≤ 1099511627776 + 1048576 * ((n : Int) + 1)
  l1 : L.length ≤ 1048576 * (n + 1)
theorem Upto.gr {base g r n : Nat} {w w' : World} {idx term : Int} {L : List Ent} (h : Upto base w g r n idx term L) (y : Gr w w') : Upto base w' g r n idx term L := ⟨h.o.gr y, h.r.gr y, h.pos, h.i0, h.s1, h.l1⟩
def RetS (base g r n : Nat) (w : World) (e : Ending) (w' : World) : Prop := e = .returned (.bool true) ∧ (∃ idx term L, Upto base w' g r (n + 1) idx term L) ∧ MY ZU base w w'
theorem Upto.more {base g r n : Nat} {w : World} {idx term : Int} {L : List Ent} (h : Upto base w g r n idx term L) : Upto base w g r (n + 1) idx term L := ⟨h.o, h.r, h.pos, h.i0, by have := h.s1; omega, by have := h.l1; omega⟩
theorem wrap_rng (z : Int) : -9223372036854775808 ≤ IntKind.i64.wrap z ∧ IntKind.i64.wrap z ≤ 9223372036854775807 := by rw [IntKind.wrap_i64]; omega
theorem heap6 {W : World} {B t : Nat} {v0 v1 v2 v3 v4 v5 : Value} (h : W.heap[B]? = some (.cells #[v0, v1, v2, v3, v4, v5] t (0, 0))) : W.cell? ⟨B, 0, none⟩ = some v0 ∧ W.cell? ⟨B, 1, none⟩ = some v1 ∧ W.cell? ⟨B, 2, none⟩ = some v2 ∧ W.cell? ⟨B, 3, none⟩ = some v3 ∧ W.cell? ⟨B, 4, none⟩ = some v4 ∧ W.cell? ⟨B, 5, none⟩ = some v5 := by
  refine ⟨?_, ?_, ?_, ?_, ?_, ?_⟩ <;> simp [World.cell?, h]

theorem R.last {base g : Nat} {idx term : Int} {L : List Ent} (W : World) (h : R base W g idx term L) : Calls Try.prog 32 #[.pointer (some ⟨g, 0, none⟩)] W (RetE (.tuple #[.int .i64 (idx + L.length), .int .i64 (lastT term L)]) W) := by
  obtain ⟨v, h⟩ := h; exact lastR_any base g idx term L v W h
theorem R.term {base g : Nat} {idx term : Int} {L : List Ent} (W : World) (i : Int) (hm : i ≤ 9223372036854775807) (h : R base W g idx term L) : Calls Try.prog 15 #[.pointer (some ⟨g, 0, none⟩), .int .i64 i] W (RetE (.tuple #[.int .i64 (tmT idx term L i), .bool (tmB idx L.length i)]) W) := by
  obtain ⟨v, h⟩ := h; exact termR_any base g idx term i L v W h hm

set_option maxRecDepth 100000 in
set_option maxHeartbeats 8000000 in
theorem stepE (base g r n : Nat) (idx term op ix tm : Int) (own know : Bool) (L l : List Ent) (A : Option Addr) (c : Nat) (w : World) (h : Upto base w g r n idx term L) (_hn : n ≤ 150) (hbase : base ≤ w.heap.size) (hi : In base w A c l) (hix : -9223372036854775808 ≤ ix ∧ ix ≤ 9223372036854775807) (hop : ¬ op = 1 ∧ ¬ op = 2 ∧ ¬ op = 3 ∧ ¬ op = 4) :
    Calls Try.prog 25 #[.pointer (some ⟨g, 0, none⟩), .pointer (some ⟨r, 0, none⟩), .agg #[.int .i64 op, .int .i64 ix, .bool own, .int .i64 tm, .bool know, .slice A l.length c]] w (RetS base g r n w) := by
  obtain ⟨hix0, hix1⟩ := hix
  have H := hid h
  have HI := hid hi
  have b0 := h.i0
  have b1 := h.s1
  have b2 := h.l1
  clear h hi
  have HB := hid (heap_alloc_new w (.cells #[.int .i64 op, .int .i64 ix, .bool own, .int .i64 tm, .bool know, .slice A l.length c] 57))
  have G1 := hid ((Gr.refl w).alloc (.cells #[.int .i64 op, .int .i64 ix, .bool own, .int .i64 tm, .bool know, .slice A l.length c] 57))
  have C32 := hid (fun W (y : Gr w W) => R.last W (H.out.r.gr y))
  have C15 := hid (fun W (y : Gr w W) i (hm : i ≤ 9223372036854775807) => R.term W i hm (H.out.r.gr y))
  go_enter Try.func25, Try.ntmps25
  go_upto_if 28 with (go_at_call 32; (with_reducible refine (C32.out _ G1.out).mono ?_); rintro e _ ⟨rfl, y1, rfl⟩)
  have G2 := hid (G1.out.trans y1.gr)
  have HB2 := hid ((y1.gr.block w.heap.size (Array.getElem?_eq_some_iff.1 HB.out).1).trans HB.out)
  generalize y1.val = W2 at *
  obtain ⟨c0, c1, c2, c3, c4, c5⟩ := heap6 HB2.out
  have hw2 : w.heap.size < W2.heap.size := (Array.getElem?_eq_some_iff.1 HB2.out).1
  go_cut [9] from 13 (fun i wx => ∃ I : Int, i = .int .i64 I ∧ -9223372036854775808 ≤ I ∧ I ≤ 9223372036854775807 ∧ W2 = wx)
  case first =>
    cases own
    · go_wp2_with fail
      go_meet
      exact ⟨_, rfl, hix0, hix1, rfl⟩
    · go_wp2_with fail
      go_meet
      exact ⟨_, rfl, (by rw [← IntWalk.i64_left]; exact (wrap_rng _).1), (by rw [← IntWalk.i64_left]; exact (wrap_rng _).2), rfl⟩
  case rest =>
    obtain ⟨I, rfl, hI0, hI1, rfl⟩ := hcut
    go_upto_region 7 with (go_at_call 15; (with_reducible refine (C15.out _ G2.out I hI1).mono ?_); rintro e _ ⟨rfl, y2, rfl⟩)
    have G3 := hid (G2.out.trans y2.gr)
    have HB3 := hid ((y2.gr.block w.heap.size hw2).trans HB2.out)
    generalize y2.val = W3 at *
    clear c0 c1 c2 c3 c4 c5
    obtain ⟨c0, c1, c2, c3, c4, c5⟩ := heap6 HB3.out
    have hw3 : w.heap.size < W3.heap.size := (Array.getElem?_eq_some_iff.1 HB3.out).1
    go_cut [45] from 13 (fun s wx => ∃ B : Bool, s = .bool B ∧ W3 = wx)
    case first =>
      cases know
      · go_wp2_with fail
        go_meet
        exact ⟨_, rfl, rfl⟩
      · go_wp2_with fail
        go_meet
        exact ⟨_, rfl, rfl⟩
    case rest =>
      obtain ⟨B, rfl, rfl⟩ := hcut
      go_upto_if 45 with fail
      go_cut [10] from 13 (fun t wx => ∃ T : Int, t = .int .i64 T ∧ W3 = wx)
      case first =>
        cases B
        · go_wp2_with fail
          go_meet
          exact ⟨_, rfl, rfl⟩
        · go_wp2_with fail
          go_meet
          exact ⟨_, rfl, rfl⟩
      case rest =>
        obtain ⟨T, rfl, rfl⟩ := hcut
        have hI2 := hid (And.intro hI0 hI1)
        have o1 : (op == 1) = false := by rw [beq_eq_false_iff_ne]; exact hop.1
        have o2 : (op == 2) = false := by rw [beq_eq_false_iff_ne]; exact hop.2.1
        have o3 : (op == 3) = false := by rw [beq_eq_false_iff_ne]; exact hop.2.2.1
        have o4 : (op == 4) = false := by rw [beq_eq_false_iff_ne]; exact hop.2.2.2
        clear hop
        have HU := hid (show Upto base W3 g r (n + 1) (idx) (term) (L) from (H.out.gr G3.out).more)
        have HM := hid (show MY ZU base w W3 from MY.of_gr G3.out)
        by_cases hbig : I ≤ 1099511627776
        · have HLK := hid (looks_any base g r (idx) (term) I T (L) W3 HU.out.o HU.out.r HU.out.pos hbig hI0 (Nat.le_trans hbase HM.out.size))
          go_wp2_with (go_at_call 39; refine HLK.out.mono ?_; rintro e _ ⟨rfl, y9, rfl⟩)
          go_ret
          exact ⟨rfl, ⟨_, _, _, HU.out.gr y9.gr⟩, HM.out.trans (MY.of_gr y9.gr)⟩
        · have hbig2 : decide (1099511627776 < I) = true := decide_eq_true (by omega)
          go_wp2_with fail
          go_ret
          exact ⟨rfl, ⟨_, _, _, HU.out⟩, HM.out⟩
end Go.Proofs.Ythiahnpijdkboaa
