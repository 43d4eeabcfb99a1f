import Derived.Test.YthiahnpijdkboaaQ6
import Derived.Deep.Cut
import Derived.Deep.CutRange
namespace Go.Proofs.Ythiahnpijdkboaa
open Go.RowKit Go.Ext Go.BigFrame
attribute [local go_sem] Ext.cell Ext.frozen Ext.lt Ext.le s1 s2 s3 s4 s5 s6 t1 t2 t3 t4 t5 t6
attribute [local go_sem ↓] Go.wp_at_zero Go.wp_at_succ


theorem Upto.compact {base g r n : Nat} {w w' : World} {idx term i : Int} {L : List Ent} (h : Upto base w g r n idx term L) (ho : O base w' g (cI idx L i) (cT idx term L i) (cL idx L i)) (hr : R base w' r (cI idx L i) (cT idx term L i) (cL idx L i)) : Upto base w' g r (n + 1) (cI idx L i) (cT idx term L i) (cL idx L i) := by
  have h1 := h.i0
  have h2 := h.s1
  have h3 := h.l1
  refine ⟨ho, hr, ?_, ?_, ?_, ?_⟩
  · unfold cL
    split
    · intro k hk
      rw [getD_drop]
      exact h.pos _ (by rw [List.length_drop] at hk; omega)
    · exact h.pos
  · unfold cI
    split
    · rename_i e; have := okI_yes e; omega
    · exact h1
  · unfold cI cL
    split
    · rename_i e
      have := okI_yes e
      rw [List.length_drop]
      omega
    · omega
  · unfold cL
    split
    · rw [List.length_drop]; omega
    · omega
theorem Upto.restore {base g r n : Nat} {w w' : World} {idx term i t : Int} {L : List Ent} (h : Upto base w g r n idx term L) (hi : idx < i) (hm : i < 1099511627776) (ho : O base w' g i t (restL idx term i t L)) (hr : R base w' r i t (restL idx term i t L)) : Upto base w' g r (n + 1) i t (restL idx term i t L) := by
  have h1 := h.i0
  have h2 := h.s1
  have h3 := h.l1
  refine ⟨ho, hr, ?_, by omega, ?_, ?_⟩
  · unfold restL
    split
    · intro k hk
      rw [getD_drop]
      exact h.pos _ (by rw [List.length_drop] at hk; omega)
    · intro k hk; simp at hk
  · unfold restL
    split
    · rename_i e
      have := tm_lo (mt_tm e)
      rw [List.length_drop]
      omega
    · simp only [List.length_nil]; omega
  · unfold restL
    split
    · rw [List.length_drop]; omega
    · simp

set_option maxRecDepth 100000 in
set_option maxHeartbeats 8000000 in
theorem step3 (base g r n : Nat) (idx term ix tm : Int) (own know : Bool) (L l : List Ent) (A : Option Addr) (c : Nat) (w : World) (h : Upto base w g r n idx term L) (_hn : n ≤ 150) (hbase : base ≤ w.heap.size) (hi : In base w A c l) (hix : -9223372036854775808 ≤ ix ∧ ix ≤ 9223372036854775807) :
    Calls Try.prog 25 #[.pointer (some ⟨g, 0, none⟩), .pointer (some ⟨r, 0, none⟩), .agg #[.int .i64 3, .int .i64 ix, .bool own, .int .i64 tm, .bool know, .slice A l.length c]] w (RetS base g r n w) := by
  obtain ⟨hix0, hix1⟩ := hix
  have H := hid h
  have HI := hid hi
  have b0 := h.i0
  have b1 := h.s1
  have b2 := h.l1
  clear h hi
  have HB := hid (heap_alloc_new w (.cells #[.int .i64 3, .int .i64 ix, .bool own, .int .i64 tm, .bool know, .slice A l.length c] 57))
  have G1 := hid ((Gr.refl w).alloc (.cells #[.int .i64 3, .int .i64 ix, .bool own, .int .i64 tm, .bool know, .slice A l.length c] 57))
  have C32 := hid (fun W (y : Gr w W) => R.last W (H.out.r.gr y))
  have C15 := hid (fun W (y : Gr w W) i (hm : i ≤ 9223372036854775807) => R.term W i hm (H.out.r.gr y))
  go_enter Try.func25, Try.ntmps25
  go_upto_if 28 with (go_at_call 32; (with_reducible refine (C32.out _ G1.out).mono ?_); rintro e _ ⟨rfl, y1, rfl⟩)
  have G2 := hid (G1.out.trans y1.gr)
  have HB2 := hid ((y1.gr.block w.heap.size (Array.getElem?_eq_some_iff.1 HB.out).1).trans HB.out)
  generalize y1.val = W2 at *
  obtain ⟨c0, c1, c2, c3, c4, c5⟩ := heap6 HB2.out
  have hw2 : w.heap.size < W2.heap.size := (Array.getElem?_eq_some_iff.1 HB2.out).1
  go_cut [9] from 13 (fun i wx => ∃ I : Int, i = .int .i64 I ∧ -9223372036854775808 ≤ I ∧ I ≤ 9223372036854775807 ∧ W2 = wx)
  case first =>
    cases own
    · go_wp2_with fail
      go_meet
      exact ⟨_, rfl, hix0, hix1, rfl⟩
    · go_wp2_with fail
      go_meet
      exact ⟨_, rfl, (by rw [← IntWalk.i64_left]; exact (wrap_rng _).1), (by rw [← IntWalk.i64_left]; exact (wrap_rng _).2), rfl⟩
  case rest =>
    obtain ⟨I, rfl, hI0, hI1, rfl⟩ := hcut
    go_upto_region 7 with (go_at_call 15; (with_reducible refine (C15.out _ G2.out I hI1).mono ?_); rintro e _ ⟨rfl, y2, rfl⟩)
    have G3 := hid (G2.out.trans y2.gr)
    have HB3 := hid ((y2.gr.block w.heap.size hw2).trans HB2.out)
    generalize y2.val = W3 at *
    clear c0 c1 c2 c3 c4 c5
    obtain ⟨c0, c1, c2, c3, c4, c5⟩ := heap6 HB3.out
    have hw3 : w.heap.size < W3.heap.size := (Array.getElem?_eq_some_iff.1 HB3.out).1
    go_cut [45] from 13 (fun s wx => ∃ B : Bool, s = .bool B ∧ W3 = wx)
    case first =>
      cases know
      · go_wp2_with fail
        go_meet
        exact ⟨_, rfl, rfl⟩
      · go_wp2_with fail
        go_meet
        exact ⟨_, rfl, rfl⟩
    case rest =>
      obtain ⟨B, rfl, rfl⟩ := hcut
      go_upto_if 45 with fail
      go_cut [10] from 13 (fun t wx => ∃ T : Int, t = .int .i64 T ∧ W3 = wx)
      case first =>
        cases B
        · go_wp2_with fail
          go_meet
          exact ⟨_, rfl, rfl⟩
        · go_wp2_with fail
          go_meet
          exact ⟨_, rfl, rfl⟩
      case rest =>
        obtain ⟨T, rfl, rfl⟩ := hcut
        have hI2 := hid (And.intro hI0 hI1)
        have hb3 : base ≤ W3.heap.size := Nat.le_trans hbase G3.out.size
        obtain ⟨z, hz⟩ : ∃ z : Int, (if okI idx L I then (0 : Int) else 1) = z := ⟨_, rfl⟩
        have CO := hid (compactO_any base g idx term I L W3 (H.out.o.gr G3.out) (by omega) hb3)
        have CT := hid (fun W hr hb => compactT_any base r idx term I L W hr (by omega) hb)
        rw [hz] at CO
        simp only [hz] at CT
        clear hz
        go_upto_region 30 with (first
          | (go_at_call 23; refine CO.out.mono ?_; rintro e w4 ⟨rfl, ho4, hm4⟩; have HO4 := hid ho4; have HM4 := hid hm4; have HR4 := hid ((H.out.r.gr G3.out).ours hm4); clear ho4 hm4)
          | (go_at_call 36; refine (CT.out w4 HR4.out (Nat.le_trans hb3 HM4.out.size)).mono ?_; rintro e w5 ⟨rfl, hr5, hm5⟩; have HR5 := hid hr5; have HM5 := hid hm5; clear hr5 hm5))
        have HU := hid (show Upto base w5 g r (n + 1) (cI idx L I) (cT idx term L I) (cL idx L I) from H.out.compact (HO4.out.theirs HM5.out) HR5.out)
        have HM := hid (show MY ZU base w w5 from (MY.of_gr G3.out).trans (HM4.out.o.trans HM5.out.t))
        by_cases hbig : I ≤ 1099511627776
        · have HLK := hid (looks_any base g r (cI idx L I) (cT idx term L I) I T (cL idx L I) w5 HU.out.o HU.out.r HU.out.pos hbig hI0 (Nat.le_trans hbase HM.out.size))
          go_wp2_with (go_at_call 39; refine HLK.out.mono ?_; rintro e _ ⟨rfl, y9, rfl⟩)
          go_ret
          exact ⟨rfl, ⟨_, _, _, HU.out.gr y9.gr⟩, HM.out.trans (MY.of_gr y9.gr)⟩
        · have hbig2 : decide (1099511627776 < I) = true := decide_eq_true (by omega)
          go_wp2_with fail
          go_ret
          exact ⟨rfl, ⟨_, _, _, HU.out⟩, HM.out⟩

set_option maxRecDepth 100000 in
set_option maxHeartbeats 8000000 in
theorem step4 (base g r n : Nat) (idx term ix tm : Int) (own know : Bool) (L l : List Ent) (A : Option Addr) (c : Nat) (w : World) (h : Upto base w g r n idx term L) (_hn : n ≤ 150) (hbase : base ≤ w.heap.size) (hi : In base w A c l) (hix : -9223372036854775808 ≤ ix ∧ ix ≤ 9223372036854775807) :
    Calls Try.prog 25 #[.pointer (some ⟨g, 0, none⟩), .pointer (some ⟨r, 0, none⟩), .agg #[.int .i64 4, .int .i64 ix, .bool own, .int .i64 tm, .bool know, .slice A l.length c]] w (RetS base g r n w) := by
  obtain ⟨hix0, hix1⟩ := hix
  have H := hid h
  have HI := hid hi
  have b0 := h.i0
  have b1 := h.s1
  have b2 := h.l1
  clear h hi
  have HB := hid (heap_alloc_new w (.cells #[.int .i64 4, .int .i64 ix, .bool own, .int .i64 tm, .bool know, .slice A l.length c] 57))
  have G1 := hid ((Gr.refl w).alloc (.cells #[.int .i64 4, .int .i64 ix, .bool own, .int .i64 tm, .bool know, .slice A l.length c] 57))
  have C32 := hid (fun W (y : Gr w W) => R.last W (H.out.r.gr y))
  have C15 := hid (fun W (y : Gr w W) i (hm : i ≤ 9223372036854775807) => R.term W i hm (H.out.r.gr y))
  go_enter Try.func25, Try.ntmps25
  go_upto_if 28 with (go_at_call 32; (with_reducible refine (C32.out _ G1.out).mono ?_); rintro e _ ⟨rfl, y1, rfl⟩)
  have G2 := hid (G1.out.trans y1.gr)
  have HB2 := hid ((y1.gr.block w.heap.size (Array.getElem?_eq_some_iff.1 HB.out).1).trans HB.out)
  generalize y1.val = W2 at *
  obtain ⟨c0, c1, c2, c3, c4, c5⟩ := heap6 HB2.out
  have hw2 : w.heap.size < W2.heap.size := (Array.getElem?_eq_some_iff.1 HB2.out).1
  go_cut [9] from 13 (fun i wx => ∃ I : Int, i = .int .i64 I ∧ -9223372036854775808 ≤ I ∧ I ≤ 9223372036854775807 ∧ W2 = wx)
  case first =>
    cases own
    · go_wp2_with fail
      go_meet
      exact ⟨_, rfl, hix0, hix1, rfl⟩
    · go_wp2_with fail
      go_meet
      exact ⟨_, rfl, (by rw [← IntWalk.i64_left]; exact (wrap_rng _).1), (by rw [← IntWalk.i64_left]; exact (wrap_rng _).2), rfl⟩
  case rest =>
    obtain ⟨I, rfl, hI0, hI1, rfl⟩ := hcut
    go_upto_region 7 with (go_at_call 15; (with_reducible refine (C15.out _ G2.out I hI1).mono ?_); rintro e _ ⟨rfl, y2, rfl⟩)
    have G3 := hid (G2.out.trans y2.gr)
    have HB3 := hid ((y2.gr.block w.heap.size hw2).trans HB2.out)
    generalize y2.val = W3 at *
    clear c0 c1 c2 c3 c4 c5
    obtain ⟨c0, c1, c2, c3, c4, c5⟩ := heap6 HB3.out
    have hw3 : w.heap.size < W3.heap.size := (Array.getElem?_eq_some_iff.1 HB3.out).1
    go_cut [45] from 13 (fun s wx => ∃ B : Bool, s = .bool B ∧ W3 = wx)
    case first =>
      cases know
      · go_wp2_with fail
        go_meet
        exact ⟨_, rfl, rfl⟩
      · go_wp2_with fail
        go_meet
        exact ⟨_, rfl, rfl⟩
    case rest =>
      obtain ⟨B, rfl, rfl⟩ := hcut
      go_upto_if 45 with fail
      go_cut [10] from 13 (fun t wx => ∃ T : Int, t = .int .i64 T ∧ W3 = wx)
      case first =>
        cases B
        · go_wp2_with fail
          go_meet
          exact ⟨_, rfl, rfl⟩
        · go_wp2_with fail
          go_meet
          exact ⟨_, rfl, rfl⟩
      case rest =>
        obtain ⟨T, rfl, rfl⟩ := hcut
        have hI2 := hid (And.intro hI0 hI1)
        have hb3 : base ≤ W3.heap.size := Nat.le_trans hbase G3.out.size
        obtain ⟨vr, hvr⟩ := H.out.r.gr G3.out
        have r0 : W3.cell? ⟨r, 0, none⟩ = some (.int .i64 idx) := by have := hvr.cell 0; simpa using this
        have r1 : W3.cell? ⟨r, 1, none⟩ = some (.int .i64 term) := by have := hvr.cell 1; simpa using this
        have hrl := hvr.lt
        clear hvr
        go_upto_region 27 with fail
        go_cut [172] from 13 (fun s wx => s = .bool (decide (idx < I ∧ 1 ≤ T ∧ term ≤ T ∧ I < 1099511627776)) ∧ W3 = wx)
        case first =>
          by_cases e1 : idx < I
          · by_cases e2 : 1 ≤ T
            · by_cases e3 : term ≤ T
              · by_cases e4 : I < 1099511627776
                · go_wp2_with fail
                  go_meet
                  exact ⟨congrArg Value.bool (decide_eq_true (p := idx < I ∧ 1 ≤ T ∧ term ≤ T ∧ I < 1099511627776) ⟨e1, e2, e3, e4⟩).symm, rfl⟩
                · go_wp2_with fail
                  go_meet
                  exact ⟨congrArg Value.bool (decide_eq_false (p := idx < I ∧ 1 ≤ T ∧ term ≤ T ∧ I < 1099511627776) (by omega)).symm, rfl⟩
              · go_wp2_with fail
                go_meet
                exact ⟨congrArg Value.bool (decide_eq_false (p := idx < I ∧ 1 ≤ T ∧ term ≤ T ∧ I < 1099511627776) (by omega)).symm, rfl⟩
            · go_wp2_with fail
              go_meet
              exact ⟨congrArg Value.bool (decide_eq_false (p := idx < I ∧ 1 ≤ T ∧ term ≤ T ∧ I < 1099511627776) (by omega)).symm, rfl⟩
          · go_wp2_with fail
            go_meet
            exact ⟨congrArg Value.bool (decide_eq_false (p := idx < I ∧ 1 ≤ T ∧ term ≤ T ∧ I < 1099511627776) (by omega)).symm, rfl⟩
        case rest =>
          obtain ⟨rfl, rfl⟩ := hcut
          by_cases hb : idx < I ∧ 1 ≤ T ∧ term ≤ T ∧ I < 1099511627776
          · obtain ⟨e1, e2, e3, e4⟩ := id hb
            rw [decide_eq_true hb]
            have CO := hid (restore_any base g idx term I T L W3 (H.out.o.gr G3.out) e1 (by omega) hb3)
            have CT := hid (fun W hr hb => restoreT_any base r idx term I T L W hr e1 (by omega) hb)
            clear hb
            go_upto_region 30 with (first
              | (go_at_call 37; refine CO.out.mono ?_; rintro e w4 ⟨rfl, ho4, hm4⟩; have HO4 := hid ho4; have HM4 := hid hm4; have HR4 := hid ((H.out.r.gr G3.out).ours hm4); clear ho4 hm4)
              | (go_at_call 38; refine (CT.out w4 HR4.out (Nat.le_trans hb3 HM4.out.size)).mono ?_; rintro e w5 ⟨rfl, hr5, hm5⟩; have HR5 := hid hr5; have HM5 := hid hm5; clear hr5 hm5))
            have HU := hid (show Upto base w5 g r (n + 1) (I) (T) (restL idx term I T L) from H.out.restore e1 e4 (HO4.out.theirs HM5.out) HR5.out)
            have HM := hid (show MY ZU base w w5 from (MY.of_gr G3.out).trans (HM4.out.o.trans HM5.out.t))
            by_cases hbig : I ≤ 1099511627776
            · have HLK := hid (looks_any base g r (I) (T) I T (restL idx term I T L) w5 HU.out.o HU.out.r HU.out.pos hbig hI0 (Nat.le_trans hbase HM.out.size))
              go_wp2_with (go_at_call 39; refine HLK.out.mono ?_; rintro e _ ⟨rfl, y9, rfl⟩)
              go_ret
              exact ⟨rfl, ⟨_, _, _, HU.out.gr y9.gr⟩, HM.out.trans (MY.of_gr y9.gr)⟩
            · have hbig2 : decide (1099511627776 < I) = true := decide_eq_true (by omega)
              go_wp2_with fail
              go_ret
              exact ⟨rfl, ⟨_, _, _, HU.out⟩, HM.out⟩
          · rw [decide_eq_false hb]
            clear hb
            have HU := hid (show Upto base W3 g r (n + 1) (idx) (term) (L) from (H.out.gr G3.out).more)
            have HM := hid (show MY ZU base w W3 from MY.of_gr G3.out)
            by_cases hbig : I ≤ 1099511627776
            · have HLK := hid (looks_any base g r (idx) (term) I T (L) W3 HU.out.o HU.out.r HU.out.pos hbig hI0 (Nat.le_trans hbase HM.out.size))
              go_wp2_with (go_at_call 39; refine HLK.out.mono ?_; rintro e _ ⟨rfl, y9, rfl⟩)
              go_ret
              exact ⟨rfl, ⟨_, _, _, HU.out.gr y9.gr⟩, HM.out.trans (MY.of_gr y9.gr)⟩
            · have hbig2 : decide (1099511627776 < I) = true := decide_eq_true (by omega)
              go_wp2_with fail
              go_ret
              exact ⟨rfl, ⟨_, _, _, HU.out⟩, HM.out⟩
end Go.Proofs.Ythiahnpijdkboaa
