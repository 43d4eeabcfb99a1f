import Derived.Test.YthiahnpijdkboaaQ6
import Derived.Test.YthiahnpijdkboaaQ9
import Derived.Deep.Cut
import Derived.Deep.CutRange
namespace Go.Proofs.Ythiahnpijdkboaa
open Go.RowKit Go.Ext Go.BigFrame
attribute [local go_sem] Ext.cell Ext.frozen Ext.lt Ext.le s1 s2 s3 s4 s5 s6 t1 t2 t3 t4 t5 t6
attribute [local go_sem ↓] Go.wp_at_zero Go.wp_at_succ


theorem Upto.merge {base g r n : Nat} {w w' : World} {idx term : Int} {L L' : List Ent} (h : Upto base w g r n idx term L) (hp : ∀ k, k < L'.length → 1 ≤ (L'.getD k (0, [])).1) (hl : L'.length ≤ L.length + 1048576) (ho : O base w' g idx term L') (hr : R base w' r idx term L') : Upto base w' g r (n + 1) idx term L' := by
  have h1 := h.i0
  have h2 := h.s1
  have h3 := h.l1
  exact ⟨ho, hr, hp, h1, by omega, by omega⟩

set_option maxRecDepth 100000 in
set_option maxHeartbeats 8000000 in
theorem step2 (base g r n : Nat) (idx term ix tm : Int) (own know : Bool) (L l : List Ent) (A : Option Addr) (c : Nat) (w : World) (h : Upto base w g r n idx term L) (_hn : n ≤ 150) (hbase : base ≤ w.heap.size) (hi : In base w A c l) (hix : -9223372036854775808 ≤ ix ∧ ix ≤ 9223372036854775807) :
    Calls Try.prog 25 #[.pointer (some ⟨g, 0, none⟩), .pointer (some ⟨r, 0, none⟩), .agg #[.int .i64 2, .int .i64 ix, .bool own, .int .i64 tm, .bool know, .slice A l.length c]] w (RetS base g r n w) := by
  obtain ⟨hix0, hix1⟩ := hix
  have H := hid h
  have HI := hid hi
  have b0 := h.i0
  have b1 := h.s1
  have b2 := h.l1
  clear h hi
  have HB := hid (heap_alloc_new w (.cells #[.int .i64 2, .int .i64 ix, .bool own, .int .i64 tm, .bool know, .slice A l.length c] 57))
  have G1 := hid ((Gr.refl w).alloc (.cells #[.int .i64 2, .int .i64 ix, .bool own, .int .i64 tm, .bool know, .slice A l.length c] 57))
  have C32 := hid (fun W (y : Gr w W) => R.last W (H.out.r.gr y))
  have C15 := hid (fun W (y : Gr w W) i (hm : i ≤ 9223372036854775807) => R.term W i hm (H.out.r.gr y))
  go_enter Try.func25, Try.ntmps25
  go_upto_if 28 with (go_at_call 32; (with_reducible refine (C32.out _ G1.out).mono ?_); rintro e _ ⟨rfl, y1, rfl⟩)
  have G2 := hid (G1.out.trans y1.gr)
  have HB2 := hid ((y1.gr.block w.heap.size (Array.getElem?_eq_some_iff.1 HB.out).1).trans HB.out)
  generalize y1.val = W2 at *
  obtain ⟨c0, c1, c2, c3, c4, c5⟩ := heap6 HB2.out
  have hw2 : w.heap.size < W2.heap.size := (Array.getElem?_eq_some_iff.1 HB2.out).1
  go_cut [9] from 13 (fun i wx => ∃ I : Int, i = .int .i64 I ∧ -9223372036854775808 ≤ I ∧ I ≤ 9223372036854775807 ∧ W2 = wx)
  case first =>
    cases own
    · go_wp2_with fail
      go_meet
      exact ⟨_, rfl, hix0, hix1, rfl⟩
    · go_wp2_with fail
      go_meet
      exact ⟨_, rfl, (by rw [← IntWalk.i64_left]; exact (wrap_rng _).1), (by rw [← IntWalk.i64_left]; exact (wrap_rng _).2), rfl⟩
  case rest =>
    obtain ⟨I, rfl, hI0, hI1, rfl⟩ := hcut
    go_upto_region 7 with (go_at_call 15; (with_reducible refine (C15.out _ G2.out I hI1).mono ?_); rintro e _ ⟨rfl, y2, rfl⟩)
    have G3 := hid (G2.out.trans y2.gr)
    have HB3 := hid ((y2.gr.block w.heap.size hw2).trans HB2.out)
    generalize y2.val = W3 at *
    clear c0 c1 c2 c3 c4 c5
    obtain ⟨c0, c1, c2, c3, c4, c5⟩ := heap6 HB3.out
    have hw3 : w.heap.size < W3.heap.size := (Array.getElem?_eq_some_iff.1 HB3.out).1
    go_cut [45] from 13 (fun s wx => ∃ B : Bool, s = .bool B ∧ W3 = wx)
    case first =>
      cases know
      · go_wp2_with fail
        go_meet
        exact ⟨_, rfl, rfl⟩
      · go_wp2_with fail
        go_meet
        exact ⟨_, rfl, rfl⟩
    case rest =>
      obtain ⟨B, rfl, rfl⟩ := hcut
      go_upto_if 45 with fail
      go_cut [10] from 13 (fun t wx => ∃ T : Int, t = .int .i64 T ∧ W3 = wx)
      case first =>
        cases B
        · go_wp2_with fail
          go_meet
          exact ⟨_, rfl, rfl⟩
        · go_wp2_with fail
          go_meet
          exact ⟨_, rfl, rfl⟩
      case rest =>
        obtain ⟨T, rfl, rfl⟩ := hcut
        have hI2 := hid (And.intro hI0 hI1)
        have hb3 : base ≤ W3.heap.size := Nat.le_trans hbase G3.out.size
        have hll : l.length ≤ 1048576 := HI.out.2.2.2.2
        have hI3 := hid (HI.out.gr G3.out)
        have hLl : L.length + l.length ≤ 4398046511103 := by omega
        obtain ⟨p, code, rest, L', C17, C35, hre, hL', hps⟩ := merge_two idx term I L l hI1 hll hLl
        have D17 := hid (C17 base g W3 A c (H.out.o.gr G3.out) hI3.out hb3)
        have D35 := hid C35
        have HPS := hid (hps H.out.pos)
        have hL2 : L'.length ≤ L.length + 1048576 := by omega
        have hre2 : rest.length ≤ 4398046511103 := by omega
        clear C17 C35 hps HI C32 C15
        clear c1 c2 c3 c4
        go_upto_region 30 with (first
          | (go_at_call 17
             refine D17.out.mono ?_
             rintro e w4 ⟨A2, c2, rfl, hs2, ht2, ho4, hm4⟩
             have HS2 := hid hs2
             have HT2 := hid ht2
             have HO4 := hid ho4
             have HM4 := hid hm4
             have HR4 := hid ((H.out.r.gr G3.out).ours hm4)
             have HI4 := hid (hI3.out.my hm4 rfl)
             have HB4 := hid (hm4.keep HB3.out rfl)
             have d54 := (heap6 HB4.out).2.2.2.2.2
             have hw4 : w.heap.size < w4.heap.size := (Array.getElem?_eq_some_iff.1 HB4.out).1
             have hb4 : base ≤ w4.heap.size := Nat.le_trans hb3 hm4.size
             clear hs2 ht2 ho4 hm4)
          | (go_at_call 14
             refine (of_any base A c l w4 HI4.out.1 (by omega) hb4).mono ?_
             rintro e _ ⟨v5, y5, rfl, rfl, ho5⟩
             have G5 := hid y5.gr
             obtain ⟨A5, c5, rfl, hs5, hc5, _, hb5⟩ := ownR_sl ho5
             have HA5 := hid (show ∀ b off, A5 = some ⟨b, off, none⟩ → b ≠ r from fun b off e => by
               have := hb5 b off e
               obtain ⟨vr, hvr⟩ := HR4.out
               have := hvr.lt
               omega)
             have D35b := hid (D35.out base r y5.val A5 c5 (HR4.out.gr y5.gr) hs5 hc5 HA5.out (Nat.le_trans hb4 y5.gr.size))
             clear ho5 hs5 hb5)
          | (go_at_call 35
             refine D35b.out.mono ?_
             rintro e w6 ⟨A6, c6, rfl, hs6, _, hr6, hm6⟩
             have HR6 := hid hr6
             have HM6 := hid hm6
             have HS26 := hid ((HS2.out.gr G5.out).myT (T := 46) hm6 rfl rfl (fun b off e => by obtain ⟨cs, fz, hh⟩ := HT2.out b off e; exact ⟨cs, fz, (G5.out.block b (Array.getElem?_eq_some_iff.1 hh).1).trans hh⟩))
             have DSM := hid (same_any base A2 A6 c2 c6 rest w6 HS26.out hs6 hre2)
             clear hs6 hr6 hm6)
          | (go_at_call 26; refine DSM.out.mono ?_; rintro e _ ⟨rfl, y7, rfl⟩))
        have G7 := hid y7.gr
        generalize y7.val = w7 at *
        have HU := hid (show Upto base w7 g r (n + 1) (idx) (term) (L') from H.out.merge HPS.out hL2 (((HO4.out.gr G5.out).theirs HM6.out).gr G7.out) (HR6.out.gr G7.out))
        have HM := hid (show MY ZU base w w7 from (((MY.of_gr G3.out).trans HM4.out.o).trans (MY.of_gr G5.out)).trans (HM6.out.t.trans (MY.of_gr G7.out)))
        by_cases hbig : I ≤ 1099511627776
        · have HLK := hid (looks_any base g r (idx) (term) I T (L') w7 HU.out.o HU.out.r HU.out.pos hbig hI0 (Nat.le_trans hbase HM.out.size))
          go_wp2_with (go_at_call 39; refine HLK.out.mono ?_; rintro e _ ⟨rfl, y9, rfl⟩)
          go_ret
          exact ⟨rfl, ⟨_, _, _, HU.out.gr y9.gr⟩, HM.out.trans (MY.of_gr y9.gr)⟩
        · have hbig2 : decide (1099511627776 < I) = true := decide_eq_true (by omega)
          go_wp2_with fail
          go_ret
          exact ⟨rfl, ⟨_, _, _, HU.out⟩, HM.out⟩
end Go.Proofs.Ythiahnpijdkboaa
