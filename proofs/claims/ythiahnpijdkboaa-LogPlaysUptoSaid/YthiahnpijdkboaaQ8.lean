import Derived.Test.YthiahnpijdkboaaQ6
import Derived.Deep.Cut
import Derived.Deep.CutRange
namespace Go.Proofs.Ythiahnpijdkboaa
open Go.RowKit Go.Ext Go.BigFrame
attribute [local go_sem] Ext.cell Ext.frozen Ext.lt Ext.le s1 s2 s3 s4 s5 s6 t1 t2 t3 t4 t5 t6
attribute [local go_sem ↓] Go.wp_at_zero Go.wp_at_succ


theorem Upto.add {base g r n : Nat} {w w' : World} {idx term : Int} {L l : List Ent} (h : Upto base w g r n idx term L) (hp : ∀ k, k < l.length → 1 ≤ (l.getD k (0, [])).1) (hl : l.length ≤ 1048576) (ho : O base w' g idx term (L ++ l)) (hr : R base w' r idx term (L ++ l)) : Upto base w' g r (n + 1) idx term (L ++ l) := by
  have h1 := h.i0
  have h2 := h.s1
  have h3 := h.l1
  refine ⟨ho, hr, fun k hk => ?_, h1, by rw [List.length_append]; omega, by rw [List.length_append]; omega⟩
  by_cases e : k < L.length
  · rw [getD_app1 e]; exact h.pos k e
  · rw [getD_app2 (by omega)]
    exact hp _ (by rw [List.length_append] at hk; omega)

set_option maxRecDepth 100000 in
set_option maxHeartbeats 8000000 in
theorem step1 (base g r n : Nat) (idx term ix tm : Int) (own know : Bool) (L l : List Ent) (A : Option Addr) (c : Nat) (w : World) (h : Upto base w g r n idx term L) (_hn : n ≤ 150) (hbase : base ≤ w.heap.size) (hi : In base w A c l) (hix : -9223372036854775808 ≤ ix ∧ ix ≤ 9223372036854775807) :
    Calls Try.prog 25 #[.pointer (some ⟨g, 0, none⟩), .pointer (some ⟨r, 0, none⟩), .agg #[.int .i64 1, .int .i64 ix, .bool own, .int .i64 tm, .bool know, .slice A l.length c]] w (RetS base g r n w) := by
  obtain ⟨hix0, hix1⟩ := hix
  have H := hid h
  have HI := hid hi
  have b0 := h.i0
  have b1 := h.s1
  have b2 := h.l1
  clear h hi
  have HB := hid (heap_alloc_new w (.cells #[.int .i64 1, .int .i64 ix, .bool own, .int .i64 tm, .bool know, .slice A l.length c] 57))
  have G1 := hid ((Gr.refl w).alloc (.cells #[.int .i64 1, .int .i64 ix, .bool own, .int .i64 tm, .bool know, .slice A l.length c] 57))
  have C32 := hid (fun W (y : Gr w W) => R.last W (H.out.r.gr y))
  have C15 := hid (fun W (y : Gr w W) i (hm : i ≤ 9223372036854775807) => R.term W i hm (H.out.r.gr y))
  go_enter Try.func25, Try.ntmps25
  go_upto_if 28 with (go_at_call 32; (with_reducible refine (C32.out _ G1.out).mono ?_); rintro e _ ⟨rfl, y1, rfl⟩)
  have G2 := hid (G1.out.trans y1.gr)
  have HB2 := hid ((y1.gr.block w.heap.size (Array.getElem?_eq_some_iff.1 HB.out).1).trans HB.out)
  generalize y1.val = W2 at *
  obtain ⟨c0, c1, c2, c3, c4, c5⟩ := heap6 HB2.out
  have hw2 : w.heap.size < W2.heap.size := (Array.getElem?_eq_some_iff.1 HB2.out).1
  go_cut [9] from 13 (fun i wx => ∃ I : Int, i = .int .i64 I ∧ -9223372036854775808 ≤ I ∧ I ≤ 9223372036854775807 ∧ W2 = wx)
  case first =>
    cases own
    · go_wp2_with fail
      go_meet
      exact ⟨_, rfl, hix0, hix1, rfl⟩
    · go_wp2_with fail
      go_meet
      exact ⟨_, rfl, (by rw [← IntWalk.i64_left]; exact (wrap_rng _).1), (by rw [← IntWalk.i64_left]; exact (wrap_rng _).2), rfl⟩
  case rest =>
    obtain ⟨I, rfl, hI0, hI1, rfl⟩ := hcut
    go_upto_region 7 with (go_at_call 15; (with_reducible refine (C15.out _ G2.out I hI1).mono ?_); rintro e _ ⟨rfl, y2, rfl⟩)
    have G3 := hid (G2.out.trans y2.gr)
    have HB3 := hid ((y2.gr.block w.heap.size hw2).trans HB2.out)
    generalize y2.val = W3 at *
    clear c0 c1 c2 c3 c4 c5
    obtain ⟨c0, c1, c2, c3, c4, c5⟩ := heap6 HB3.out
    have hw3 : w.heap.size < W3.heap.size := (Array.getElem?_eq_some_iff.1 HB3.out).1
    go_cut [45] from 13 (fun s wx => ∃ B : Bool, s = .bool B ∧ W3 = wx)
    case first =>
      cases know
      · go_wp2_with fail
        go_meet
        exact ⟨_, rfl, rfl⟩
      · go_wp2_with fail
        go_meet
        exact ⟨_, rfl, rfl⟩
    case rest =>
      obtain ⟨B, rfl, rfl⟩ := hcut
      go_upto_if 45 with fail
      go_cut [10] from 13 (fun t wx => ∃ T : Int, t = .int .i64 T ∧ W3 = wx)
      case first =>
        cases B
        · go_wp2_with fail
          go_meet
          exact ⟨_, rfl, rfl⟩
        · go_wp2_with fail
          go_meet
          exact ⟨_, rfl, rfl⟩
      case rest =>
        obtain ⟨T, rfl, rfl⟩ := hcut
        have hI2 := hid (And.intro hI0 hI1)
        have hb3 : base ≤ W3.heap.size := Nat.le_trans hbase G3.out.size
        have hll : l.length ≤ 1048576 := HI.out.2.2.2.2
        have hI3 := hid (HI.out.gr G3.out)
        clear HI
        obtain ⟨lt, hlt0⟩ : ∃ lt, lastT term L = lt := ⟨_, rfl⟩
        simp only [hlt0]
        clear hlt0 C32 C15
        clear c0 c1 c2 c3 c4
        have c50 := c5
        obtain ⟨_, _, _, _, _, _⟩ := heap6 HB3.out
        go_wp2_with fail
        go_loopw [13] (fun j wr => ∃ k : Nat, k ≤ l.length ∧ j = .int .i64 k ∧ Gr W3 wr ∧ ∀ t, t < k → 1 ≤ (l.getD t (0, [])).1) (fun j _ => l.length - (intOf j).toNat)
        case atStart => exact ⟨0, Nat.zero_le _, rfl, Gr.refl _, fun t ht => by omega⟩
        case round =>
          obtain ⟨k, hk, rfl, hg, hno⟩ := hrel
          have HG := hid hg
          have HN := hid hno
          have HBW := hid ((hg.block w.heap.size hw3).trans HB3.out)
          obtain ⟨_, _, _, _, _, d5⟩ := heap6 HBW.out
          have hww : w.heap.size < wr.heap.size := (Array.getElem?_eq_some_iff.1 HBW.out).1
          clear hg hno
          by_cases hlt : k < l.length
          · obtain ⟨b, off, D, c', rfl, x0, _, _, hbw⟩ := (hI3.out.gr HG.out).1.at_ hlt
            obtain ⟨x, hx⟩ : ∃ x, (l.getD k (0, [])).1 = x := ⟨_, rfl⟩
            have HX := hid hx
            rw [hx] at x0
            clear hx
            by_cases e1 : x < lt
            · have q1 : decide (x < lt) = true := decide_eq_true e1
              go_wp2_with fail
              refine wp_region_ext (by kernel_rfl) (by kernel_rfl) ?_
              repeat (go_big_quiet_step (fail))
              refine wpQuiet_nil ?_
              rintro _ ⟨z, rfl⟩
              go_wp2_with fail
              go_ret
              exact ⟨rfl, ⟨_, _, _, (H.out.gr ((G3.out.trans HG.out).ext z)).more⟩, MY.of_gr ((G3.out.trans HG.out).ext z)⟩
            · have q1 : decide (x < lt) = false := decide_eq_false e1
              by_cases e2 : x < 1
              · have q2 : decide (x < 1) = true := decide_eq_true e2
                go_wp2_with fail
                refine wp_region_ext (by kernel_rfl) (by kernel_rfl) ?_
                repeat (go_big_quiet_step (fail))
                refine wpQuiet_nil ?_
                rintro _ ⟨z, rfl⟩
                go_wp2_with fail
                go_ret
                exact ⟨rfl, ⟨_, _, _, (H.out.gr ((G3.out.trans HG.out).ext z)).more⟩, MY.of_gr ((G3.out.trans HG.out).ext z)⟩
              · have q2 : decide (x < 1) = false := decide_eq_false e2
                have HX1 := hid (show 1 ≤ x by omega)
                by_cases e3 : k = 0
                · have q3 : decide ((0 : Int) < (k : Int)) = false := decide_eq_false (by omega)
                  have q4 : decide (0 < k) = false := decide_eq_false (by omega)
                  have q5 : ¬ 0 < k := by omega
                  clear e3
                  go_wp2_with fail
                  refine wp_region_ext (by kernel_rfl) (by kernel_rfl) ?_
                  repeat (go_big_quiet_step (fail))
                  refine wpQuiet_nil ?_
                  rintro _ ⟨z, rfl⟩
                  go_wp2_with fail
                  go_roundw
                  case rel =>
                    refine ⟨k + 1, by omega, by go_num, HG.out.ext z, fun t ht => ?_⟩
                    by_cases e : t = k
                    · subst e; rw [HX.out]; exact HX1.out
                    · exact HN.out t (by omega)
                  case measure => simp [intOf]; omega
                · have q3 : decide ((0 : Int) < (k : Int)) = true := decide_eq_true (by omega)
                  have q4 : decide (0 < k) = true := decide_eq_true (by omega)
                  have q5 : 0 < k := by omega
                  obtain ⟨b', off', D', c2, e, y0, _, _, _⟩ := (hI3.out.gr HG.out).1.at_ (i := k - 1) (by omega)
                  injection e with e
                  injection e with e4 e5 _
                  subst e4 e5
                  have ek : IntKind.i64.wrap ((k : Int) - 1) = ((k - 1 : Nat) : Int) := by rw [IntWalk.i64_in _ (by omega)]; omega
                  have ek2 : ((k : Int) - 1).toNat = k - 1 := by omega
                  have hk1 : k - 1 < l.length := by omega
                  have hk0 : (1 : Int) ≤ (k : Int) := by omega
                  obtain ⟨p, hp⟩ : ∃ p, (l.getD (k - 1) (0, [])).1 = p := ⟨_, rfl⟩
                  rw [hp] at y0
                  clear hp e3
                  by_cases e6 : x < p
                  · have q6 : decide (x < p) = true := decide_eq_true e6
                    go_wp2_with fail
                    refine wp_region_ext (by kernel_rfl) (by kernel_rfl) ?_
                    repeat (go_big_quiet_step (fail))
                    refine wpQuiet_nil ?_
                    rintro _ ⟨z, rfl⟩
                    go_wp2_with fail
                    go_ret
                    exact ⟨rfl, ⟨_, _, _, (H.out.gr ((G3.out.trans HG.out).ext z)).more⟩, MY.of_gr ((G3.out.trans HG.out).ext z)⟩
                  · have q6 : decide (x < p) = false := decide_eq_false e6
                    go_wp2_with fail
                    refine wp_region_ext (by kernel_rfl) (by kernel_rfl) ?_
                    repeat (go_big_quiet_step (fail))
                    refine wpQuiet_nil ?_
                    rintro _ ⟨z, rfl⟩
                    go_wp2_with fail
                    go_roundw
                    case rel =>
                      refine ⟨k + 1, by omega, by go_num, HG.out.ext z, fun t ht => ?_⟩
                      by_cases e : t = k
                      · subst e; rw [HX.out]; exact HX1.out
                      · exact HN.out t (by omega)
                    case measure => simp [intOf]; omega
          · have hke : k = l.length := by omega
            subst hke
            go_wp2_with fail
            have G4 := hid (G3.out.trans HG.out)
            have hbw : base ≤ wr.heap.size := Nat.le_trans hbase G4.out.size
            refine wp_region_noPanic ?_
            refine wp_region_planM [(0, false), (1, false), (2, false), (4, false), (5, false), (6, false), (3, true), (7, true), (8, true), (9, true)] (fun w' => w'.cell? ⟨w.heap.size, 5, none⟩ = some (.slice A l.length c)) (by kernel_rfl) (by kernel_rfl) (fun _ _ _ _ _ h => h) d5 (fun hHeld => ?_)
            iterate 6 (refine pm_take (v := ?_) rfl (by rfl) ?_ ?_; rotate_left; (focus (intro W9 hW9; (try dsimp only at hW9); go_simp; (try with_reducible rfl); done)); (try simp only [Act.put, List.setIfInBounds_toArray, List.set_cons_zero, List.set_cons_succ]))
            refine pm_call rfl (by rfl) (fun K hK => ?_)
            go_simp
            go_at_call 33
            refine (add_any base g idx term L l A c wr.drew (H.out.o.gr (G4.out.trans (Gr.refl wr).drew)) (hI3.out.gr (HG.out.trans (Gr.refl wr).drew)).1 (by omega) hbw).mono ?_
            rintro e w4 ⟨rfl, ho4, hm4⟩
            have HO4 := hid ho4
            have HM4 := hid hm4
            have HR4 := hid ((H.out.r.gr (G4.out.trans (Gr.refl wr).drew)).ours hm4)
            have HI4 := hid ((hI3.out.gr (HG.out.trans (Gr.refl wr).drew)).my hm4 rfl)
            have HB4 := hid (hm4.keep (w := wr.drew) HBW.out rfl)
            obtain ⟨_, _, _, _, _, d54⟩ := heap6 HB4.out
            have hb4 : base ≤ w4.heap.size := Nat.le_trans hbw hm4.size
            refine hK.out _ _ _ d54 (fun _ h => h) (fun _ => ?_)
            clear hK K hHeld ho4 hm4
            (try simp only [Act.put, List.setIfInBounds_toArray, List.set_cons_zero, List.set_cons_succ])
            refine pm_call rfl (by rfl) (fun K hK => ?_)
            go_simp
            go_at_call 14
            refine (of_any base A c l w4 HI4.out.1 (by omega) hb4).mono ?_
            rintro e _ ⟨v5, y5, rfl, rfl, ho5⟩
            have G5 := hid y5.gr
            obtain ⟨A5, c5, rfl, hs5, _⟩ := ho5.shape
            have HS5 := hid hs5
            have d55 := (y5.gr.cell (p := ⟨w.heap.size, 5, none⟩) (Array.getElem?_eq_some_iff.1 HB4.out).1).trans d54
            clear ho5 hs5
            generalize y5.val = w5 at *
            refine hK.out _ _ _ d55 (fun _ h => h) (fun _ => ?_)
            clear hK K
            (try simp only [Act.put, List.setIfInBounds_toArray, List.set_cons_zero, List.set_cons_succ])
            refine pm_call rfl (by rfl) (fun K hK => ?_)
            go_simp
            go_at_call 34
            refine (addT_any base r idx term L l A5 c5 w5 (HR4.out.gr G5.out) HS5.out (by omega) (Nat.le_trans hb4 G5.out.size)).mono ?_
            rintro e w6 ⟨rfl, hr6, hm6⟩
            have HR6 := hid hr6
            have HM6 := hid hm6
            have d56 : w6.cell? ⟨w.heap.size, 5, none⟩ = some (.slice A l.length c) := (heap6 (hm6.keep ((G5.out.block _ (Array.getElem?_eq_some_iff.1 HB4.out).1).trans HB4.out) rfl)).2.2.2.2.2
            refine hK.out _ _ _ d56 (fun _ h => h) (fun _ => ?_)
            clear hK K hr6 hm6
            (try simp only [Act.put, List.setIfInBounds_toArray, List.set_cons_zero, List.set_cons_succ])
            refine pm_last rfl (by rfl) (fun K hK => ?_)
            go_simp
            refine hK.out _ _ (NoPanic.normal ?_)
            clear hK K
            go_upto_region 30 with fail
            have HU := hid (show Upto base w6 g r (n + 1) (idx) (term) (L ++ l) from H.out.add HN.out hll ((HO4.out.gr G5.out).theirs HM6.out) HR6.out)
            have HM := hid (show MY ZU base w w6 from (((MY.of_gr (G4.out.trans (Gr.refl wr).drew)).trans HM4.out.o).trans (MY.of_gr G5.out)).trans HM6.out.t)
            by_cases hbig : I ≤ 1099511627776
            · have HLK := hid (looks_any base g r (idx) (term) I T (L ++ l) w6 HU.out.o HU.out.r HU.out.pos hbig hI0 (Nat.le_trans hbase HM.out.size))
              go_wp2_with (go_at_call 39; refine HLK.out.mono ?_; rintro e _ ⟨rfl, y9, rfl⟩)
              go_ret
              exact ⟨rfl, ⟨_, _, _, HU.out.gr y9.gr⟩, HM.out.trans (MY.of_gr y9.gr)⟩
            · have hbig2 : decide (1099511627776 < I) = true := decide_eq_true (by omega)
              go_wp2_with fail
              go_ret
              exact ⟨rfl, ⟨_, _, _, HU.out⟩, HM.out⟩
end Go.Proofs.Ythiahnpijdkboaa
