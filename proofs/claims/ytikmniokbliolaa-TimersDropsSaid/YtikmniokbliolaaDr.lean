import Derived.Test.YtikmniokbliolaaL2
namespace Go.Proofs.Ytikmniokbliolaa
open Go.RowKit Go.Ext Go.BigFrame
attribute [local go_sem] Ext.cell Ext.frozen Ext.lt Ext.le s1 s2 s3 s4 s5 s6 t1 t2 t3 t4 t5 t6
attribute [local go_sem ↓] Go.wp_at_zero Go.wp_at_succ

theorem add6b (base g : Nat) (v : Value) (L : List It) (a b c d e f : Int) (w : World) (h : HB base w g v L) (hs : Srt L) (hl : L.length ≤ 1000000) (hbase : base ≤ w.heap.size) :
    Calls Try.prog 12 #[.pointer (some ⟨g, 0, none⟩), .agg #[.int .i64 a, .int .i64 b, .int .i64 c, .int .i64 d, .int .i64 e, .int .i64 f]] w (RetH base g v (addF L (a, b, c, d, e, f)) (.bool (!has L (a, b, c, d, e, f))) w) := add_any base g v L (a, b, c, d, e, f) w h hs hl hbase

set_option maxHeartbeats 2000000 in
/-- The law TimersDrops. -/
theorem drops_any (A : Option Addr) (c : Nat) (flow run : Int) (L0 : List It) (w : World) (hr : Row w A L0) (hl : L0.length ≤ 4398046511103) :
    Calls Try.prog 7 #[.slice A L0.length c, .int .i64 flow, .int .i64 run] w (RetE (.bool true) w) := by
  refine retE ?_
  have HR := hid hr
  clear hr
  by_cases hlen : 250 < L0.length
  · have hle : (250 : Int) < (L0.length : Int) := by omega
    go_enter Try.func7, Try.ntmps7
    go_wp2_with (go_at_call 8; refine (known_any _).mono ?_; rintro e _ ⟨rfl, y1, rfl⟩)
    go_ret
    exact ⟨rfl, y1.gr⟩
  have hle : ¬ (250 : Int) < (L0.length : Int) := by omega
  go_enter Try.func7, Try.ntmps7
  go_wp2_with (go_at_call 8; refine (known_any _).mono ?_; rintro e _ ⟨rfl, y1, rfl⟩)
  refine (new_any w.heap.size _ y1.gr.size).mono ?_
  rintro e w2 ⟨rfl, h2, g2⟩
  have H2 := hid h2
  have G2 := hid (y1.gr.trans g2)
  have hlt2 := h2.lt
  clear h2 g2
  go_wp2_with fail
  refine (new_any w.heap.size w2 G2.out.size).mono ?_
  rintro e w3 ⟨rfl, h3, g3⟩
  have H3 := hid h3
  have G3 := hid g3
  have hlt3 := h3.lt
  clear h3 g3
  generalize hga : y1.val.heap.size = ga at *
  generalize hgb : w2.heap.size = gb at *
  have HNE := hid (show ga ≠ gb by omega)
  go_wp2_with fail
  go_loopw [9, 10, 11] (fun cn i _ wr => ∃ (k q : Nat) (L : List It) (va vb : Value), k ≤ L0.length ∧ i = .int .i64 k ∧ cn = .int .i64 q ∧ Gr w wr ∧ HB w.heap.size wr ga va L ∧ HB w.heap.size wr gb vb (dropF L flow run) ∧ Apart va vb ∧ Srt L ∧ L.length ≤ k ∧ q + (dropF L flow run).length = L.length) (fun _ i _ _ => L0.length - (intOf i).toNat)
  case atStart => exact ⟨0, 0, [], _, _, Nat.zero_le _, rfl, rfl, G2.out.trans G3.out, H2.out.gr G3.out, H3.out, fun k hk => by simp [Value.ownBlock] at hk, srt_nil, Nat.le_refl _, rfl⟩
  case round =>
    obtain ⟨k, q, L, va, vb, hk, rfl, rfl, hg, hA, hB, hap, hS, hLk, hq⟩ := hrel
    have HG := hid hg
    have HA := hid hA
    have HB' := hid hB
    have HP := hid hap
    have HS := hid hS
    have HQ := hid hq
    have hq1 : q ≤ L.length := by omega
    clear hg hA hB hap hS hq
    have hdl := drop_le L flow run
    by_cases hlt : k < L0.length
    · obtain ⟨bb, off, rfl, hbw, c0, c1, c2, c3, c4, c5⟩ := HR.out.at_ hlt
      obtain ⟨⟨a, b, c', d, e, f⟩, hy⟩ : ∃ y, L0.getD k z0 = y := ⟨_, rfl⟩
      rw [hy] at c0 c1 c2 c3 c4 c5
      simp only at c0 c1 c2 c3 c4 c5
      clear hy
      have HC0 := hid c0
      have HC1 := hid c1
      have HC2 := hid c2
      have HC3 := hid c3
      have HC4 := hid c4
      have HC5 := hid c5
      have hw0 := HG.out.size
      have cells : ∀ W, Gr w W → W.cell? ⟨bb, off + k * 6, none⟩ = some (.int .i64 a) ∧ W.cell? ⟨bb, off + k * 6 + 1, none⟩ = some (.int .i64 b) ∧ W.cell? ⟨bb, off + k * 6 + 2, none⟩ = some (.int .i64 c') ∧ W.cell? ⟨bb, off + k * 6 + 3, none⟩ = some (.int .i64 d) ∧ W.cell? ⟨bb, off + k * 6 + 4, none⟩ = some (.int .i64 e) ∧ W.cell? ⟨bb, off + k * 6 + 5, none⟩ = some (.int .i64 f) := fun W g =>
        ⟨(g.cell (show (⟨bb, off + k * 6, none⟩ : Addr).block < w.heap.size from hbw)).trans HC0.out, (g.cell (show (⟨bb, off + k * 6 + 1, none⟩ : Addr).block < w.heap.size from hbw)).trans HC1.out, (g.cell (show (⟨bb, off + k * 6 + 2, none⟩ : Addr).block < w.heap.size from hbw)).trans HC2.out, (g.cell (show (⟨bb, off + k * 6 + 3, none⟩ : Addr).block < w.heap.size from hbw)).trans HC3.out, (g.cell (show (⟨bb, off + k * 6 + 4, none⟩ : Addr).block < w.heap.size from hbw)).trans HC4.out, (g.cell (show (⟨bb, off + k * 6 + 5, none⟩ : Addr).block < w.heap.size from hbw)).trans HC5.out⟩
      clear c0 c1 c2 c3 c4 c5
      have CELLS := hid cells
      clear cells
      obtain ⟨c0, c1, c2, c3, c4, c5⟩ := CELLS.out _ HG.out
      have HADD := hid (add_any w.heap.size ga va L (a, b, c', d, e, f) wr HA.out HS.out (by omega) hw0)
      simp only [iv] at HADD
      cases hb : b == flow
      · have hgn : gone flow run (a, b, c', d, e, f) = false := by unfold gone; simp only; rw [hb]; rfl
        have HGN := hid hgn
        clear hgn
        go_wp2_with (first
          | (go_at_call 12; (with_reducible refine HADD.out.mono ?_)
             intro en w4 h4
             have HA4 := hid h4
             obtain ⟨v4, rfl, h4b, m4, o4⟩ := h4
             have A4 := hid h4b
             have B4 := hid (HB'.out.other HA.out HNE.out HP.out m4)
             have P4 := hid (HP.out.act HB'.out o4)
             obtain ⟨_, _, _, g4⟩ := RetH.gr HA4.out (Nat.le_refl _) HG.out HA.out
             have G4 := hid g4
             clear h4b m4 o4 g4 c0 c1 c2 c3 c4 c5
             obtain ⟨c0, c1, c2, c3, c4, c5⟩ := CELLS.out _ G4.out)
          | (go_at_call 12; (with_reducible refine (add6b w.heap.size gb vb (dropF L flow run) a b c' d e f w4 B4.out (dropF_srt HS.out _ _) (by omega) G4.out.size).mono ?_)
             intro en w5 h5
             have HB5 := hid h5
             obtain ⟨v5, rfl, h5b, m5, o5⟩ := h5
             have B5 := hid h5b
             have A5 := hid (A4.out.other B4.out (Ne.symm HNE.out) P4.out.symm m5)
             have P5 := hid (P4.out.symm.act A4.out o5).symm
             obtain ⟨_, _, _, g5⟩ := RetH.gr HB5.out (Nat.le_refl _) G4.out B4.out
             have G5 := hid g5
             clear h5b m5 o5 g5))
        go_roundw
        case rel =>
          refine ⟨k + 1, q, addF L (a, b, c', d, e, f), v4, v5, by omega, by go_num, rfl, G5.out, A5.out, ?_, P5.out, addF_srt HS.out _, ?_, ?_⟩
          · rw [drop_add_stay HS.out HGN.out]; exact B5.out
          · rw [addF_length]; split <;> omega
          · have := HQ.out
            rw [drop_add_stay HS.out HGN.out, addF_length, addF_length, has_drop HS.out HGN.out]
            split <;> omega
        case measure => simp [intOf]; omega
      · cases hc : c' == run
        · have hgn : gone flow run (a, b, c', d, e, f) = false := by unfold gone; simp only; rw [hb, hc]; rfl
          have HGN := hid hgn
          clear hgn
          go_wp2_with (first
            | (go_at_call 12; (with_reducible refine HADD.out.mono ?_)
               intro en w4 h4
               have HA4 := hid h4
               obtain ⟨v4, rfl, h4b, m4, o4⟩ := h4
               have A4 := hid h4b
               have B4 := hid (HB'.out.other HA.out HNE.out HP.out m4)
               have P4 := hid (HP.out.act HB'.out o4)
               obtain ⟨_, _, _, g4⟩ := RetH.gr HA4.out (Nat.le_refl _) HG.out HA.out
               have G4 := hid g4
               clear h4b m4 o4 g4 c0 c1 c2 c3 c4 c5
               obtain ⟨c0, c1, c2, c3, c4, c5⟩ := CELLS.out _ G4.out)
            | (go_at_call 12; (with_reducible refine (add6b w.heap.size gb vb (dropF L flow run) a b c' d e f w4 B4.out (dropF_srt HS.out _ _) (by omega) G4.out.size).mono ?_)
               intro en w5 h5
               have HB5 := hid h5
               obtain ⟨v5, rfl, h5b, m5, o5⟩ := h5
               have B5 := hid h5b
               have A5 := hid (A4.out.other B4.out (Ne.symm HNE.out) P4.out.symm m5)
               have P5 := hid (P4.out.symm.act A4.out o5).symm
               obtain ⟨_, _, _, g5⟩ := RetH.gr HB5.out (Nat.le_refl _) G4.out B4.out
               have G5 := hid g5
               clear h5b m5 o5 g5))
          go_roundw
          case rel =>
            refine ⟨k + 1, q, addF L (a, b, c', d, e, f), v4, v5, by omega, by go_num, rfl, G5.out, A5.out, ?_, P5.out, addF_srt HS.out _, ?_, ?_⟩
            · rw [drop_add_stay HS.out HGN.out]; exact B5.out
            · rw [addF_length]; split <;> omega
            · have := HQ.out
              rw [drop_add_stay HS.out HGN.out, addF_length, addF_length, has_drop HS.out HGN.out]
              split <;> omega
          case measure => simp [intOf]; omega
        · have hgn : gone flow run (a, b, c', d, e, f) = true := by unfold gone; simp only; rw [hb, hc]; rfl
          cases hres : has L (a, b, c', d, e, f)
          · rw [hres] at HADD
            have HGN := hid hgn
            have HRES := hid hres
            clear hgn hres
            go_wp2_with (first
              | (go_at_call 12; (with_reducible refine HADD.out.mono ?_)
                 intro en w4 h4
                 have HA4 := hid h4
                 obtain ⟨v4, rfl, h4b, m4, o4⟩ := h4
                 have A4 := hid h4b
                 have B4 := hid (HB'.out.other HA.out HNE.out HP.out m4)
                 have P4 := hid (HP.out.act HB'.out o4)
                 obtain ⟨_, _, _, g4⟩ := RetH.gr HA4.out (Nat.le_refl _) HG.out HA.out
                 have G4 := hid g4
                 clear h4b m4 o4 g4 c0 c1 c2 c3 c4 c5
                 obtain ⟨c0, c1, c2, c3, c4, c5⟩ := CELLS.out _ G4.out))
            go_roundw
            case rel =>
              refine ⟨k + 1, q + 1, addF L (a, b, c', d, e, f), v4, vb, by omega, by go_num, by first | rfl | go_num, G4.out, A4.out, ?_, P4.out, addF_srt HS.out _, ?_, ?_⟩
              · rw [drop_add_gone HS.out HGN.out]; exact B4.out
              · rw [addF_length]; split <;> omega
              · have := HQ.out
                rw [drop_add_gone HS.out HGN.out, addF_length, HRES.out]
                rw [if_neg Bool.false_ne_true]
                omega
            case measure => simp [intOf]; omega
          · rw [hres] at HADD
            have HGN := hid hgn
            have HRES := hid hres
            clear hgn hres
            go_wp2_with (first
              | (go_at_call 12; (with_reducible refine HADD.out.mono ?_)
                 intro en w4 h4
                 have HA4 := hid h4
                 obtain ⟨v4, rfl, h4b, m4, o4⟩ := h4
                 have A4 := hid h4b
                 have B4 := hid (HB'.out.other HA.out HNE.out HP.out m4)
                 have P4 := hid (HP.out.act HB'.out o4)
                 obtain ⟨_, _, _, g4⟩ := RetH.gr HA4.out (Nat.le_refl _) HG.out HA.out
                 have G4 := hid g4
                 clear h4b m4 o4 g4 c0 c1 c2 c3 c4 c5
                 obtain ⟨c0, c1, c2, c3, c4, c5⟩ := CELLS.out _ G4.out))
            go_roundw
            case rel =>
              refine ⟨k + 1, q, addF L (a, b, c', d, e, f), v4, vb, by omega, by go_num, by first | rfl | go_num, G4.out, A4.out, ?_, P4.out, addF_srt HS.out _, ?_, ?_⟩
              · rw [drop_add_gone HS.out HGN.out]; exact B4.out
              · rw [addF_length]; split <;> omega
              · have := HQ.out
                rw [drop_add_gone HS.out HGN.out, addF_length, HRES.out]
                rw [if_pos rfl]
                omega
            case measure => simp [intOf]; omega
    · have hke : k = L0.length := by omega
      clear hke HR
      have hdl' := drop_le L flow run
      have hK : ((L.length : Int) - ((dropF L flow run).length : Int)) = (q : Int) := by have := HQ.out; omega
      have HDR := hid (drop_any w.heap.size ga va L flow run wr HA.out (by omega))
      rw [hK] at HDR
      have HDD := hid (drop_drop L flow run)
      have HKS := hid (dropF_srt HS.out flow run)
      generalize dropF L flow run = K at *
      clear hK
      go_wp2_with (first
        | (go_at_call 25; (with_reducible refine HDR.out.mono ?_)
           intro en w4 h4
           have HA4 := hid h4
           obtain ⟨v4, rfl, h4b, m4, o4⟩ := h4
           have A4 := hid h4b
           have B4 := hid (HB'.out.other HA.out HNE.out HP.out m4)
           obtain ⟨_, _, _, g4⟩ := RetH.gr HA4.out (Nat.le_refl _) HG.out HA.out
           have G4 := hid g4
           clear h4b m4 o4 g4)
        | (go_at_call 15; (with_reducible refine (len_any w.heap.size ga v4 K w4 A4.out).mono ?_); rintro en _ ⟨rfl, y5, rfl⟩)
        | (go_at_call 15; (with_reducible refine (len_any w.heap.size gb vb K y5.val (B4.out.gr y5.gr)).mono ?_); rintro en _ ⟨rfl, y6, rfl⟩
           have G6 := hid ((y5.gr).trans y6.gr))
        | (go_at_call 28; (with_reducible refine (list_any w.heap.size ga v4 K y6.val (A4.out.gr G6.out) (by omega)).mono ?_); rintro en _ ⟨xl, y7, rfl, rfl, hxl⟩
           have HXL := hid hxl
           clear hxl)
        | (go_at_call 28; (with_reducible refine (list_any w.heap.size gb vb K y7.val (B4.out.gr (G6.out.trans y7.gr)) (by omega)).mono ?_); rintro en _ ⟨yl, y8, rfl, rfl, hyl⟩
           have HYL := hid hyl
           clear hyl))
      obtain ⟨XA, xc, rfl, hxr, _⟩ := HXL.out
      obtain ⟨YA, yc, rfl, hyr, _⟩ := HYL.out
      have HXR := hid (hxr.gr y8.gr)
      have HYR := hid hyr
      have G8 := hid (((G4.out.trans G6.out).trans y7.gr).trans y8.gr)
      have A8 := hid ((A4.out.gr (G6.out.trans y7.gr)).gr y8.gr)
      clear hxr hyr
      have hgd := guard33
      go_loopw [14] (fun i wr => ∃ k : Nat, k ≤ K.length ∧ i = .int .i64 k ∧ Gr y8.val wr) (fun i _ => K.length - (intOf i).toNat)
      case atStart => exact ⟨0, Nat.zero_le _, rfl, Gr.refl _⟩
      case round =>
        obtain ⟨k, hk, rfl, hg8⟩ := hrel
        have HG8 := hid hg8
        clear hg8
        by_cases hlt : k < K.length
        · obtain ⟨bb, off, rfl, hbb, c0, c1, c2, c3, c4, c5⟩ := (HXR.out.gr HG8.out).at_ hlt
          obtain ⟨bb2, off2, rfl, hbb2, d0, d1, d2, d3, d4, d5⟩ := (HYR.out.gr HG8.out).at_ hlt
          obtain ⟨⟨a, b, c', d, e, f⟩, hy⟩ : ∃ y, K.getD k z0 = y := ⟨_, rfl⟩
          rw [hy] at c0 c1 c2 c3 c4 c5 d0 d1 d2 d3 d4 d5
          simp only at c0 c1 c2 c3 c4 c5 d0 d1 d2 d3 d4 d5
          clear hy
          have hne := fun (W : World) => ne33 a b c' d e f a b c' d e f W
          simp only [decide_true, Bool.not_true] at hne
          go_wp2_with fail
          refine wp_region_ext (by kernel_rfl) (by kernel_rfl) ?_
          repeat (go_big_quiet_step (fail))
          refine wpQuiet_nil ?_
          rintro _ ⟨x, rfl⟩
          go_wp2_with fail
          go_roundw
          case rel => exact ⟨k + 1, by omega, by go_num, HG8.out.ext x⟩
          case measure => simp [intOf]; omega
        · have HD2 := hid (drop_any w.heap.size ga v4 K flow run wr (A8.out.gr HG8.out) (by omega))
          rw [HDD.out, show ((K.length : Int) - (K.length : Int)) = 0 by omega] at HD2
          go_wp2_with (first
            | (go_at_call 25; (with_reducible refine HD2.out.mono ?_)
               intro en w9 h9
               obtain ⟨_, rfl, _, g9⟩ := RetH.gr h9 (Nat.le_refl _) (G8.out.trans HG8.out) (A8.out.gr HG8.out)
               have G9 := hid g9
               clear h9 g9))
          go_ret
          exact ⟨by simp, G9.out⟩
end Go.Proofs.Ytikmniokbliolaa
