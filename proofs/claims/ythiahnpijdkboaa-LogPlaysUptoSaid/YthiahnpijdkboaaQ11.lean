import Derived.Test.YthiahnpijdkboaaQ7
import Derived.Test.YthiahnpijdkboaaQ8
import Derived.Test.YthiahnpijdkboaaQ10
import Derived.Test.YthiahnpijdkboaaW9
namespace Go.Proofs.Ythiahnpijdkboaa
open Go.RowKit Go.Ext Go.BigFrame
attribute [local go_sem] Ext.cell Ext.frozen Ext.lt Ext.le s1 s2 s3 s4 s5 s6 t1 t2 t3 t4 t5 t6
attribute [local go_sem ↓] Go.wp_at_zero Go.wp_at_succ

theorem step_any (base g r n : Nat) (idx term : Int) (a : Ac) (L : List Ent) (A : Option Addr) (c : Nat) (w : World) (h : Upto base w g r n idx term L) (hn : n ≤ 150) (hbase : base ≤ w.heap.size) (hi : In base w A c a.l) (hix : -9223372036854775808 ≤ a.index ∧ a.index ≤ 9223372036854775807) :
    Calls Try.prog 25 #[.pointer (some ⟨g, 0, none⟩), .pointer (some ⟨r, 0, none⟩), .agg #[.int .i64 a.op, .int .i64 a.index, .bool a.own, .int .i64 a.term, .bool a.know, .slice A a.l.length c]] w (RetS base g r n w) := by
  obtain ⟨op, ix, own, tm, know, l⟩ := a
  simp only at hi hix ⊢
  by_cases o1 : op = 1
  · subst o1; exact step1 base g r n idx term ix tm own know L l A c w h hn hbase hi hix
  by_cases o2 : op = 2
  · subst o2; exact step2 base g r n idx term ix tm own know L l A c w h hn hbase hi hix
  by_cases o3 : op = 3
  · subst o3; exact step3 base g r n idx term ix tm own know L l A c w h hn hbase hi hix
  by_cases o4 : op = 4
  · subst o4; exact step4 base g r n idx term ix tm own know L l A c w h hn hbase hi hix
  exact stepE base g r n idx term op ix tm own know L l A c w h hn hbase hi hix ⟨o1, o2, o3, o4⟩
theorem getL_all (idx : Int) (L : List Ent) (h0 : 0 ≤ idx) (h : idx + 1 + L.length ≤ 1125899906842624) : getL idx L 0 1125899906842624 = L := by
  unfold getL
  rw [show (min (1125899906842624 : Int) (idx + 1 + L.length) - (idx + 1)).toNat = L.length by omega, show (max 0 (idx + 1) - (idx + 1)).toNat = 0 by omega, List.take_length, List.drop_zero]

set_option maxRecDepth 100000 in
set_option maxHeartbeats 8000000 in
theorem plays_any (index term : Int) (A : Option Addr) (c : Nat) (L : List Ent) (B : Option Addr) (cb : Nat) (acts : List Ac) (w : World) (hs : Sl w.heap.size w A L) (hl : L.length ≤ 1048576) (hr : RowC w.heap.size w B acts) (hb : acts.length ≤ 1048576) :
    Calls Try.prog 7 #[.int .i64 index, .int .i64 term, .slice A L.length c, .slice B acts.length cb] w (RetE (.bool true) w) := by
  refine retE ?_
  have HS := hid hs
  have HR := hid hr
  clear hs hr
  go_enter Try.func7, Try.ntmps7
  go_wp2_with (go_at_call 8; refine (known_any _).mono ?_; rintro e _ ⟨rfl, y1, rfl⟩)
  refine (few_any w.heap.size A c L B cb acts y1.val (HS.out.gr y1.gr) (by omega) (HR.out.gr y1.gr) (by omega)).mono ?_
  rintro en _ ⟨rr, rfl, hfew, rfl⟩
  cases rr
  · clear hfew HR
    go_wp2_with fail
    go_ret
    exact ⟨rfl, y1.gr⟩
  have hac : acts.length ≤ 150 := hfew rfl
  clear hfew
  by_cases hbig : 1099511627776 < index
  · have hbig2 : decide (1099511627776 < index) = true := decide_eq_true hbig
    go_wp2_with fail
    go_ret
    exact ⟨rfl, y1.gr⟩
  have hbig2 : decide (1099511627776 < index) = false := decide_eq_false hbig
  have hsl1 := HS.out.gr y1.gr
  by_cases hok : NewOk index term L
  · have HOK := hid hok
    have CN := hid (new_ok w.heap.size index term A c L y1.val hsl1 (by omega) hok (by omega) y1.gr.size)
    have CO := hid (fun W (y : Gr w W) => of_any w.heap.size A c L W (HS.out.gr y) (by omega) y.size)
    clear hsl1 hok
    go_wp2_with (first
      | (go_at_call 10
         refine CN.out.mono ?_
         rintro en _ ⟨g, v4, y4, rfl, rfl, hlog, _⟩
         have HLOG := hid hlog
         have G4 := hid (y1.gr.trans y4.gr)
         clear hlog)
      | (go_at_call 14
         refine (CO.out _ G4.out).mono ?_
         rintro en _ ⟨v5, y5, rfl, rfl, ho5⟩
         obtain ⟨A5, c5, rfl, hs5, _⟩ := ho5.shape
         have G5 := hid (G4.out.trans y5.gr)
         have CR := hid (newR_ok w.heap.size index term A5 c5 L y5.val hs5 (by omega) HOK.out (by omega) G5.out.size)
         clear ho5 hs5)
      | (go_at_call 13
         refine CR.out.mono ?_
         rintro en _ ⟨r, v6, y6, rfl, rfl, href, _⟩
         have HREF := hid href
         have G6 := hid (G5.out.trans y6.gr)
         have HLOG6 := hid ((HLOG.out.gr y5.gr).gr y6.gr)
         clear href))
    have HPOS := hid (rs_pos HOK.out.2.2.2)
    have hix0 := HOK.out.1
    go_loopw [13] (fun i wr => ∃ k : Nat, k ≤ acts.length ∧ i = .int .i64 k ∧ Gr w wr ∧ ∃ idx term L, Upto w.heap.size wr g r k idx term L) (fun i _ => acts.length - (intOf i).toNat)
    case atStart => exact ⟨0, Nat.zero_le _, rfl, G6.out, index, term, L, ⟨⟨_, HLOG6.out⟩, ⟨_, HREF.out⟩, HPOS.out, hix0, by omega, by omega⟩⟩
    case round =>
      obtain ⟨k, hk, rfl, hg, idx, term, L, hup⟩ := hrel
      have HG := hid hg
      have HU := hid hup
      have hsz := hg.size
      clear hg hup
      by_cases hlt : k < acts.length
      · obtain ⟨bA, oA, A', c', rfl, hbA, hbA2, d0, d1, d2, d3, d4, d5, d6, d7⟩ := HR.out.at_ hlt
        have HST := hid (step_any w.heap.size g r k idx term (acts.getD k a0) L A' c' wr HU.out (by omega) hsz (d6.gr HG.out) d7)
        obtain ⟨⟨op, ix, own, tm, know, l⟩, hy⟩ : ∃ y, acts.getD k a0 = y := ⟨_, rfl⟩
        rw [hy] at d0 d1 d2 d3 d4 d5 HST
        simp only at d0 d1 d2 d3 d4 d5 HST
        clear hy d6 d7
        have e0 := (HG.out.cell (p := ⟨bA, oA + k * 6, none⟩) hbA2).trans d0
        have e1 := (HG.out.cell (p := ⟨bA, oA + k * 6 + 1, none⟩) hbA2).trans d1
        have e2 := (HG.out.cell (p := ⟨bA, oA + k * 6 + 2, none⟩) hbA2).trans d2
        have e3 := (HG.out.cell (p := ⟨bA, oA + k * 6 + 3, none⟩) hbA2).trans d3
        have e4 := (HG.out.cell (p := ⟨bA, oA + k * 6 + 4, none⟩) hbA2).trans d4
        have e5 := (HG.out.cell (p := ⟨bA, oA + k * 6 + 5, none⟩) hbA2).trans d5
        clear d0 d1 d2 d3 d4 d5
        have hbr : bA < wr.heap.size := by omega
        go_wp2_with (go_at_call 25; refine HST.out.mono ?_; rintro en w2 ⟨rfl, hu2, hm2⟩; have HU2 := hid hu2; have HM2 := hid hm2; clear hu2 hm2)
        go_roundw
        case rel => exact ⟨k + 1, by omega, by go_num, HM2.out.gr (Nat.le_refl _) HG.out, HU2.out⟩
        case measure => simp [intOf]; omega
      · have hke : k = acts.length := by omega
        subst hke
        obtain ⟨v, hv⟩ := HU.out.o
        obtain ⟨vr, hvr⟩ := HU.out.r
        obtain ⟨Av, cv, rfl, hsv, _⟩ := hvr.row.shape
        have r2 : wr.cell? ⟨r, 2, none⟩ = some (.slice Av L.length cv) := by have := hvr.cell 2; simpa using this
        have hrl := hvr.lt
        have HSV := hid hsv
        have HV := hid hv
        have hi0 := HU.out.i0
        have hs1 := HU.out.s1
        have hl1 := HU.out.l1
        have HGA := hid (getL_all idx L hi0 (by omega))
        have hbw : w.heap.size ≤ wr.heap.size := HG.out.size
        clear hv hvr hsv
        go_wp2_with fail
        refine wp_region_noPanic ?_
        refine wp_region_planM [(0, false), (2, false), (3, false), (4, false), (5, false), (1, true), (6, true), (7, true)] (fun w' => w'.cell? ⟨r, 2, none⟩ = some (.slice Av L.length cv)) (by kernel_rfl) (by kernel_rfl) (fun _ _ _ _ _ h => h) r2 (fun hHeld => ?_)
        iterate 5 (refine pm_take (v := ?_) rfl (by rfl) ?_ ?_; rotate_left; (focus (intro W9 hW9; (try dsimp only at hW9); go_simp; (try with_reducible rfl); done)); (try simp only [Act.put, List.setIfInBounds_toArray, List.set_cons_zero, List.set_cons_succ]))
        refine pm_call rfl (by rfl) (fun K hK => ?_)
        go_simp
        go_at_call 18
        refine (get_any w.heap.size g idx term 0 1125899906842624 L v wr.drew (HV.out.gr (Gr.refl wr).drew) hbw).mono ?_
        rintro en _ ⟨u, y7, rfl, rfl, ho7⟩
        rw [HGA.out] at ho7
        obtain ⟨A7, c7, rfl, hs7, _⟩ := ownE_sl ho7
        have HS7 := hid hs7
        have G7 := hid (show Gr wr y7.val from (Gr.refl wr).drew.trans y7.gr)
        clear ho7 hs7
        generalize y7.val = w7 at *
        refine hK.out _ _ _ ((G7.out.cell (p := ⟨r, 2, none⟩) hrl).trans r2) (fun _ h => h) (fun _ => ?_)
        clear hK K hHeld
        (try simp only [Act.put, List.setIfInBounds_toArray, List.set_cons_zero, List.set_cons_succ])
        refine pm_call rfl (by rfl) (fun K hK => ?_)
        go_simp
        go_at_call 26
        refine (same_any w.heap.size A7 Av c7 cv L w7 HS7.out (HSV.out.gr G7.out) (by omega)).mono ?_
        rintro en _ ⟨rfl, y8, rfl⟩
        have G8 := hid (G7.out.trans y8.gr)
        generalize y8.val = w8 at *
        refine hK.out _ _ _ ((G8.out.cell (p := ⟨r, 2, none⟩) hrl).trans r2) (fun _ h => h) (fun _ => ?_)
        clear hK K
        (try simp only [Act.put, List.setIfInBounds_toArray, List.set_cons_zero, List.set_cons_succ])
        refine pm_last rfl (by rfl) (fun K hK => ?_)
        go_simp
        refine hK.out _ _ (NoPanic.normal ?_)
        clear hK K
        go_wp2_with fail
        go_ret
        exact ⟨rfl, HG.out.trans G8.out⟩
  · have HOK := hid hok
    have CN := hid (new_bad w.heap.size index term A c L y1.val hsl1 (by omega) hok)
    have CO := hid (fun W (y : Gr w W) => of_any w.heap.size A c L W (HS.out.gr y) (by omega) y.size)
    clear hsl1 hok
    go_wp2_with (first
      | (go_at_call 10
         refine CN.out.mono ?_
         rintro en _ ⟨rfl, y4, rfl⟩
         have G4 := hid (y1.gr.trans y4.gr))
      | (go_at_call 14
         refine (CO.out _ G4.out).mono ?_
         rintro en _ ⟨v5, y5, rfl, rfl, ho5⟩
         obtain ⟨A5, c5, rfl, hs5, _⟩ := ho5.shape
         have G5 := hid (G4.out.trans y5.gr)
         have CR := hid (newR_bad w.heap.size index term A5 c5 L y5.val hs5 (by omega) HOK.out)
         clear ho5 hs5)
      | (go_at_call 13
         refine CR.out.mono ?_
         rintro en _ ⟨rfl, y6, rfl⟩
         have G6 := hid (G5.out.trans y6.gr)))
    go_ret
    exact ⟨rfl, G6.out⟩
end Go.Proofs.Ythiahnpijdkboaa
