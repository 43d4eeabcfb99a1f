import Derived.Test.YtlencagfkajcnaaR13
import Derived.Test.YtlencagfkajcnaaR14
import Derived.Test.YtlencagfkajcnaaR15
import Derived.Test.YtlencagfkajcnaaR16
import Derived.Test.YtlencagfkajcnaaF1
namespace Go.Proofs.Ytlencagfkajcnaa
open Go.RowKit Go.Ext Go.BigFrame Go.Maps
attribute [local go_sem] Ext.cell Ext.frozen Ext.lt Ext.le s1 s2 s3 s4 s5 s6 t1 t2 t3 t4 t5 t6
attribute [local go_sem ↓] Go.wp_at_zero Go.wp_at_succ

theorem step_any (base g r i : Nat) (nodes op a b sent : Int) (n : Nat) (C : List (Int × Int)) (P : List Pk) (D : Option Addr) (cd : Nat) (bs : List UInt8) (w : World) (h : Upto base w g r nodes i sent n C P) (hi : i ≤ 1000) (hbase : base ≤ w.heap.size) (hd : ∀ W, MB base w W → Bys W (.slice D bs.length cd) bs) :
    Calls Try.prog 17 #[.pointer (some ⟨g, 0, none⟩), .pointer (some ⟨r, 0, none⟩), .agg #[.int .i64 op, .int .i64 a, .int .i64 b, .slice D bs.length cd]] w (RetS base g r nodes i w) := by
  by_cases o1 : op = 1
  · subst o1; exact step1 base g r i nodes a b sent n C P D cd bs w h hi hbase hd
  by_cases o2 : op = 2
  · subst o2; exact step2 base g r i nodes a b sent n C P D cd bs w h hi hbase hd
  by_cases o3 : op = 3
  · subst o3; exact step3 base g r i nodes a b sent n C P D cd bs w h hi hbase hd
  by_cases o4 : op = 4
  · subst o4; exact step4 base g r i nodes a b sent n C P D cd bs w h hi hbase hd
  by_cases o5 : op = 5
  · subst o5
    cases hc : okC nodes a b
    · exact step5b base g r i nodes a b sent n C P D cd bs w h hi hbase hd hc
    · exact step5g base g r i nodes a b sent n C P D cd bs w h hi hbase hd hc
  by_cases o6 : op = 6
  · subst o6; exact step6 base g r i nodes a b sent n C P D cd bs w h hi hbase hd
  by_cases o7 : op = 7
  · subst o7; exact step7 base g r i nodes a b sent n C P D cd bs w h hi hbase hd
  exact stepE base g r i nodes op a b sent n C P D cd bs w h hi hbase hd ⟨o1, o2, o3, o4, o5, o6, o7⟩

theorem MB.cell {base : Nat} {w w' : World} (h : MB base w w') {p : Addr} {v : Value} (hv : w.cell? p = some v) (hp : p.block < base) : w'.cell? p = some v :=
  (World.cell?_of_block (h.block _ (World.block_lt_of_cell? w _ hv) (by omega))).trans hv
theorem Bys.mb {base : Nat} {w0 w w' : World} {v : Value} {bs : List UInt8} (h : Bys w0 v bs) (hb : w0.heap.size ≤ base) (g : Gr w0 w) (m : MB base w w') : Bys w' v bs := h.gr (m.gr hb g)

set_option maxRecDepth 100000 in
set_option maxHeartbeats 8000000 in
theorem plays_any (A : Option Addr) (c : Nat) (acts : List Ac) (nodes : Int) (w : World) (hr : RowC w A acts) (hl : acts.length ≤ 4398046511103) : Calls Try.prog 6 #[.int .i64 nodes, .slice A acts.length c] w (RetE (.bool true) w) := by
  refine retE ?_
  have HR := hid hr
  clear hr
  go_enter Try.func6, Try.ntmps6
  go_wp2_with (go_at_call 7; refine (known_any _).mono ?_; rintro e _ ⟨rfl, y1, rfl⟩)
  refine (few_any A c acts y1.val (HR.out.gr y1.gr) hl).mono ?_
  rintro en _ ⟨rr, rfl, hfew, rfl⟩
  cases rr
  · clear hfew HR
    go_wp2_with fail
    go_ret
    exact ⟨rfl, y1.gr⟩
  have hac : acts.length ≤ 200 := (hfew rfl).1
  clear hfew
  go_wp2_with fail
  refine (new_any nodes y1.val w.heap.size y1.gr.size).mono ?_
  rintro en w4 (⟨hbad, rfl, rfl⟩ | ⟨hgood, g, rfl, hnt, hg4⟩)
  · have HBAD := hid hbad
    clear hbad
    go_wp2_with (go_at_call 16
                 refine (newR_any nodes y1.val w.heap.size y1.gr.size).mono ?_
                 rintro en w5 (⟨_, rfl, rfl⟩ | ⟨hgood, _⟩)
                 rotate_left 1
                 · exact absurd hgood HBAD.out)
    go_ret
    exact ⟨rfl, y1.gr⟩
  have HGOOD := hid hgood
  have HNT := hid hnt
  have G4 := hid (y1.gr.trans hg4)
  clear hgood hnt hg4
  go_wp2_with (go_at_call 16
               refine (newR_any nodes w4 w.heap.size G4.out.size).mono ?_
               rintro en w5 (⟨hbad, _⟩ | ⟨_, r, rfl, hrt, hg5⟩)
               · exact absurd HGOOD.out hbad
               have HRT := hid hrt
               have G5 := hid (G4.out.trans hg5)
               have HNT5 := hid (HNT.out.gr hg5)
               clear hrt hg5)
  go_loopw [9] (fun i wr => ∃ k : Nat, k ≤ acts.length ∧ i = .int .i64 k ∧ Gr w wr ∧ ∃ sent n C P, Upto w.heap.size wr g r nodes k sent n C P) (fun i _ => acts.length - (intOf i).toNat)
  case atStart => exact ⟨0, Nat.zero_le _, rfl, G5.out, 0, 0, [], [], ⟨⟨HNT5.out, HRT.out, fun _ h => by simp at h, Int.le_refl _⟩, Int.le_refl _, Nat.le_refl _, by simp, by simp⟩⟩
  case round =>
    obtain ⟨k, hk, rfl, hg, sent, n, C, P, hup⟩ := hrel
    have HG := hid hg
    have HU := hid hup
    have hsz := hg.size
    clear hg hup HNT HNT5 HRT G4 G5
    by_cases hlt : k < acts.length
    · obtain ⟨bA, oA, A', c', rfl, hbA, d0, d1, d2, d3, d4⟩ := HR.out.at_ hlt
      obtain ⟨⟨op, a, b, bs⟩, hy⟩ : ∃ y, acts.getD k a0 = y := ⟨_, rfl⟩
      rw [hy] at d0 d1 d2 d3 d4
      simp only at d0 d1 d2 d3 d4
      have HY := hid d4
      clear d4 hy
      have hbr : bA < wr.heap.size := by omega
      have e0 := (HG.out.cell (p := ⟨bA, oA + k * 4, none⟩) hbA).trans d0
      have e1 := (HG.out.cell (p := ⟨bA, oA + k * 4 + 1, none⟩) hbA).trans d1
      have e2 := (HG.out.cell (p := ⟨bA, oA + k * 4 + 2, none⟩) hbA).trans d2
      have e3 := (HG.out.cell (p := ⟨bA, oA + k * 4 + 3, none⟩) hbA).trans d3
      clear d0 d1 d2 d3
      have HSA := hid (show ∀ W, MB w.heap.size wr W → (W.cell? ⟨bA, oA + k * 4, none⟩ = some (.int .i64 op) ∧ W.cell? ⟨bA, oA + k * 4 + 1, none⟩ = some (.int .i64 a) ∧ W.cell? ⟨bA, oA + k * 4 + 2, none⟩ = some (.int .i64 b) ∧ W.cell? ⟨bA, oA + k * 4 + 3, none⟩ = some (.slice A' bs.length c')) from fun W m =>
        ⟨m.cell e0 hbA, m.cell e1 hbA, m.cell e2 hbA, m.cell e3 hbA⟩)
      have HST := hid (step_any w.heap.size g r k nodes op a b sent n C P A' c' bs wr.drew (HU.out.gr (Gr.refl wr).drew) (by omega) (by simp; omega) (fun W m => Bys.mb HY.out (Nat.le_refl _) (HG.out.trans (Gr.refl wr).drew) m))
      go_wp2_with fail
      refine wp_region_noPanic ?_
      refine wp_region_planM [(0, false), (1, false), (2, false), (3, false), (4, false), (5, false), (6, true), (7, false), (8, false), (9, false), (11, false), (12, false), (13, false), (14, false), (10, true), (15, true), (16, false), (17, false), (18, false), (19, false), (20, false), (21, false), (22, false), (23, false), (24, false), (25, false), (26, false), (27, false), (28, false), (29, false), (31, false), (32, false), (33, false), (34, false), (35, false), (36, false), (37, false), (38, false), (39, false), (40, false), (41, false), (30, true), (42, true), (43, false), (44, true)] (fun W => W.cell? ⟨bA, oA + k * 4, none⟩ = some (.int .i64 op) ∧ W.cell? ⟨bA, oA + k * 4 + 1, none⟩ = some (.int .i64 a) ∧ W.cell? ⟨bA, oA + k * 4 + 2, none⟩ = some (.int .i64 b) ∧ W.cell? ⟨bA, oA + k * 4 + 3, none⟩ = some (.slice A' bs.length c')) (by kernel_rfl) (by kernel_rfl) (fun _ _ _ _ _ h => h) (HSA.out _ (MB.of_gr (Gr.refl wr).drew)) (fun hHeld => ?_)
      iterate 6 (refine pm_take (v := ?_) rfl (by rfl) ?_ ?_; rotate_left; (focus (intro W9 hW9; (try dsimp only at hW9); go_simp; (try with_reducible rfl); done)); (try simp only [Act.put, List.setIfInBounds_toArray, List.set_cons_zero, List.set_cons_succ]))
      refine pm_call rfl (by rfl) (fun K hK => ?_)
      go_simp
      go_at_call 17
      refine HST.out.mono ?_
      rintro en w2 ⟨rfl, ⟨sent2, n2, C2, P2, hu2⟩, hm2⟩
      have M2 := hid ((MB.of_gr (Gr.refl wr).drew).trans hm2)
      have HU2 := hid hu2
      have GW2 := hid (M2.out.gr (Nat.le_refl _) HG.out)
      obtain ⟨mb, v1, L1, hnb⟩ := hu2.both.nt
      have HNB := hid hnb
      obtain ⟨v2, vc, L2, hrb⟩ := hu2.both.rt
      obtain ⟨A2, c2, rfl⟩ := hrb.shape
      have k2 := hrb.cs.2.2.1
      rw [hrb.dat.len] at k2
      have hr2 := hrb.lt
      have HRB := hid hrb
      obtain ⟨f0, f1, f2, f3⟩ := HSA.out _ M2.out
      have hb2 : bA < w2.heap.size := Nat.lt_of_lt_of_le hbr M2.out.size
      have hP2 : P2.length ≤ 1000000 := by have := hu2.p1; omega
      have hC2 : C2.length ≤ 1000000 := by have := hu2.c1; omega
      refine hK.out (fun W => Gr w2 W) _ _ (Gr.refl w2) (fun W y => HSA.out _ (M2.out.trans (MB.of_gr y))) (fun _ => ?_)
      clear hK K hHeld hu2 hm2 hnb hrb e0 e1 e2 e3
      (try simp only [Act.put, List.setIfInBounds_toArray, List.set_cons_zero, List.set_cons_succ])
      iterate 7 (refine pm_take (v := ?_) rfl (by rfl) ?_ ?_; rotate_left; (focus (intro W9 hW9; obtain ⟨x9, rfl⟩ : ∃ x : Ext w2, W9 = x.val := ⟨⟨W9, hW9⟩, rfl⟩; go_simp; (try with_reducible rfl); done)); (try simp only [Act.put, List.setIfInBounds_toArray, List.set_cons_zero, List.set_cons_succ]))
      refine pm_call rfl (by rfl) (fun K hK => ?_)
      go_simp
      go_at_call 11
      refine (wait_any w.heap.size g n2 nodes sent2 (cutL C2) P2 w2 HU2.out.both.nt hP2).mono ?_
      rintro en _ ⟨u, y5, rfl, rfl, L5, ho5, hd5⟩
      have G5 := hid y5.gr
      generalize y5.val = w5 at *
      have HD5 := hid hd5
      obtain ⟨A5, c5, rfl⟩ := own_shape ho5
      have HRD5 := hid (Rd.of_own ho5)
      rw [hd5.len] at *
      refine hK.out (fun W => Gr w2 W) _ _ G5.out (fun _ h => h) (fun _ => ?_)
      clear hK K ho5 hd5
      (try simp only [Act.put, List.setIfInBounds_toArray, List.set_cons_zero, List.set_cons_succ])
      refine pm_call rfl (by rfl) (fun K hK => ?_)
      go_simp
      go_at_call 18
      refine (same_any A5 A2 c5 c2 L5 L2 P2 w5 HRD5.out (Rd.of_own (HRB.out.gr G5.out).row) (PV.of_dat HD5.out) (PV.of_dat (HRB.out.gr G5.out).dat) hP2).mono ?_
      rintro en _ ⟨rfl, y6, rfl⟩
      have G6 := hid (G5.out.trans y6.gr)
      generalize y6.val = w6 at *
      refine hK.out (fun W => Gr w2 W) _ _ G6.out (fun _ h => h) (fun _ => ?_)
      clear hK K
      (try simp only [Act.put, List.setIfInBounds_toArray, List.set_cons_zero, List.set_cons_succ])
      iterate 25 (refine pm_take (v := ?_) rfl (by rfl) ?_ ?_; rotate_left; (focus (intro W9 hW9; obtain ⟨x9, rfl⟩ : ∃ x : Ext w2, W9 = x.val := ⟨⟨W9, hW9⟩, rfl⟩; go_simp; (try with_reducible rfl); done)); (try simp only [Act.put, List.setIfInBounds_toArray, List.set_cons_zero, List.set_cons_succ]))
      refine pm_call rfl (by rfl) (fun K hK => ?_)
      go_simp
      go_at_call 19
      have hn6 := HNB.out.gr G6.out
      refine (open_any g mb n2 nodes a b (cutL C2) w6 hn6.cs.1 hn6.cs.2.1 hn6.mp hn6.hn.2).mono ?_
      rintro en _ ⟨rfl, y7, rfl⟩
      have G7 := hid (G6.out.trans y7.gr)
      generalize y7.val = w7 at *
      refine hK.out (fun W => Gr w2 W) _ _ G7.out (fun _ h => h) (fun _ => ?_)
      clear hK K hn6
      (try simp only [Act.put, List.setIfInBounds_toArray, List.set_cons_zero, List.set_cons_succ])
      refine pm_call rfl (by rfl) (fun K hK => ?_)
      go_simp
      go_at_call 20
      refine (openR_any w.heap.size r nodes sent2 a b _ vc L2 C2 P2 w7 (HRB.out.gr G7.out) hC2).mono ?_
      rintro en _ ⟨rfl, y8, rfl⟩
      have G8 := hid (G7.out.trans y8.gr)
      generalize y8.val = w8 at *
      refine hK.out (fun W => Gr w2 W) _ _ G8.out (fun _ h => h) (fun _ => ?_)
      clear hK K
      (try simp only [Act.put, List.setIfInBounds_toArray, List.set_cons_zero, List.set_cons_succ])
      iterate 1 (refine pm_take (v := ?_) rfl (by rfl) ?_ ?_; rotate_left; (focus (intro W9 hW9; obtain ⟨x9, rfl⟩ : ∃ x : Ext w2, W9 = x.val := ⟨⟨W9, hW9⟩, rfl⟩; go_simp; (try with_reducible rfl); done)); (try simp only [Act.put, List.setIfInBounds_toArray, List.set_cons_zero, List.set_cons_succ]))
      refine pm_last rfl (by rfl) (fun K hK => ?_)
      go_simp
      refine hK.out _ _ (NoPanic.normal ?_)
      clear hK K
      go_wp2_with fail
      go_roundw
      case rel => exact ⟨k + 1, by omega, by go_num, GW2.out.trans G8.out, sent2, n2, C2, P2, HU2.out.gr G8.out⟩
      case measure => simp [intOf]; omega
    · have hke : k = acts.length := by omega
      subst hke
      go_wp2_with fail
      go_ret
      exact ⟨rfl, HG.out⟩
end Go.Proofs.Ytlencagfkajcnaa
