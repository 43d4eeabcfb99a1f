import Derived.Test.YtlencagfkajcnaaR12
import Derived.Test.YtlencagfkajcnaaPlan2
namespace Go.Proofs.Ytlencagfkajcnaa
open Go.RowKit Go.Ext Go.BigFrame Go.Maps
attribute [local go_sem] Ext.cell Ext.frozen Ext.lt Ext.le s1 s2 s3 s4 s5 s6 t1 t2 t3 t4 t5 t6
attribute [local go_sem ↓] Go.wp_at_zero Go.wp_at_succ

set_option maxRecDepth 100000 in
set_option maxHeartbeats 4000000 in
theorem step5g (base g r i : Nat) (nodes a b sent : Int) (n : Nat) (C : List (Int × Int)) (P : List Pk) (D : Option Addr) (cd : Nat) (bs : List UInt8) (w : World) (h : Upto base w g r nodes i sent n C P) (hi : i ≤ 1000) (hbase : base ≤ w.heap.size) (hd : ∀ W, MB base w W → Bys W (.slice D bs.length cd) bs) (hc : okC nodes a b = true) :
    Calls Try.prog 17 #[.pointer (some ⟨g, 0, none⟩), .pointer (some ⟨r, 0, none⟩), .agg #[.int .i64 5, .int .i64 a, .int .i64 b, .slice D bs.length cd]] w (RetS base g r nodes i w) := by
  obtain ⟨⟨hnt, hrt, hok, hs0⟩, hs1, hn1, hc1, hp1⟩ := h
  have HN := hid hnt
  have HR := hid hrt
  have HD := hid hd
  have HOK := hid hok
  have hsi : sent ≤ 1000000 := by omega
  have hni : n ≤ 1000000 := by omega
  have hci : C.length ≤ 1000000 := by omega
  have hpi : P.length ≤ 1000000 := by omega
  clear hnt hrt hd hok
  have HC := hid hc
  clear hc
  go_enter Try.func17, Try.ntmps17
  go_wp2_with fail
  have HB := hid (heap_alloc_new w (.cells #[.int .i64 5, .int .i64 a, .int .i64 b, .slice D bs.length cd] 41))
  have G1 := hid ((Gr.refl w).alloc (.cells #[.int .i64 5, .int .i64 a, .int .i64 b, .slice D bs.length cd] 41))
  generalize w.alloc (.cells #[.int .i64 5, .int .i64 a, .int .i64 b, .slice D bs.length cd] 41) = W1 at *
  have HS := hid (show ∀ W : World, W.heap[w.heap.size]? = some (.cells #[.int .i64 5, .int .i64 a, .int .i64 b, .slice D bs.length cd] 41 (0, 0)) → (W.cell? ⟨w.heap.size, 1, none⟩ = some (.int .i64 a) ∧ W.cell? ⟨w.heap.size, 2, none⟩ = some (.int .i64 b) ∧ W.cell? ⟨w.heap.size, 3, none⟩ = some (.slice D bs.length cd)) from fun W h => by
    obtain ⟨_, c1, c2, c3, _⟩ := heap4 h
    exact ⟨c1, c2, c3⟩)
  refine wp_region_noPanic ?_
  refine wp_region_planM [(0, false), (1, false), (2, false), (3, false), (4, false), (6, false), (7, false), (8, false), (9, false), (10, false), (5, true), (11, true), (12, false), (13, true)] (fun w' => w'.cell? ⟨w.heap.size, 1, none⟩ = some (.int .i64 a) ∧ w'.cell? ⟨w.heap.size, 2, none⟩ = some (.int .i64 b) ∧ w'.cell? ⟨w.heap.size, 3, none⟩ = some (.slice D bs.length cd)) (by kernel_rfl) (by kernel_rfl) (fun _ _ _ _ _ h => h) (HS.out _ HB.out) (fun hHeld => ?_)
  iterate 10 (refine pm_take (v := ?_) rfl (by rfl) ?_ ?_; rotate_left; (focus (intro W9 hW9; (try dsimp only at hW9); go_simp; (try with_reducible rfl); done)); (try simp only [Act.put, List.setIfInBounds_toArray, List.set_cons_zero, List.set_cons_succ]))
  refine pm_call rfl (by rfl) (fun K hK => ?_)
  go_simp
  go_at_call 14
  refine (cut_good base g n nodes sent a b (cutL C) P W1.drew (HN.out.gr (G1.out.trans (Gr.refl W1).drew)) HC.out hpi hni).mono ?_
  rintro en w2 ⟨rfl, hn2, hm2⟩
  have HN2 := hid hn2
  have M2 := hid hm2
  have HB2 := hid (hm2.keep (w := W1.drew) HB.out (by decide) (by decide))
  have G2 := hid ((MB.of_gr (G1.out.trans (Gr.refl W1).drew)).trans hm2.mb)
  have HR2 := hid ((HR.out.gr (G1.out.trans (Gr.refl W1).drew)).ours hm2)
  refine hK.out _ _ _ (HS.out _ HB2.out) (fun _ h => h) (fun _ => ?_)
  clear hK K hn2 hm2 hHeld
  (try simp only [Act.put, List.setIfInBounds_toArray, List.set_cons_zero, List.set_cons_succ])
  refine pm_call rfl (by rfl) (fun K hK => ?_)
  go_simp
  go_at_call 37
  refine (cutR_good base r nodes sent a b C P w2 HR2.out HC.out hpi hci (Nat.le_trans hbase G2.out.size)).mono ?_
  rintro en w3 ⟨rfl, hn3, hm3⟩
  have HR3 := hid hn3
  have M3 := hid hm3
  have HB3 := hid (hm3.keep HB2.out (by decide) (by decide) (by decide))
  refine hK.out _ _ _ (HS.out _ HB3.out) (fun _ h => h) (fun _ => ?_)
  clear hK K hn3 hm3
  (try simp only [Act.put, List.setIfInBounds_toArray, List.set_cons_zero, List.set_cons_succ])
  iterate 1 (refine pm_take (v := ?_) rfl (by rfl) ?_ ?_; rotate_left; (focus (intro W9 hW9; (try dsimp only at hW9); go_simp; (try with_reducible rfl); done)); (try simp only [Act.put, List.setIfInBounds_toArray, List.set_cons_zero, List.set_cons_succ]))
  refine pm_last rfl (by rfl) (fun K hK => ?_)
  go_simp
  refine hK.out _ _ (NoPanic.normal ?_)
  clear hK K
  go_wp2_with fail
  go_ret
  have M := G2.out.trans M3.out.mb
  have HN3 := HN2.out.theirs M3.out
  have q3 := cutC_len nodes C a b
  have q4 : (P.filter fun p => !qC a b p).length ≤ P.length := List.length_filter_le _ _
  refine ⟨rfl, ⟨sent, n + 1, cutC nodes C a b, _, ⟨⟨?_, HR3.out, HOK.out.filter _, hs0⟩, by omega, by omega, by omega, by omega⟩⟩, M⟩
  rw [cutC_cut nodes C a b HC.out]
  exact HN3

set_option maxRecDepth 100000 in
set_option maxHeartbeats 4000000 in
theorem step5b (base g r i : Nat) (nodes a b sent : Int) (n : Nat) (C : List (Int × Int)) (P : List Pk) (D : Option Addr) (cd : Nat) (bs : List UInt8) (w : World) (h : Upto base w g r nodes i sent n C P) (hi : i ≤ 1000) (_hbase : base ≤ w.heap.size) (hd : ∀ W, MB base w W → Bys W (.slice D bs.length cd) bs) (hc : okC nodes a b = false) :
    Calls Try.prog 17 #[.pointer (some ⟨g, 0, none⟩), .pointer (some ⟨r, 0, none⟩), .agg #[.int .i64 5, .int .i64 a, .int .i64 b, .slice D bs.length cd]] w (RetS base g r nodes i w) := by
  obtain ⟨⟨hnt, hrt, hok, hs0⟩, hs1, hn1, hc1, hp1⟩ := h
  have HN := hid hnt
  have HR := hid hrt
  have HD := hid hd
  have HOK := hid hok
  have hsi : sent ≤ 1000000 := by omega
  have hni : n ≤ 1000000 := by omega
  have hci : C.length ≤ 1000000 := by omega
  have hpi : P.length ≤ 1000000 := by omega
  clear hnt hrt hd hok
  have HC := hid hc
  clear hc
  go_enter Try.func17, Try.ntmps17
  go_wp2_with fail
  have HB := hid (heap_alloc_new w (.cells #[.int .i64 5, .int .i64 a, .int .i64 b, .slice D bs.length cd] 41))
  have G1 := hid ((Gr.refl w).alloc (.cells #[.int .i64 5, .int .i64 a, .int .i64 b, .slice D bs.length cd] 41))
  generalize w.alloc (.cells #[.int .i64 5, .int .i64 a, .int .i64 b, .slice D bs.length cd] 41) = W1 at *
  have HS := hid (show ∀ W : World, W.heap[w.heap.size]? = some (.cells #[.int .i64 5, .int .i64 a, .int .i64 b, .slice D bs.length cd] 41 (0, 0)) → (W.cell? ⟨w.heap.size, 1, none⟩ = some (.int .i64 a) ∧ W.cell? ⟨w.heap.size, 2, none⟩ = some (.int .i64 b) ∧ W.cell? ⟨w.heap.size, 3, none⟩ = some (.slice D bs.length cd)) from fun W h => by
    obtain ⟨_, c1, c2, c3, _⟩ := heap4 h
    exact ⟨c1, c2, c3⟩)
  refine wp_region_noPanic ?_
  refine wp_region_planM [(0, false), (1, false), (2, false), (3, false), (4, false), (6, false), (7, false), (8, false), (9, false), (10, false), (5, true), (11, true), (12, false), (13, true)] (fun w' => w'.cell? ⟨w.heap.size, 1, none⟩ = some (.int .i64 a) ∧ w'.cell? ⟨w.heap.size, 2, none⟩ = some (.int .i64 b) ∧ w'.cell? ⟨w.heap.size, 3, none⟩ = some (.slice D bs.length cd)) (by kernel_rfl) (by kernel_rfl) (fun _ _ _ _ _ h => h) (HS.out _ HB.out) (fun hHeld => ?_)
  iterate 10 (refine pm_take (v := ?_) rfl (by rfl) ?_ ?_; rotate_left; (focus (intro W9 hW9; (try dsimp only at hW9); go_simp; (try with_reducible rfl); done)); (try simp only [Act.put, List.setIfInBounds_toArray, List.set_cons_zero, List.set_cons_succ]))
  refine pm_call rfl (by rfl) (fun K hK => ?_)
  go_simp
  go_at_call 14
  refine (cut_bad base g n nodes sent a b (cutL C) P W1.drew (HN.out.gr (G1.out.trans (Gr.refl W1).drew)) HC.out).mono ?_
  rintro en w2 ⟨rfl, hn2, hm2⟩
  have HN2 := hid hn2
  have M2 := hid hm2
  have HB2 := hid (hm2.keep (w := W1.drew) HB.out (by decide) (by decide))
  have G2 := hid ((MB.of_gr (G1.out.trans (Gr.refl W1).drew)).trans hm2.mb)
  have HR2 := hid ((HR.out.gr (G1.out.trans (Gr.refl W1).drew)).ours hm2)
  refine hK.out _ _ _ (HS.out _ HB2.out) (fun _ h => h) (fun _ => ?_)
  clear hK K hn2 hm2 hHeld
  (try simp only [Act.put, List.setIfInBounds_toArray, List.set_cons_zero, List.set_cons_succ])
  refine pm_call rfl (by rfl) (fun K hK => ?_)
  go_simp
  go_at_call 37
  refine (cutR_bad base r nodes sent a b C P w2 HR2.out HC.out).mono ?_
  rintro en w3 ⟨rfl, hn3, hm3⟩
  have HR3 := hid hn3
  have M3 := hid hm3
  have HB3 := hid (hm3.keep HB2.out (by decide) (by decide) (by decide))
  refine hK.out _ _ _ (HS.out _ HB3.out) (fun _ h => h) (fun _ => ?_)
  clear hK K hn3 hm3
  (try simp only [Act.put, List.setIfInBounds_toArray, List.set_cons_zero, List.set_cons_succ])
  iterate 1 (refine pm_take (v := ?_) rfl (by rfl) ?_ ?_; rotate_left; (focus (intro W9 hW9; (try dsimp only at hW9); go_simp; (try with_reducible rfl); done)); (try simp only [Act.put, List.setIfInBounds_toArray, List.set_cons_zero, List.set_cons_succ]))
  refine pm_last rfl (by rfl) (fun K hK => ?_)
  go_simp
  refine hK.out _ _ (NoPanic.normal ?_)
  clear hK K
  go_wp2_with fail
  go_ret
  have M := G2.out.trans M3.out.mb
  have HN3 := HN2.out.theirs M3.out
  exact ⟨rfl, ⟨sent, n, C, P, ⟨⟨HN3, HR3.out, HOK.out, hs0⟩, by omega, by omega, by omega, by omega⟩⟩, M⟩

theorem clr_eq {nodes a : Int} {P : List Pk} (h : OkP nodes P) : clrF nodes a P = P.filter fun p => !qK a p := by
  unfold clrF
  by_cases e : isN nodes a = true
  · rw [if_pos e]
  · rw [if_neg e]
    refine (List.filter_eq_self.2 fun p hp => ?_).symm
    unfold qK
    by_cases e2 : p.2.1 = a
    · exact absurd (e2 ▸ (h p hp).2) e
    · simp [e2]

set_option maxRecDepth 100000 in
set_option maxHeartbeats 4000000 in
theorem step7 (base g r i : Nat) (nodes a b sent : Int) (n : Nat) (C : List (Int × Int)) (P : List Pk) (D : Option Addr) (cd : Nat) (bs : List UInt8) (w : World) (h : Upto base w g r nodes i sent n C P) (hi : i ≤ 1000) (hbase : base ≤ w.heap.size) (hd : ∀ W, MB base w W → Bys W (.slice D bs.length cd) bs) :
    Calls Try.prog 17 #[.pointer (some ⟨g, 0, none⟩), .pointer (some ⟨r, 0, none⟩), .agg #[.int .i64 7, .int .i64 a, .int .i64 b, .slice D bs.length cd]] w (RetS base g r nodes i w) := by
  obtain ⟨⟨hnt, hrt, hok, hs0⟩, hs1, hn1, hc1, hp1⟩ := h
  have HN := hid hnt
  have HR := hid hrt
  have HD := hid hd
  have HOK := hid hok
  have hsi : sent ≤ 1000000 := by omega
  have hni : n ≤ 1000000 := by omega
  have hci : C.length ≤ 1000000 := by omega
  have hpi : P.length ≤ 1000000 := by omega
  clear hnt hrt hd hok
  have HCE := hid (clr_eq (a := a) HOK.out)
  go_enter Try.func17, Try.ntmps17
  go_wp2_with fail
  have HB := hid (heap_alloc_new w (.cells #[.int .i64 7, .int .i64 a, .int .i64 b, .slice D bs.length cd] 41))
  have G1 := hid ((Gr.refl w).alloc (.cells #[.int .i64 7, .int .i64 a, .int .i64 b, .slice D bs.length cd] 41))
  generalize w.alloc (.cells #[.int .i64 7, .int .i64 a, .int .i64 b, .slice D bs.length cd] 41) = W1 at *
  have HS := hid (show ∀ W : World, W.heap[w.heap.size]? = some (.cells #[.int .i64 7, .int .i64 a, .int .i64 b, .slice D bs.length cd] 41 (0, 0)) → (W.cell? ⟨w.heap.size, 1, none⟩ = some (.int .i64 a) ∧ W.cell? ⟨w.heap.size, 2, none⟩ = some (.int .i64 b) ∧ W.cell? ⟨w.heap.size, 3, none⟩ = some (.slice D bs.length cd)) from fun W h => by
    obtain ⟨_, c1, c2, c3, _⟩ := heap4 h
    exact ⟨c1, c2, c3⟩)
  refine wp_region_noPanic ?_
  refine wp_region_planM [(0, false), (1, false), (2, false), (4, false), (5, false), (6, false), (3, true), (7, true), (8, false), (9, true)] (fun w' => w'.cell? ⟨w.heap.size, 1, none⟩ = some (.int .i64 a) ∧ w'.cell? ⟨w.heap.size, 2, none⟩ = some (.int .i64 b) ∧ w'.cell? ⟨w.heap.size, 3, none⟩ = some (.slice D bs.length cd)) (by kernel_rfl) (by kernel_rfl) (fun _ _ _ _ _ h => h) (HS.out _ HB.out) (fun hHeld => ?_)
  iterate 6 (refine pm_take (v := ?_) rfl (by rfl) ?_ ?_; rotate_left; (focus (intro W9 hW9; (try dsimp only at hW9); go_simp; (try with_reducible rfl); done)); (try simp only [Act.put, List.setIfInBounds_toArray, List.set_cons_zero, List.set_cons_succ]))
  refine pm_call rfl (by rfl) (fun K hK => ?_)
  go_simp
  go_at_call 15
  refine (clear_any base g n nodes sent a (cutL C) P W1.drew (HN.out.gr (G1.out.trans (Gr.refl W1).drew)) hpi).mono ?_
  rintro en w2 ⟨rfl, hn2, hm2⟩
  have HN2 := hid hn2
  have M2 := hid hm2
  have HB2 := hid (hm2.keep (w := W1.drew) HB.out (by decide) (by decide))
  have G2 := hid ((MB.of_gr (G1.out.trans (Gr.refl W1).drew)).trans hm2.mb)
  have HR2 := hid ((HR.out.gr (G1.out.trans (Gr.refl W1).drew)).ours hm2)
  refine hK.out _ _ _ (HS.out _ HB2.out) (fun _ h => h) (fun _ => ?_)
  clear hK K hn2 hm2 hHeld
  (try simp only [Act.put, List.setIfInBounds_toArray, List.set_cons_zero, List.set_cons_succ])
  refine pm_call rfl (by rfl) (fun K hK => ?_)
  go_simp
  go_at_call 39
  refine ((by have := clearR_any base r nodes sent a C P w2 HR2.out HOK.out.nn hpi (Nat.le_trans hbase G2.out.size); rw [HCE.out] at this; exact this : Calls Try.prog 39 #[.pointer (some ⟨r, 0, none⟩), .int .i64 a] w2 (RetR base r nodes sent C (P.filter fun p => !qK a p) (.int .i64 (P.length - (P.filter fun p => !qK a p).length)) w2))).mono ?_
  rintro en w3 ⟨rfl, hn3, hm3⟩
  have HR3 := hid hn3
  have M3 := hid hm3
  have HB3 := hid (hm3.keep HB2.out (by decide) (by decide) (by decide))
  refine hK.out _ _ _ (HS.out _ HB3.out) (fun _ h => h) (fun _ => ?_)
  clear hK K hn3 hm3
  (try simp only [Act.put, List.setIfInBounds_toArray, List.set_cons_zero, List.set_cons_succ])
  iterate 1 (refine pm_take (v := ?_) rfl (by rfl) ?_ ?_; rotate_left; (focus (intro W9 hW9; (try dsimp only at hW9); go_simp; (try with_reducible rfl); done)); (try simp only [Act.put, List.setIfInBounds_toArray, List.set_cons_zero, List.set_cons_succ]))
  refine pm_last rfl (by rfl) (fun K hK => ?_)
  go_simp
  refine hK.out _ _ (NoPanic.normal ?_)
  clear hK K
  go_wp2_with fail
  go_ret
  have M := G2.out.trans M3.out.mb
  have HN3 := HN2.out.theirs M3.out
  have q4 : (P.filter fun p => !qK a p).length ≤ P.length := List.length_filter_le _ _
  exact ⟨rfl, ⟨sent, n, C, _, ⟨⟨HN3, HR3.out, HOK.out.filter _, hs0⟩, by omega, by omega, by omega, by omega⟩⟩, M⟩
end Go.Proofs.Ytlencagfkajcnaa
