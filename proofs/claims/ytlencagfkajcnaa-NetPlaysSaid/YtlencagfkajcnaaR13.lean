import Derived.Test.YtlencagfkajcnaaR12
import Derived.Test.YtlencagfkajcnaaR3
import Derived.Test.YtlencagfkajcnaaPlan2
namespace Go.Proofs.Ytlencagfkajcnaa
open Go.RowKit Go.Ext Go.BigFrame Go.Maps
attribute [local go_sem] Ext.cell Ext.frozen Ext.lt Ext.le s1 s2 s3 s4 s5 s6 t1 t2 t3 t4 t5 t6
attribute [local go_sem ↓] Go.wp_at_zero Go.wp_at_succ

theorem sendF_len (nodes sent : Int) (S : Int × Int → Bool) (P : List Pk) (f t : Int) (bs : List UInt8) : (sendF nodes sent S P f t bs).2.1.length ≤ P.length + 1 := by
  unfold sendF
  split
  · split
    · simp
    · simp only; split <;> simp
  · simp
theorem sendF_sent (nodes sent : Int) (S : Int × Int → Bool) (P : List Pk) (f t : Int) (bs : List UInt8) : sent ≤ (sendF nodes sent S P f t bs).2.2 ∧ (sendF nodes sent S P f t bs).2.2 ≤ sent + 1 := by
  unfold sendF
  split
  · split
    · simp only; omega
    · simp only; omega
  · simp only; omega
theorem OkP.send {nodes : Int} {P : List Pk} (h : OkP nodes P) (sent : Int) (S : Int × Int → Bool) (f t : Int) (bs : List UInt8) : OkP nodes (sendF nodes sent S P f t bs).2.1 := by
  unfold sendF
  split
  · rename_i hn
    simp only [Bool.and_eq_true] at hn
    split
    · exact h
    · simp only
      split
      · intro p hp
        rcases List.mem_append.1 hp with hp | hp
        · exact h p hp
        · simp only [List.mem_singleton] at hp
          subst hp
          exact hn
      · exact h
  · exact h
theorem againP_len (P : List Pk) (k : Int) : (againP P k).length ≤ P.length + 1 := by
  unfold againP
  split
  · split
    · omega
    · unfold dupF; simp only [List.length_append, List.length_take, List.length_cons, List.length_drop]; omega
  · omega
theorem OkP.again {nodes : Int} {P : List Pk} (h : OkP nodes P) (k : Int) : OkP nodes (againP P k) := by
  unfold againP
  split
  · rename_i hok
    obtain ⟨i, rfl, hi⟩ := okN_yes hok
    split
    · exact h
    · refine h.sub fun p hp => ?_
      unfold dupF at hp
      rcases List.mem_append.1 hp with hp | hp
      · exact List.mem_of_mem_take hp
      · rcases List.mem_cons.1 hp with hp | hp
        · subst hp
          simp only [Int.toNat_natCast]
          rw [List.getD, List.getElem?_eq_getElem hi]
          exact List.getElem_mem hi
        · exact List.mem_of_mem_drop hp
  · exact h

set_option maxRecDepth 100000 in
set_option maxHeartbeats 4000000 in
theorem step1 (base g r i : Nat) (nodes a b sent : Int) (n : Nat) (C : List (Int × Int)) (P : List Pk) (D : Option Addr) (cd : Nat) (bs : List UInt8) (w : World) (h : Upto base w g r nodes i sent n C P) (hi : i ≤ 1000) (hbase : base ≤ w.heap.size) (hd : ∀ W, MB base w W → Bys W (.slice D bs.length cd) bs) :
    Calls Try.prog 17 #[.pointer (some ⟨g, 0, none⟩), .pointer (some ⟨r, 0, none⟩), .agg #[.int .i64 1, .int .i64 a, .int .i64 b, .slice D bs.length cd]] w (RetS base g r nodes i w) := by
  obtain ⟨⟨hnt, hrt, hok, hs0⟩, hs1, hn1, hc1, hp1⟩ := h
  have HN := hid hnt
  have HR := hid hrt
  have HD := hid hd
  have HOK := hid hok
  have hsi : sent ≤ 1000000 := by omega
  have hni : n ≤ 1000000 := by omega
  have hci : C.length ≤ 1000000 := by omega
  have hpi : P.length ≤ 1000000 := by omega
  clear hnt hrt hd hok
  go_enter Try.func17, Try.ntmps17
  go_wp2_with fail
  have HB := hid (heap_alloc_new w (.cells #[.int .i64 1, .int .i64 a, .int .i64 b, .slice D bs.length cd] 41))
  have G1 := hid ((Gr.refl w).alloc (.cells #[.int .i64 1, .int .i64 a, .int .i64 b, .slice D bs.length cd] 41))
  generalize w.alloc (.cells #[.int .i64 1, .int .i64 a, .int .i64 b, .slice D bs.length cd] 41) = W1 at *
  have HS := hid (show ∀ W : World, W.heap[w.heap.size]? = some (.cells #[.int .i64 1, .int .i64 a, .int .i64 b, .slice D bs.length cd] 41 (0, 0)) → (W.cell? ⟨w.heap.size, 1, none⟩ = some (.int .i64 a) ∧ W.cell? ⟨w.heap.size, 2, none⟩ = some (.int .i64 b) ∧ W.cell? ⟨w.heap.size, 3, none⟩ = some (.slice D bs.length cd)) from fun W h => by
    obtain ⟨_, c1, c2, c3, _⟩ := heap4 h
    exact ⟨c1, c2, c3⟩)
  refine wp_region_noPanic ?_
  refine wp_region_planM [(0, false), (1, false), (2, false), (3, false), (4, false), (5, false), (6, false), (8, false), (9, false), (10, false), (11, false), (12, false), (13, false), (14, false), (7, true), (15, true), (16, false), (17, true)] (fun w' => w'.cell? ⟨w.heap.size, 1, none⟩ = some (.int .i64 a) ∧ w'.cell? ⟨w.heap.size, 2, none⟩ = some (.int .i64 b) ∧ w'.cell? ⟨w.heap.size, 3, none⟩ = some (.slice D bs.length cd)) (by kernel_rfl) (by kernel_rfl) (fun _ _ _ _ _ h => h) (HS.out _ HB.out) (fun hHeld => ?_)
  iterate 14 (refine pm_take (v := ?_) rfl (by rfl) ?_ ?_; rotate_left; (focus (intro W9 hW9; (try dsimp only at hW9); go_simp; (try with_reducible rfl); done)); (try simp only [Act.put, List.setIfInBounds_toArray, List.set_cons_zero, List.set_cons_succ]))
  refine pm_call rfl (by rfl) (fun K hK => ?_)
  go_simp
  go_at_call 9
  refine (send_any base g n nodes sent a b (cutL C) P (.slice D bs.length cd) bs W1.drew (HN.out.gr (G1.out.trans (Gr.refl W1).drew)) (HD.out _ (MB.of_gr (G1.out.trans (Gr.refl W1).drew))) hpi ⟨hs0, hsi⟩ (Nat.le_trans hbase (G1.out.trans (Gr.refl W1).drew).size)).mono ?_
  rintro en w2 ⟨rfl, hn2, hm2⟩
  have HN2 := hid hn2
  have M2 := hid hm2
  have HB2 := hid (hm2.keep (w := W1.drew) HB.out (by decide) (by decide))
  have G2 := hid ((MB.of_gr (G1.out.trans (Gr.refl W1).drew)).trans hm2.mb)
  have HR2 := hid ((HR.out.gr (G1.out.trans (Gr.refl W1).drew)).ours hm2)
  refine hK.out _ _ _ (HS.out _ HB2.out) (fun _ h => h) (fun _ => ?_)
  clear hK K hn2 hm2 hHeld
  (try simp only [Act.put, List.setIfInBounds_toArray, List.set_cons_zero, List.set_cons_succ])
  refine pm_call rfl (by rfl) (fun K hK => ?_)
  go_simp
  go_at_call 33
  refine (sendR_any base r nodes sent a b C P (.slice D bs.length cd) bs w2 HR2.out (HD.out _ G2.out) hpi hci ⟨hs0, hsi⟩ (Nat.le_trans hbase G2.out.size)).mono ?_
  rintro en w3 ⟨rfl, hn3, hm3⟩
  have HR3 := hid hn3
  have M3 := hid hm3
  have HB3 := hid (hm3.keep HB2.out (by decide) (by decide) (by decide))
  refine hK.out _ _ _ (HS.out _ HB3.out) (fun _ h => h) (fun _ => ?_)
  clear hK K hn3 hm3
  (try simp only [Act.put, List.setIfInBounds_toArray, List.set_cons_zero, List.set_cons_succ])
  iterate 1 (refine pm_take (v := ?_) rfl (by rfl) ?_ ?_; rotate_left; (focus (intro W9 hW9; (try dsimp only at hW9); go_simp; (try with_reducible rfl); done)); (try simp only [Act.put, List.setIfInBounds_toArray, List.set_cons_zero, List.set_cons_succ]))
  refine pm_last rfl (by rfl) (fun K hK => ?_)
  go_simp
  refine hK.out _ _ (NoPanic.normal ?_)
  clear hK K
  go_wp2_with fail
  go_ret
  have M := G2.out.trans M3.out.mb
  have HN3 := HN2.out.theirs M3.out
  obtain ⟨q1, q2⟩ := sendF_sent nodes sent (cutL C) P a b bs
  have q3 := sendF_len nodes sent (cutL C) P a b bs
  exact ⟨rfl, ⟨_, n, C, _, ⟨⟨HN3, HR3.out, HOK.out.send _ _ _ _ _, by omega⟩, by omega, by omega, by omega, by omega⟩⟩, M⟩

set_option maxRecDepth 100000 in
set_option maxHeartbeats 4000000 in
theorem step4 (base g r i : Nat) (nodes a b sent : Int) (n : Nat) (C : List (Int × Int)) (P : List Pk) (D : Option Addr) (cd : Nat) (bs : List UInt8) (w : World) (h : Upto base w g r nodes i sent n C P) (hi : i ≤ 1000) (hbase : base ≤ w.heap.size) (hd : ∀ W, MB base w W → Bys W (.slice D bs.length cd) bs) :
    Calls Try.prog 17 #[.pointer (some ⟨g, 0, none⟩), .pointer (some ⟨r, 0, none⟩), .agg #[.int .i64 4, .int .i64 a, .int .i64 b, .slice D bs.length cd]] w (RetS base g r nodes i w) := by
  obtain ⟨⟨hnt, hrt, hok, hs0⟩, hs1, hn1, hc1, hp1⟩ := h
  have HN := hid hnt
  have HR := hid hrt
  have HD := hid hd
  have HOK := hid hok
  have hsi : sent ≤ 1000000 := by omega
  have hni : n ≤ 1000000 := by omega
  have hci : C.length ≤ 1000000 := by omega
  have hpi : P.length ≤ 1000000 := by omega
  clear hnt hrt hd hok
  go_enter Try.func17, Try.ntmps17
  go_wp2_with fail
  have HB := hid (heap_alloc_new w (.cells #[.int .i64 4, .int .i64 a, .int .i64 b, .slice D bs.length cd] 41))
  have G1 := hid ((Gr.refl w).alloc (.cells #[.int .i64 4, .int .i64 a, .int .i64 b, .slice D bs.length cd] 41))
  generalize w.alloc (.cells #[.int .i64 4, .int .i64 a, .int .i64 b, .slice D bs.length cd] 41) = W1 at *
  have HS := hid (show ∀ W : World, W.heap[w.heap.size]? = some (.cells #[.int .i64 4, .int .i64 a, .int .i64 b, .slice D bs.length cd] 41 (0, 0)) → (W.cell? ⟨w.heap.size, 1, none⟩ = some (.int .i64 a) ∧ W.cell? ⟨w.heap.size, 2, none⟩ = some (.int .i64 b) ∧ W.cell? ⟨w.heap.size, 3, none⟩ = some (.slice D bs.length cd)) from fun W h => by
    obtain ⟨_, c1, c2, c3, _⟩ := heap4 h
    exact ⟨c1, c2, c3⟩)
  refine wp_region_noPanic ?_
  refine wp_region_planM [(0, false), (1, false), (2, false), (4, false), (5, false), (6, false), (3, true), (7, true), (8, false), (9, true)] (fun w' => w'.cell? ⟨w.heap.size, 1, none⟩ = some (.int .i64 a) ∧ w'.cell? ⟨w.heap.size, 2, none⟩ = some (.int .i64 b) ∧ w'.cell? ⟨w.heap.size, 3, none⟩ = some (.slice D bs.length cd)) (by kernel_rfl) (by kernel_rfl) (fun _ _ _ _ _ h => h) (HS.out _ HB.out) (fun hHeld => ?_)
  iterate 6 (refine pm_take (v := ?_) rfl (by rfl) ?_ ?_; rotate_left; (focus (intro W9 hW9; (try dsimp only at hW9); go_simp; (try with_reducible rfl); done)); (try simp only [Act.put, List.setIfInBounds_toArray, List.set_cons_zero, List.set_cons_succ]))
  refine pm_call rfl (by rfl) (fun K hK => ?_)
  go_simp
  go_at_call 10
  refine (again_any base g n nodes sent a (cutL C) P W1.drew (HN.out.gr (G1.out.trans (Gr.refl W1).drew)) hpi).mono ?_
  rintro en w2 ⟨rfl, hn2, hm2⟩
  have HN2 := hid hn2
  have M2 := hid hm2
  have HB2 := hid (hm2.keep (w := W1.drew) HB.out (by decide) (by decide))
  have G2 := hid ((MB.of_gr (G1.out.trans (Gr.refl W1).drew)).trans hm2.mb)
  have HR2 := hid ((HR.out.gr (G1.out.trans (Gr.refl W1).drew)).ours hm2)
  refine hK.out _ _ _ (HS.out _ HB2.out) (fun _ h => h) (fun _ => ?_)
  clear hK K hn2 hm2 hHeld
  (try simp only [Act.put, List.setIfInBounds_toArray, List.set_cons_zero, List.set_cons_succ])
  refine pm_call rfl (by rfl) (fun K hK => ?_)
  go_simp
  go_at_call 36
  refine (againR_any base r nodes sent a C P w2 HR2.out hpi (Nat.le_trans hbase G2.out.size)).mono ?_
  rintro en w3 ⟨rfl, hn3, hm3⟩
  have HR3 := hid hn3
  have M3 := hid hm3
  have HB3 := hid (hm3.keep HB2.out (by decide) (by decide) (by decide))
  refine hK.out _ _ _ (HS.out _ HB3.out) (fun _ h => h) (fun _ => ?_)
  clear hK K hn3 hm3
  (try simp only [Act.put, List.setIfInBounds_toArray, List.set_cons_zero, List.set_cons_succ])
  iterate 1 (refine pm_take (v := ?_) rfl (by rfl) ?_ ?_; rotate_left; (focus (intro W9 hW9; (try dsimp only at hW9); go_simp; (try with_reducible rfl); done)); (try simp only [Act.put, List.setIfInBounds_toArray, List.set_cons_zero, List.set_cons_succ]))
  refine pm_last rfl (by rfl) (fun K hK => ?_)
  go_simp
  refine hK.out _ _ (NoPanic.normal ?_)
  clear hK K
  go_wp2_with fail
  go_ret
  have M := G2.out.trans M3.out.mb
  have HN3 := HN2.out.theirs M3.out
  have q3 := againP_len P a
  exact ⟨rfl, ⟨_, n, C, _, ⟨⟨HN3, HR3.out, HOK.out.again _, hs0⟩, by omega, by omega, by omega, by omega⟩⟩, M⟩
end Go.Proofs.Ytlencagfkajcnaa
