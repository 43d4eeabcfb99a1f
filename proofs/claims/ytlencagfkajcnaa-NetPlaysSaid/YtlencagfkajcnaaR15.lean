import Derived.Test.YtlencagfkajcnaaR12
import Derived.Test.YtlencagfkajcnaaPlan2
namespace Go.Proofs.Ytlencagfkajcnaa
open Go.RowKit Go.Ext Go.BigFrame Go.Maps
attribute [local go_sem] Ext.cell Ext.frozen Ext.lt Ext.le s1 s2 s3 s4 s5 s6 t1 t2 t3 t4 t5 t6
attribute [local go_sem ↓] Go.wp_at_zero Go.wp_at_succ

set_option maxRecDepth 100000 in
set_option maxHeartbeats 4000000 in
theorem step2 (base g r i : Nat) (nodes a b sent : Int) (n : Nat) (C : List (Int × Int)) (P : List Pk) (D : Option Addr) (cd : Nat) (bs : List UInt8) (w : World) (h : Upto base w g r nodes i sent n C P) (hi : i ≤ 1000) (hbase : base ≤ w.heap.size) (hd : ∀ W, MB base w W → Bys W (.slice D bs.length cd) bs) :
    Calls Try.prog 17 #[.pointer (some ⟨g, 0, none⟩), .pointer (some ⟨r, 0, none⟩), .agg #[.int .i64 2, .int .i64 a, .int .i64 b, .slice D bs.length cd]] w (RetS base g r nodes i w) := by
  obtain ⟨⟨hnt, hrt, hok, hs0⟩, hs1, hn1, hc1, hp1⟩ := h
  have HN := hid hnt
  have HR := hid hrt
  have HD := hid hd
  have HOK := hid hok
  have hsi : sent ≤ 1000000 := by omega
  have hni : n ≤ 1000000 := by omega
  have hci : C.length ≤ 1000000 := by omega
  have hpi : P.length ≤ 1000000 := by omega
  clear hnt hrt hd hok
  go_enter Try.func17, Try.ntmps17
  go_wp2_with fail
  have HB := hid (heap_alloc_new w (.cells #[.int .i64 2, .int .i64 a, .int .i64 b, .slice D bs.length cd] 41))
  have G1 := hid ((Gr.refl w).alloc (.cells #[.int .i64 2, .int .i64 a, .int .i64 b, .slice D bs.length cd] 41))
  generalize w.alloc (.cells #[.int .i64 2, .int .i64 a, .int .i64 b, .slice D bs.length cd] 41) = W1 at *
  have HS := hid (show ∀ W : World, W.heap[w.heap.size]? = some (.cells #[.int .i64 2, .int .i64 a, .int .i64 b, .slice D bs.length cd] 41 (0, 0)) → (W.cell? ⟨w.heap.size, 1, none⟩ = some (.int .i64 a) ∧ W.cell? ⟨w.heap.size, 2, none⟩ = some (.int .i64 b) ∧ W.cell? ⟨w.heap.size, 3, none⟩ = some (.slice D bs.length cd)) from fun W h => by
    obtain ⟨_, c1, c2, c3, _⟩ := heap4 h
    exact ⟨c1, c2, c3⟩)
  obtain ⟨b1, b2, b3⟩ := HS.out _ HB.out
  have hw1 : w.heap.size < W1.heap.size := (Array.getElem?_eq_some_iff.1 HB.out).1
  have HT := hid (take_u base g n nodes sent a (cutL C) P W1 (HN.out.gr G1.out) hpi)
  go_wp2_with (first
    | (go_at_call 12
       refine HT.out.mono ?_
       rintro en w2 ⟨f1, t1, q1, A1, l1, c1, rfl, ho2, hn2, hm2⟩
       have HO2 := hid ho2
       have HN2 := hid hn2
       have M2 := hid hm2
       have HB2 := hid (hm2.keep HB.out (by decide) (by decide))
       have G2 := hid ((MB.of_gr G1.out).trans hm2.mb)
       have HR2 := hid ((HR.out.gr G1.out).ours hm2)
       obtain ⟨e1, e2, e3⟩ := HS.out _ HB2.out
       have hw2 : w.heap.size < w2.heap.size := (Array.getElem?_eq_some_iff.1 HB2.out).1
       have HA7 := hid (heap_alloc_new w2 (.cells #[.int .i64 f1, .int .i64 t1, .int .i64 q1, .slice A1 l1 c1] 33))
       have hb2 := Nat.le_trans hbase (Nat.le_trans G2.out.size ((Gr.refl w2).alloc (.cells #[.int .i64 f1, .int .i64 t1, .int .i64 q1, .slice A1 l1 c1] 33)).size)
       have HTR := hid (takeR_u base r nodes sent a C P (w2.alloc (.cells #[.int .i64 f1, .int .i64 t1, .int .i64 q1, .slice A1 l1 c1] 33)) (HR2.out.gr ((Gr.refl _).alloc _)) hpi hb2)
       clear ho2 hn2 hm2 hb2)
    | (go_at_call 34
       refine HTR.out.mono ?_
       rintro en w3 ⟨f2, t2, q2, A2, l2, c2, rfl, ho3, hn3, hm3⟩
       have HO3 := hid ho3
       have HR3 := hid hn3
       have M3 := hid hm3
       have HB7 := hid (hm3.keep HA7.out (by decide) (by decide) (by decide))
       obtain ⟨z0, z1, z2, z3, _⟩ := heap4 HB7.out
       have hw3 : w2.heap.size < w3.heap.size := (Array.getElem?_eq_some_iff.1 HB7.out).1
       have H3M := hid (three_made w3 (.cells #[.int .i64 f2, .int .i64 t2, .int .i64 q2, .slice A2 l2 c2] 71) (.cells #[.int .i64 f1, .int .i64 t1, .int .i64 q1, .slice A1 l1 c1] 33) (.cells #[.int .i64 f2, .int .i64 t2, .int .i64 q2, .slice A2 l2 c2] 71))
       have G5 := hid ((((Gr.refl w3).alloc (.cells #[.int .i64 f2, .int .i64 t2, .int .i64 q2, .slice A2 l2 c2] 71)).alloc (.cells #[.int .i64 f1, .int .i64 t1, .int .i64 q1, .slice A1 l1 c1] 33)).alloc (.cells #[.int .i64 f2, .int .i64 t2, .int .i64 q2, .slice A2 l2 c2] 71))
       have ho9 := One.mod (One.mod (One.mod HO2.out (((Gr.refl w2).alloc (.cells #[.int .i64 f1, .int .i64 t1, .int .i64 q1, .slice A1 l1 c1] 33)).mod fun _ => False) (fun _ _ e => e)) hm3 (fun k hk => MR.not5 k hk)) (G5.out.mod fun _ => False) (fun _ _ e => e)
       have HSM := hid (same_any (some ⟨w3.heap.size + 1, 0, none⟩) (some ⟨w3.heap.size + 1 + 1, 0, none⟩) 1 1 [((f1, t1, q1, (A1, l1, c1)) : It)] [((f2, t2, q2, (A2, l2, c2)) : It)] [takeX P a] _ (Rd.block H3M.out.2.1) (Rd.block H3M.out.2.2) (PV.one ho9) (PV.one (One.mod HO3.out (G5.out.mod fun _ => False) (fun _ _ e => e))) (by simp))
       clear ho3 hn3 hm3 ho9)
    | (go_at_call 18; refine HSM.out.mono ?_; rintro en _ ⟨rfl, y, rfl⟩))
  go_ret
  have G6 := G5.out.ext y
  have q3 := takeP_len P a
  have HN3 := ((HN2.out.gr ((Gr.refl _).alloc (.cells #[.int .i64 f1, .int .i64 t1, .int .i64 q1, .slice A1 l1 c1] 33))).theirs M3.out).gr G6
  exact ⟨rfl, ⟨sent, n, C, _, ⟨⟨HN3, HR3.out.gr G6, HOK.out.take a, hs0⟩, by omega, by omega, by omega, by omega⟩⟩, (((G2.out.trans (MB.of_gr ((Gr.refl _).alloc _))).trans M3.out.mb).trans (MB.of_gr G6))⟩
end Go.Proofs.Ytlencagfkajcnaa
