import Derived.Test.YtlencagfkajcnaaR12
import Derived.Test.YtlencagfkajcnaaPlan2
namespace Go.Proofs.Ytlencagfkajcnaa
open Go.RowKit Go.Ext Go.BigFrame Go.Maps
attribute [local go_sem] Ext.cell Ext.frozen Ext.lt Ext.le s1 s2 s3 s4 s5 s6 t1 t2 t3 t4 t5 t6
attribute [local go_sem ↓] Go.wp_at_zero Go.wp_at_succ

set_option maxRecDepth 100000 in
set_option maxHeartbeats 4000000 in
theorem step3 (base g r i : Nat) (nodes a b sent : Int) (n : Nat) (C : List (Int × Int)) (P : List Pk) (D : Option Addr) (cd : Nat) (bs : List UInt8) (w : World) (h : Upto base w g r nodes i sent n C P) (hi : i ≤ 1000) (hbase : base ≤ w.heap.size) (hd : ∀ W, MB base w W → Bys W (.slice D bs.length cd) bs) :
    Calls Try.prog 17 #[.pointer (some ⟨g, 0, none⟩), .pointer (some ⟨r, 0, none⟩), .agg #[.int .i64 3, .int .i64 a, .int .i64 b, .slice D bs.length cd]] w (RetS base g r nodes i w) := by
  obtain ⟨⟨hnt, hrt, hok, hs0⟩, hs1, hn1, hc1, hp1⟩ := h
  have HN := hid hnt
  have HR := hid hrt
  have HD := hid hd
  have HOK := hid hok
  have hsi : sent ≤ 1000000 := by omega
  have hni : n ≤ 1000000 := by omega
  have hci : C.length ≤ 1000000 := by omega
  have hpi : P.length ≤ 1000000 := by omega
  clear hnt hrt hd hok
  go_enter Try.func17, Try.ntmps17
  go_wp2_with fail
  have HB := hid (heap_alloc_new w (.cells #[.int .i64 3, .int .i64 a, .int .i64 b, .slice D bs.length cd] 41))
  have G1 := hid ((Gr.refl w).alloc (.cells #[.int .i64 3, .int .i64 a, .int .i64 b, .slice D bs.length cd] 41))
  generalize w.alloc (.cells #[.int .i64 3, .int .i64 a, .int .i64 b, .slice D bs.length cd] 41) = W1 at *
  have HS := hid (show ∀ W : World, W.heap[w.heap.size]? = some (.cells #[.int .i64 3, .int .i64 a, .int .i64 b, .slice D bs.length cd] 41 (0, 0)) → (W.cell? ⟨w.heap.size, 1, none⟩ = some (.int .i64 a) ∧ W.cell? ⟨w.heap.size, 2, none⟩ = some (.int .i64 b) ∧ W.cell? ⟨w.heap.size, 3, none⟩ = some (.slice D bs.length cd)) from fun W h => by
    obtain ⟨_, c1, c2, c3, _⟩ := heap4 h
    exact ⟨c1, c2, c3⟩)
  obtain ⟨b1, b2, b3⟩ := HS.out _ HB.out
  have hw1 : w.heap.size < W1.heap.size := (Array.getElem?_eq_some_iff.1 HB.out).1
  have HTR := hid (takeR_u base r nodes sent a C P W1 (HR.out.gr G1.out) hpi (Nat.le_trans hbase G1.out.size))
  go_wp2_with (first
    | (go_at_call 34
       refine HTR.out.mono ?_
       rintro en w2 ⟨f1, t1, q1, A1, l1, c1, rfl, ho2, hn2, hm2⟩
       have HR2 := hid hn2
       have M2 := hid hm2
       have HB2 := hid (hm2.keep HB.out (by decide) (by decide) (by decide))
       have G2 := hid ((MB.of_gr G1.out).trans hm2.mb)
       have HN2 := hid ((HN.out.gr G1.out).theirs hm2)
       obtain ⟨e1, e2, e3⟩ := HS.out _ HB2.out
       have hw2 : w.heap.size < w2.heap.size := (Array.getElem?_eq_some_iff.1 HB2.out).1
       have HDR := hid (show Calls Try.prog 35 #[.pointer (some ⟨g, 0, none⟩), .int .i64 a] (w2.alloc (.cells #[.int .i64 f1, .int .i64 t1, .int .i64 q1, .slice A1 l1 c1] 71)) (fun e w' => e = .returned (.int .i64 (takeC P a)) ∧ Nt base w' g nodes sent n (cutL C) (takeP P a) ∧ MN base (w2.alloc (.cells #[.int .i64 f1, .int .i64 t1, .int .i64 q1, .slice A1 l1 c1] 71)) w') from drop_any base g n nodes sent a (cutL C) P _ (HN2.out.gr ((Gr.refl _).alloc _)) hpi)
       clear ho2 hn2 hm2)
    | (go_at_call 35
       refine HDR.out.mono ?_
       rintro en w3 ⟨rfl, hn3, hm3⟩
       have HN3 := hid hn3
       have M3 := hid hm3
       clear hn3 hm3))
  go_ret
  have q3 := takeP_len P a
  have HR3 := (HR2.out.gr ((Gr.refl _).alloc (.cells #[.int .i64 f1, .int .i64 t1, .int .i64 q1, .slice A1 l1 c1] 71))).ours M3.out
  exact ⟨rfl, ⟨sent, n, C, _, ⟨⟨HN3.out, HR3, HOK.out.take a, hs0⟩, by omega, by omega, by omega, by omega⟩⟩, ((G2.out.trans (MB.of_gr ((Gr.refl _).alloc _))).trans M3.out.mb)⟩

set_option maxRecDepth 100000 in
set_option maxHeartbeats 4000000 in
theorem step6 (base g r i : Nat) (nodes a b sent : Int) (n : Nat) (C : List (Int × Int)) (P : List Pk) (D : Option Addr) (cd : Nat) (bs : List UInt8) (w : World) (h : Upto base w g r nodes i sent n C P) (hi : i ≤ 1000) (_hbase : base ≤ w.heap.size) (hd : ∀ W, MB base w W → Bys W (.slice D bs.length cd) bs) :
    Calls Try.prog 17 #[.pointer (some ⟨g, 0, none⟩), .pointer (some ⟨r, 0, none⟩), .agg #[.int .i64 6, .int .i64 a, .int .i64 b, .slice D bs.length cd]] w (RetS base g r nodes i w) := by
  obtain ⟨⟨hnt, hrt, hok, hs0⟩, hs1, hn1, hc1, hp1⟩ := h
  have HN := hid hnt
  have HR := hid hrt
  have HD := hid hd
  have HOK := hid hok
  have hsi : sent ≤ 1000000 := by omega
  have hni : n ≤ 1000000 := by omega
  have hci : C.length ≤ 1000000 := by omega
  have hpi : P.length ≤ 1000000 := by omega
  clear hnt hrt hd hok
  go_enter Try.func17, Try.ntmps17
  go_wp2_with fail
  have HB := hid (heap_alloc_new w (.cells #[.int .i64 6, .int .i64 a, .int .i64 b, .slice D bs.length cd] 41))
  have G1 := hid ((Gr.refl w).alloc (.cells #[.int .i64 6, .int .i64 a, .int .i64 b, .slice D bs.length cd] 41))
  generalize w.alloc (.cells #[.int .i64 6, .int .i64 a, .int .i64 b, .slice D bs.length cd] 41) = W1 at *
  have HS := hid (show ∀ W : World, W.heap[w.heap.size]? = some (.cells #[.int .i64 6, .int .i64 a, .int .i64 b, .slice D bs.length cd] 41 (0, 0)) → (W.cell? ⟨w.heap.size, 1, none⟩ = some (.int .i64 a) ∧ W.cell? ⟨w.heap.size, 2, none⟩ = some (.int .i64 b) ∧ W.cell? ⟨w.heap.size, 3, none⟩ = some (.slice D bs.length cd)) from fun W h => by
    obtain ⟨_, c1, c2, c3, _⟩ := heap4 h
    exact ⟨c1, c2, c3⟩)
  have HHE := hid (heal_any base g n nodes sent (cutL C) P W1 (HN.out.gr G1.out))
  go_wp2_with (go_at_call 38
               refine HHE.out.mono ?_
               rintro en w2 ⟨rfl, hn2, hm2⟩
               have HN2 := hid hn2
               have M2 := hid hm2
               have hr2 := (HR.out.gr G1.out).ours hm2
               have HR2 := hid hr2
               obtain ⟨v, vc, L, hrb⟩ := hr2
               have HRB := hid hrb
               obtain ⟨_, _, _, r3, _, _, rf3⟩ := hrb.cs
               have hr2lt := hrb.lt
               have G2 := hid ((MB.of_gr G1.out).trans hm2.mb)
               clear hn2 hm2 hrb)
  go_ret
  have h8 := RB.putC8 (v8 := .slice none 0 0) (C8 := []) HRB.out.lo HRB.out.hn HRB.out.cell HRB.out.row (World.ownsRow_nil _ _ _ _) HRB.out.dat
  have m8 : MR base w2 (w2.setCell ⟨r, 3, none⟩ (.slice none 0 0)) := HRB.out.mrg (((Gr.refl w2).mod (fun b => b = r)).set (p := ⟨r, 3, none⟩) (fun _ => rfl) _)
  exact ⟨rfl, ⟨sent, 0, [], P, ⟨⟨HN2.out.theirs m8, ⟨_, _, _, h8⟩, HOK.out, hs0⟩, by omega, by omega, by simp, by omega⟩⟩, G2.out.trans m8.mb⟩

set_option maxRecDepth 100000 in
set_option maxHeartbeats 4000000 in
theorem stepE (base g r i : Nat) (nodes op a b sent : Int) (n : Nat) (C : List (Int × Int)) (P : List Pk) (D : Option Addr) (cd : Nat) (bs : List UInt8) (w : World) (h : Upto base w g r nodes i sent n C P) (hi : i ≤ 1000) (_hbase : base ≤ w.heap.size) (hd : ∀ W, MB base w W → Bys W (.slice D bs.length cd) bs) (ho : ¬ op = 1 ∧ ¬ op = 2 ∧ ¬ op = 3 ∧ ¬ op = 4 ∧ ¬ op = 5 ∧ ¬ op = 6 ∧ ¬ op = 7) :
    Calls Try.prog 17 #[.pointer (some ⟨g, 0, none⟩), .pointer (some ⟨r, 0, none⟩), .agg #[.int .i64 op, .int .i64 a, .int .i64 b, .slice D bs.length cd]] w (RetS base g r nodes i w) := by
  obtain ⟨⟨hnt, hrt, hok, hs0⟩, hs1, hn1, hc1, hp1⟩ := h
  have HN := hid hnt
  have HR := hid hrt
  have HD := hid hd
  have HOK := hid hok
  have hsi : sent ≤ 1000000 := by omega
  have hni : n ≤ 1000000 := by omega
  have hci : C.length ≤ 1000000 := by omega
  have hpi : P.length ≤ 1000000 := by omega
  clear hnt hrt hd hok
  have o1 : (op == 1) = false := by rw [beq_eq_false_iff_ne]; exact ho.1
  have o2 : (op == 2) = false := by rw [beq_eq_false_iff_ne]; exact ho.2.1
  have o3 : (op == 3) = false := by rw [beq_eq_false_iff_ne]; exact ho.2.2.1
  have o4 : (op == 4) = false := by rw [beq_eq_false_iff_ne]; exact ho.2.2.2.1
  have o5 : (op == 5) = false := by rw [beq_eq_false_iff_ne]; exact ho.2.2.2.2.1
  have o6 : (op == 6) = false := by rw [beq_eq_false_iff_ne]; exact ho.2.2.2.2.2.1
  have o7 : (op == 7) = false := by rw [beq_eq_false_iff_ne]; exact ho.2.2.2.2.2.2
  clear ho
  go_enter Try.func17, Try.ntmps17
  go_wp2_with fail
  go_ret
  have G1 := (Gr.refl w).alloc (.cells #[.int .i64 op, .int .i64 a, .int .i64 b, .slice D bs.length cd] 41)
  exact ⟨rfl, ⟨sent, n, C, P, ⟨⟨HN.out.gr G1, HR.out.gr G1, HOK.out, hs0⟩, by omega, by omega, by omega, by omega⟩⟩, MB.of_gr G1⟩
end Go.Proofs.Ytlencagfkajcnaa
