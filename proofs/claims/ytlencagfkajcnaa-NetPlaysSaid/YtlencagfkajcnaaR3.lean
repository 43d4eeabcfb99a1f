import Derived.Test.YtlencagfkajcnaaR0
namespace Go.Proofs.Ytlencagfkajcnaa
open Go.RowKit Go.Ext Go.BigFrame Go.Maps
attribute [local go_sem] Ext.cell Ext.frozen Ext.lt Ext.le s1 s2 s3 s4 s5 s6 t1 t2 t3 t4 t5 t6
attribute [local go_sem ↓] Go.wp_at_zero Go.wp_at_succ

set_option maxRecDepth 100000 in
set_option maxHeartbeats 4000000 in
theorem sendR_any (base g : Nat) (nodes sent f t : Int) (C : List (Int × Int)) (P : List Pk) (d : Value) (bs : List UInt8) (w : World) (h : Rt base w g nodes sent C P) (hd : Bys w d bs) (hl : P.length ≤ 1000000) (hC : C.length ≤ 1000000) (hs : 0 ≤ sent ∧ sent ≤ 1000000) (hbase : base ≤ w.heap.size) :
    Calls Try.prog 33 #[.pointer (some ⟨g, 0, none⟩), .int .i64 f, .int .i64 t, d] w (RetR base g nodes (sendF nodes sent (cutL C) P f t bs).2.2 C (sendF nodes sent (cutL C) P f t bs).2.1 (.int .i64 (sendF nodes sent (cutL C) P f t bs).1) w) := by
  obtain ⟨v, vc, L, h⟩ := h
  have HLEN := hid h.dat.len
  obtain ⟨c0, c1, c2, c3, f1, f2, f3⟩ := h.cs
  have hlt := h.lt
  have HF := hid (fun W (y : Gr w W) => is_any g nodes f W ((y.cell (p := ⟨g, 0, none⟩) hlt).trans c0))
  have HT := hid (fun W (y : Gr w W) => is_any g nodes t W ((y.cell (p := ⟨g, 0, none⟩) hlt).trans c0))
  have HO := hid (fun W (y : Gr w W) => openR_any base g nodes sent f t v vc L C P W (h.gr y) hC)
  have HD := hid hd
  have H := hid h
  obtain ⟨A0, cd, rfl, hbl, _, _⟩ := hd
  have HBL := hid hbl
  obtain ⟨A, cp, rfl⟩ := h.shape
  clear h hbl
  obtain ⟨i0, hi0, hz0, hz1, hz2⟩ := info_parts (info71.trans info33)
  obtain ⟨i5, hi5, hy0, hy1, hy2⟩ := info_parts info5
  unfold sendF
  cases hf : isN nodes f
  · rw [hf] at HF
    clear hf
    simp only [Bool.false_and, Bool.false_eq_true, if_false]
    go_enter Try.func33, Try.ntmps33
    go_wp2_with (go_at_call 40; (with_reducible refine (HF.out _ (Gr.refl _)).mono ?_); rintro en _ ⟨rfl, y1, rfl⟩)
    go_ret
    exact ⟨rfl, ⟨_, _, L, H.out.gr y1.gr⟩, MR.of_gr y1.gr⟩
  rw [hf] at HF
  clear hf
  cases ht : isN nodes t
  · rw [ht] at HT
    clear ht
    simp only [Bool.and_false, Bool.false_eq_true, if_false]
    go_enter Try.func33, Try.ntmps33
    go_wp2_with (first
      | (go_at_call 40; (with_reducible refine (HF.out _ (Gr.refl _)).mono ?_); rintro en _ ⟨rfl, y1, rfl⟩)
      | (go_at_call 40; (with_reducible refine (HT.out _ y1.gr).mono ?_); rintro en _ ⟨rfl, y2, rfl⟩))
    go_ret
    exact ⟨rfl, ⟨_, _, L, H.out.gr (y1.gr.ext y2)⟩, MR.of_gr (y1.gr.ext y2)⟩
  rw [ht] at HT
  clear ht
  simp only [Bool.and_self, if_true]
  by_cases hlong : 1048576 < bs.length
  · have hlz : (1048576 : Int) < (bs.length : Int) := by omega
    rw [if_pos hlong]
    go_enter Try.func33, Try.ntmps33
    go_wp2_with (first
      | (go_at_call 40; (with_reducible refine (HF.out _ (Gr.refl _)).mono ?_); rintro en _ ⟨rfl, y1, rfl⟩)
      | (go_at_call 40; (with_reducible refine (HT.out _ y1.gr).mono ?_); rintro en _ ⟨rfl, y2, rfl⟩))
    go_ret
    exact ⟨rfl, ⟨_, _, L, H.out.gr (y1.gr.ext y2)⟩, MR.of_gr (y1.gr.ext y2)⟩
  have hlz : ¬ (1048576 : Int) < (bs.length : Int) := by omega
  rw [if_neg hlong]
  obtain ⟨hs0, hs1⟩ := hs
  cases ho : opF nodes (cutL C) f t
  · rw [ho] at HO
    clear ho
    simp only [Bool.false_eq_true, if_false]
    go_enter Try.func33, Try.ntmps33
    go_wp2_with (first
      | (go_at_call 40; (with_reducible refine (HF.out _ (Gr.refl _)).mono ?_); rintro en _ ⟨rfl, y1, rfl⟩)
      | (go_at_call 40; (with_reducible refine (HT.out _ y1.gr).mono ?_); rintro en _ ⟨rfl, y2, rfl⟩)
      | (go_at_call 20; (with_reducible refine (HO.out _ (y1.gr.ext y2)).mono ?_); rintro en _ ⟨rfl, y3, rfl⟩
         have G3 := hid ((y1.gr.ext y2).ext y3)
         have H3 := hid (H.out.gr G3.out)
         obtain ⟨_, k31, _, _, kf31, _, _⟩ := H3.out.cs
         have hl3 : g < y3.val.heap.size := H3.out.lt))
    go_ret
    refine ⟨rfl, ⟨_, _, L, H3.out.setS (sent + 1)⟩, ?_⟩
    refine H.out.mr ?_
    exact ((G3.out.mod _).set (p := ⟨g, 1, none⟩) (fun _ => .inl rfl) _)
  · rw [ho] at HO
    clear ho
    simp only [if_true]
    go_enter Try.func33, Try.ntmps33
    go_wp2_with (first
      | (go_at_call 40; (with_reducible refine (HF.out _ (Gr.refl _)).mono ?_); rintro en _ ⟨rfl, y1, rfl⟩)
      | (go_at_call 40; (with_reducible refine (HT.out _ y1.gr).mono ?_); rintro en _ ⟨rfl, y2, rfl⟩)
      | (go_at_call 20; (with_reducible refine (HO.out _ (y1.gr.ext y2)).mono ?_); rintro en _ ⟨rfl, y3, rfl⟩
         have G3 := hid ((y1.gr.ext y2).ext y3)
         have H3 := hid (H.out.gr G3.out)
         obtain ⟨_, k31, k32, _, kf31, kf32, _⟩ := H3.out.cs
         have hl3 : g < y3.val.heap.size := H3.out.lt))
    clear c0 c1 c2 c3 f1 f2 f3
    have hll : L.length ≤ 1000000 := by have := HLEN.out; omega
    have hsz3 := G3.out.size
    generalize y3.val = W3 at *
    refine wp_region_noPanic ?_
    obtain ⟨_, hbr, hbn, _⟩ := HD.out.src
    have HBR := hid (hbr.gr G3.out)
    have HMD := hid (World.ownsRow_made (base := W3.heap.size) (e := 5) (size := 1) W3.drew #[] 0 (Nat.le_refl _) (by decide) rfl)
    clear hbr
    refine wp_region_planM [(0, false), (1, false), (2, false), (3, false), (4, false), (5, false), (6, false), (7, false), (8, false), (9, false), (10, false), (12, false), (11, true), (13, true), (14, false), (15, true), (16, true), (17, false), (18, false), (19, true)]
      (fun w' => w'.cell? ⟨g, 1, none⟩ = some (.int .i64 sent) ∧ w'.cell? ⟨g, 2, none⟩ = some (.slice A L.length cp)) (by kernel_rfl) (by kernel_rfl) (fun _ _ _ _ _ h => h) ⟨k31, k32⟩ (fun hHeld => ?_)
    iterate 12 (refine pm_take (v := ?_) rfl (by rfl) ?_ ?_; rotate_left; (focus (intro W9 hW9; (try dsimp only at hW9); go_simp; (try with_reducible rfl); done)); (try simp only [Act.put, List.setIfInBounds_toArray, List.set_cons_zero, List.set_cons_succ]))
    refine pm_call rfl (by rfl) (fun K hK => ?_)
    go_simp
    refine hK.out _ _ _ ⟨by go_simp; done, by go_simp; done⟩ (fun _ h => h) (fun _ => ?_)
    clear hK K hHeld
    (try simp only [Act.put, List.setIfInBounds_toArray, List.set_cons_zero, List.set_cons_succ])
    refine pm_law rfl (by rfl) (fun K hK => ?_)
    refine step_append_any (by rfl) (.tmp 37) (.tmp 38) 22 (by rfl) W3.heap.size 5 i5 _ 1 1 Try.underlying22 hi5 hy0 hy1 hy2 rfl (by decide) none22 (.slice (some ⟨W3.heap.size, 0, none⟩) 0 0) 0 [] (by rfl) HMD.out A0 bs.length cd (bc bs) (by rfl) (by rw [bc_length, Nat.mul_one]) (HBR.out.gr ((Gr.refl W3).drew.alloc _)) hbn (bc_one bs) (by unfold maxLen; omega) (by omega) (by simp) ?_
    intro v4 w4 hown4 hgr4
    obtain ⟨A4, c4, rfl⟩ : ∃ A4 c4, v4 = .slice A4 bs.length c4 := by have := own_shape hown4; rwa [Nat.zero_add] at this
    have HW4 := hid (show Gr W3 w4 from gr_grown ((Gr.refl W3).drew.alloc (.cells #[] 5)) hgr4 (by intro k hk; simp [Value.ownBlock] at hk; omega))
    have HO4 := hid (show w4.ownsRow W3.heap.size 5 1 (.slice A4 bs.length c4) bs.length (bc bs) by have := hown4; rwa [Nat.zero_add, List.nil_append] at this)
    have hsz4 := HW4.out.size
    have hl4 : g < w4.heap.size := by omega
    have h41 := (HW4.out.cell (p := ⟨g, 1, none⟩) hl3).trans k31
    have h42 := (HW4.out.cell (p := ⟨g, 2, none⟩) hl3).trans k32
    refine hK.out _ _ _ ⟨h41, h42⟩ (fun _ h => h) (fun _ => ?_)
    clear hK K hown4 hgr4 HMD
    (try simp only [Act.put, List.setIfInBounds_toArray, List.set_cons_zero, List.set_cons_succ])
    iterate 1 (refine pm_take (v := ?_) rfl (by rfl) ?_ ?_; rotate_left; (focus (intro W9 hW9; (try dsimp only at hW9); go_simp; (try with_reducible rfl); done)); (try simp only [Act.put, List.setIfInBounds_toArray, List.set_cons_zero, List.set_cons_succ]))
    refine pm_call rfl (by rfl) (fun K hK => ?_)
    go_simp
    refine hK.out _ _ _ ⟨by go_simp; done, by go_simp; done⟩ (fun _ h => h) (fun _ => ?_)
    clear hK K
    (try simp only [Act.put, List.setIfInBounds_toArray, List.set_cons_zero, List.set_cons_succ])
    refine pm_law rfl (by rfl) (fun K hK => ?_)
    have hblk := heap_alloc_new w4 (.cells #[.int .i64 f, .int .i64 t, .int .i64 sent, .slice A4 bs.length c4] 71)
    refine step_append_any (by rfl) (.tmp 30) (.tmp 41) 50 (by rfl) base 71 i0 _ 4 48 Try.underlying50 hi0 hz0 hz1 hz2 rfl (by decide) none50 (.slice A L.length cp) L.length (cs6 L) (by rfl) (own_gr H3.out.row (HW4.out.alloc _)) (some ⟨w4.heap.size, 0, none⟩) 1 1 [.int .i64 f, .int .i64 t, .int .i64 sent, .slice A4 bs.length c4] (by rfl) rfl (Rd.block hblk) (fun e => by cases e) (by simp [Value.oneCell']) (by unfold maxLen; omega) (by omega) (by simp; omega) ?_
    intro v8 w8 hown8 hgrow8
    obtain ⟨A8, c8, rfl⟩ := own_shape hown8
    have G5 := hid (show Gr W3 (w4.alloc (.cells #[.int .i64 f, .int .i64 t, .int .i64 sent, .slice A4 bs.length c4] 71)) from HW4.out.alloc _)
    have M8 := hid (((G5.out.mod (fun b => some b = (Value.slice A L.length cp).ownBlock)).trans (mod_grown hgrow8) (fun _ _ h => h)))
    have HC8 := hid ((M8.out.block g hl3 (fun e => H3.out.ne e.symm)).trans H3.out.cell)
    obtain ⟨_, q1, q2, _, _, qf1, qf2, _⟩ := heap4 HC8.out
    have hl8 : g < w8.heap.size := (Array.getElem?_eq_some_iff.1 HC8.out).1
    have HO8 := hid hown8
    have M48 := hid (((((Gr.refl w4).alloc (.cells #[.int .i64 f, .int .i64 t, .int .i64 sent, .slice A4 bs.length c4] 71)).mod (fun b => some b = (Value.slice A L.length cp).ownBlock)).trans (mod_grown hgrow8) (fun _ _ h => h)))
    refine hK.out _ _ _ ⟨q1, q2⟩ (fun _ h => h) (fun _ => ?_)
    clear hK K hown8 hgrow8 hblk
    (try simp only [Act.put, List.setIfInBounds_toArray, List.set_cons_zero, List.set_cons_succ])
    iterate 2 (refine pm_take (v := ?_) rfl (by rfl) ?_ ?_; rotate_left; (focus (intro W9 hW9; (try dsimp only at hW9); go_simp; (try with_reducible rfl); done)); (try simp only [Act.put, List.setIfInBounds_toArray, List.set_cons_zero, List.set_cons_succ]))
    refine pm_last rfl (by rfl) (fun K hK => ?_)
    go_simp
    refine hK.out _ _ (NoPanic.normal ?_)
    clear hK K
    go_wp2_with fail
    go_ret
    have hr8 : w8.ownsRow base 71 4 (.slice A8 (L.length + 1) c8) (L ++ [((f, t, sent, A4, bs.length, c4) : It)]).length (cs6 (L ++ [((f, t, sent, A4, bs.length, c4) : It)])) := by
      rw [cs6_app, List.length_append, List.length_singleton]
      exact HO8.out
    have hd8 : Dat base w8 (L ++ [((f, t, sent, A4, bs.length, c4) : It)]) (P ++ [(f, t, sent, bs)]) := by
      refine Dat.app (Dat.mod M8.out H3.out.no5 H3.out.dat) ⟨?_, trivial⟩
      exact One.mod (p := (f, t, sent, bs)) (x := (f, t, sent, A4, bs.length, c4)) ⟨rfl, rfl, rfl, HO4.out.mono (Nat.le_trans hbase hsz3), HBL.out⟩ M48.out (H3.out.gr HW4.out).no5
    have hc8 : w8.ownsRow base 66 2 vc C.length (cs2 C) := own_mod H3.out.cuts M8.out (fun k e e2 => H3.out.apart e2.symm e)
    refine ⟨rfl, ⟨_, _, _, (RB.put8 H.out.lo H.out.hn HC8.out hc8 hr8 hd8).setS (sent + 1)⟩, H.out.mr ?_⟩
    exact ((((G3.out.mod (fun k => k = g ∨ (Value.slice A L.length cp).ownBlock = some k ∨ vc.ownBlock = some k)).trans M8.out (fun _ _ h => .inr (.inl h.symm))).set (p := ⟨g, 2, none⟩) (fun _ => .inl rfl) _).set (p := ⟨g, 1, none⟩) (fun _ => .inl rfl) _)
end Go.Proofs.Ytlencagfkajcnaa
