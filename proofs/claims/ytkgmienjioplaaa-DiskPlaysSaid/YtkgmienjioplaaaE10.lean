import Derived.Test.YtkgmienjioplaaaE9
namespace Go.Proofs.Ytkgmienjioplaaa
open Go.RowKit Go.Ext Go.BigFrame
attribute [local go_sem] Ext.cell Ext.frozen Ext.lt Ext.le s1 s2 s3 s4 s5 s6 t1 t2 t3 t4 t5 t6
attribute [local go_sem ↓] Go.wp_at_zero Go.wp_at_succ

section
variable {base : Nat} {w w' : World} {g kb rg rkb S sz : Nat} {s : St} {n : Nat}
theorem RkAt.keptBts {off : Bool} {armed : Int} {keep pend : Value} {K : List UInt8} {P : List Ent} {writes : Int} (h : RkAt base w rg rkb kb off armed keep S sz K P pend writes) : Bts w (.slice (some ⟨rkb, 0, none⟩) (S * sz) (S * sz)) K := by
  refine ⟨some ⟨rkb, 0, none⟩, S * sz, by rw [h.size], by have := h.max; rw [h.size]; omega, fun _ => ⟨rkb, 0, rfl, fun j u hu => ?_⟩, fun e => by cases e⟩
  rw [Nat.zero_add, cell_of_row w rkb j _ 5 (0, 0) h.kept]
  simpa using hu

set_option maxRecDepth 100000 in
set_option maxHeartbeats 8000000 in
/-- All that can be told of the two is the same. -/
theorem same_any (i : Int) (o : Ours base w g kb rkb S sz s) (t : Theirs base w rg rkb kb S sz s) (hbase : base ≤ w.heap.size) : Calls Try.prog 27 #[.pointer (some ⟨g, 0, none⟩), .pointer (some ⟨rg, 0, none⟩), .int .i64 i] w (RetE (.bool true) w) := by
  refine retE ?_
  have RD := hid (read_dsk i o.dsk hbase)
  have HO := hid o
  have HT := hid t
  have hgl : g < w.heap.size := by obtain ⟨_, h⟩ := o.db; exact (Array.getElem?_eq_some_iff.1 h).1
  have hrl : rg < w.heap.size := by obtain ⟨_, h⟩ := t.rb; exact (Array.getElem?_eq_some_iff.1 h).1
  clear o t
  obtain ⟨bs, hbs⟩ : ∃ bs, (if chk s.off S i true = 0 then sector sz s.K s.P i.toNat else []) = bs := ⟨_, rfl⟩
  have HBS := hid hbs
  rw [hbs] at RD
  obtain ⟨ec, hec⟩ : ∃ ec, chk s.off S i true = ec := ⟨_, rfl⟩
  have HEC := hid hec
  rw [hec] at RD
  clear hbs hec
  go_enter Try.func27, Try.ntmps27
  go_wp2_with (go_at_call 13; refine RD.out.mono ?_; rintro e w1 ⟨v1, rfl, hv1, hg1⟩; obtain ⟨D1, m1, n1, rfl⟩ : ∃ D1 m1 n1, v1 = .slice D1 m1 n1 := (by obtain ⟨A', c', e, _⟩ := hv1; exact ⟨_, _, _, e⟩); have HV1 := hid hv1; have HG1 := hid hg1; clear hv1 hg1)
  have TR1 := hid (theirs_read i (HT.out.gr HG1.out))
  rw [HBS.out, HEC.out] at TR1
  go_wp2_with (go_at_call 39; refine TR1.out.mono ?_; rintro e w2 ⟨v2, rfl, hv2, hg2⟩; obtain ⟨D2, m2, n2, rfl⟩ : ∃ D2 m2 n2, v2 = .slice D2 m2 n2 := (by obtain ⟨A', c', e, _⟩ := hv2; exact ⟨_, _, _, e⟩); have HV2 := hid hv2; have HG2 := hid hg2; clear hv2 hg2)
  have HO2 := hid (HO.out.gr (HG1.out.trans HG2.out))
  have HT2 := hid (HT.out.gr (HG1.out.trans HG2.out))
  have hrl2 : rg < w2.heap.size := Nat.lt_of_lt_of_le hrl (HG1.out.trans HG2.out).size
  have hgl2 : g < w2.heap.size := Nat.lt_of_lt_of_le hgl (HG1.out.trans HG2.out).size
  have q1 := fun x : Ext w2 => conv_bts (Byt.bts (Byt.kp HV1.out (HG2.out.trans x.gr).kp))
  have q2 := fun x : Ext w2 => conv_bts (HV2.out.gr x.gr)
  obtain ⟨N, hN⟩ : ∃ N, S * sz = N := ⟨_, rfl⟩
  obtain ⟨tk, tp, trk, t1, _, _⟩ := HT2.out
  have q3 := fun x : Ext w2 => conv_bts (t1.keptBts.gr x.gr)
  have r2 := t1.rb.cell 2
  have r3 := t1.rb.cell 3
  have r4 := t1.rb.cell 4
  have r7 := t1.rb.cell 7
  simp at r2 r3 r4 r7
  obtain ⟨TA, tc, rfl⟩ := t1.shape
  rw [hN] at q3 r2
  have CO := off_gr HO2.out.dsk
  have CP := pending_gr HO2.out.dsk
  have CW := writes_gr HO2.out.dsk
  have CB := hid (fun (W : World) (hg : Gr w2 W) => bytes_dsk (HO2.out.dsk.gr hg))
  clear t1 hN hgl hrl
  generalize s.off = so at *
  generalize s.writes = sw at *
  generalize hPl : s.P.length = sp at *
  generalize s.K = sk at *
  go_wp2_with fail
  refine wp_region_noPanic ?_
  refine wp_region_plan [(0, false), (1, false), (2, false), (3, false), (4, false), (5, false), (6, false), (7, false), (8, false), (9, false), (10, false), (11, false), (12, false), (13, false), (15, false), (16, false), (17, false), (18, false), (14, true), (19, false), (20, false), (21, false), (22, false), (24, false), (25, false), (26, false), (27, false), (28, false), (23, true), (29, false), (30, false), (31, false), (32, false), (34, false), (35, false), (36, false), (37, false), (33, true), (38, false), (39, false), (40, false), (41, false), (44, false), (45, false), (46, false), (47, false), (48, false), (42, true), (43, false), (49, false), (50, false), (51, false)] (fun W => Gr w2 W) (by kernel_rfl) (by kernel_rfl) (fun _ _ _ _ _ h => h) (Gr.refl w2).drew (fun hHeld => ?_)
  iterate 18 (refine pl_take (v := ?_) rfl (by rfl) ?_ ?_; rotate_left; (focus (intro W9 hW9; obtain ⟨x9, rfl⟩ : ∃ x : Ext w2, W9 = x.val := ⟨⟨W9, hW9⟩, rfl⟩; go_simp; (try with_reducible rfl); done)); (try simp only [Act.put, List.setIfInBounds_toArray, List.set_cons_zero, List.set_cons_succ]))
  refine pl_call rfl (by rfl) (fun K9 hK9 => ?_)
  go_simp
  go_at_call 21
  refine (CO.out _ (Gr.refl w2).drew).mono ?_
  rintro e _ ⟨rfl, y5, rfl⟩
  refine hK9.out (fun W => Gr w2 W) _ _ y5.gr (fun _ h => h) (fun _ => ?_)
  (try simp only [Act.put, List.setIfInBounds_toArray, List.set_cons_zero, List.set_cons_succ])
  iterate 9 (refine pl_take (v := ?_) rfl (by rfl) ?_ ?_; rotate_left; (focus (intro W9 hW9; obtain ⟨x9, rfl⟩ : ∃ x : Ext w2, W9 = x.val := ⟨⟨W9, hW9⟩, rfl⟩; go_simp; (try with_reducible rfl); done)); (try simp only [Act.put, List.setIfInBounds_toArray, List.set_cons_zero, List.set_cons_succ]))
  refine pl_call rfl (by rfl) (fun K9 hK9 => ?_)
  go_simp
  go_at_call 19
  refine (CP.out _ y5.gr).mono ?_
  rintro e _ ⟨rfl, y5, rfl⟩
  refine hK9.out (fun W => Gr w2 W) _ _ y5.gr (fun _ h => h) (fun _ => ?_)
  (try simp only [Act.put, List.setIfInBounds_toArray, List.set_cons_zero, List.set_cons_succ])
  iterate 8 (refine pl_take (v := ?_) rfl (by rfl) ?_ ?_; rotate_left; (focus (intro W9 hW9; obtain ⟨x9, rfl⟩ : ∃ x : Ext w2, W9 = x.val := ⟨⟨W9, hW9⟩, rfl⟩; go_simp; (try with_reducible rfl); done)); (try simp only [Act.put, List.setIfInBounds_toArray, List.set_cons_zero, List.set_cons_succ]))
  refine pl_call rfl (by rfl) (fun K9 hK9 => ?_)
  go_simp
  go_at_call 14
  refine (CW.out _ y5.gr).mono ?_
  rintro e _ ⟨rfl, y5, rfl⟩
  refine hK9.out (fun W => Gr w2 W) _ _ y5.gr (fun _ h => h) (fun _ => ?_)
  (try simp only [Act.put, List.setIfInBounds_toArray, List.set_cons_zero, List.set_cons_succ])
  iterate 9 (refine pl_take (v := ?_) rfl (by rfl) ?_ ?_; rotate_left; (focus (intro W9 hW9; obtain ⟨x9, rfl⟩ : ∃ x : Ext w2, W9 = x.val := ⟨⟨W9, hW9⟩, rfl⟩; go_simp; (try with_reducible rfl); done)); (try simp only [Act.put, List.setIfInBounds_toArray, List.set_cons_zero, List.set_cons_succ]))
  refine pl_call rfl (by rfl) (fun K9 hK9 => ?_)
  go_simp
  go_at_call 16
  refine (CB.out _ y5.gr).mono ?_
  rintro e _ ⟨v6, y6, rfl, rfl, hv6⟩
  obtain ⟨D6, m6, n6, rfl⟩ : ∃ D6 m6 n6, v6 = .slice D6 m6 n6 := by obtain ⟨A', c', e, _⟩ := hv6; exact ⟨_, _, _, e⟩
  have q6 := conv_bts (Byt.bts hv6)
  refine hK9.out (fun W => W = y6.val) _ _ rfl (fun W h => by subst h; exact y5.gr.trans y6.gr) (fun _ => ?_)
  (try simp only [Act.put, List.setIfInBounds_toArray, List.set_cons_zero, List.set_cons_succ])
  iterate 4 (refine pl_take (v := ?_) rfl (by rfl) ?_ ?_; rotate_left; (focus (intro W9 hW9; subst hW9; go_simp; (try with_reducible rfl); done)); (try simp only [Act.put, List.setIfInBounds_toArray, List.set_cons_zero, List.set_cons_succ]))
  refine pl_done (NoPanic.normal ?_)
  go_wp2_with fail
  go_ret
  exact ⟨rfl, (((HG1.out.trans HG2.out).trans y5.gr).trans y6.gr)⟩
end
end Go.Proofs.Ytkgmienjioplaaa
