import Derived.Test.YthiahnpijdkboaaQ3
namespace Go.Proofs.Ythiahnpijdkboaa
open Go.RowKit Go.Ext Go.BigFrame
attribute [local go_sem] Ext.cell Ext.frozen Ext.lt Ext.le s1 s2 s3 s4 s5 s6 t1 t2 t3 t4 t5 t6
attribute [local go_sem ↓] Go.wp_at_zero Go.wp_at_succ

set_option maxRecDepth 100000 in
set_option maxHeartbeats 8000000 in
theorem looks_any (base g r : Nat) (idx term i t : Int) (L : List Ent) (w : World) (ho : O base w g idx term L) (hr : R base w r idx term L) (hpos : ∀ k, k < L.length → 1 ≤ (L.getD k (0, [])).1) (hm : i ≤ 1099511627776) (hm0 : -9223372036854775808 ≤ i) (hbase : base ≤ w.heap.size) :
    Calls Try.prog 39 #[.pointer (some ⟨g, 0, none⟩), .pointer (some ⟨r, 0, none⟩), .int .i64 i, .int .i64 t] w (RetE (.bool true) w) := by
  refine retE ?_
  obtain ⟨v, h⟩ := ho
  obtain ⟨vr, hr⟩ := hr
  have b2 := h.i0
  have b3 := h.i1
  have b4 := h.len
  have hpos2 : idx + 1 ≤ i → i ≤ idx + L.length → 0 < tmT idx term L i := fun h1 h2 => by
    unfold tmT
    rw [if_neg (by omega), if_pos (by omega)]
    have := hpos (i - idx - 1).toNat (by omega)
    omega
  have C11 := hid (fun (y : Ext w) => last_any base g idx term L v y.val (h.gr y.gr))
  have C11w := hid (last_any base g idx term L v w h)
  have C32 := hid (fun (y : Ext w) => lastR_any base r idx term L vr y.val (hr.gr y.gr))
  have C22 := hid (fun (y : Ext w) => term_any base g idx term i L v y.val (h.gr y.gr) (by omega))
  have C15 := hid (fun (y : Ext w) => termR_any base r idx term i L vr y.val (hr.gr y.gr) (by omega))
  have C20 := hid (fun (y : Ext w) => hint_any base g idx term i L v y.val (h.gr y.gr) (by omega))
  have C42 := hid (fun (y : Ext w) => hintR_any base r idx term i L vr y.val (hr.gr y.gr) (by omega) hpos2)
  have H := hid h
  have HR := hid hr
  have hrl := hr.lt
  obtain ⟨Av, cv, rfl, _, _⟩ := hr.row.shape
  have r0 : w.cell? ⟨r, 0, none⟩ = some (.int .i64 idx) := by have := hr.cell 0; simpa using this
  have r2 : w.cell? ⟨r, 2, none⟩ = some (.slice Av L.length cv) := by have := hr.cell 2; simpa using this
  clear h hr hpos hpos2
  generalize lastT term L = lt at *
  generalize tmT idx term L i = tt at *
  generalize tmB idx L.length i = tb at *
  generalize hintT idx term L i = ht at *
  generalize hintK idx term L i = hk at *
  have ew1 : IntKind.i64.wrap (idx + 1) = idx + 1 := IntWalk.i64_in _ (by omega)
  have ew : IntKind.i64.wrap (i + 3) = i + 3 := IntWalk.i64_in _ (by omega)
  go_enter Try.func39, Try.ntmps39
  go_wp2_with (first
    | (go_at_call 11; (with_reducible refine C11w.out.mono ?_); rintro e _ ⟨rfl, y1, rfl⟩)
    | (go_at_call 32; (with_reducible refine (calls_ext _ (C32.out y1)).mono ?_); rintro e _ ⟨rfl, y2, rfl⟩)
    | (go_at_call 22; (with_reducible refine (calls_ext _ (C22.out y2)).mono ?_); rintro e _ ⟨rfl, y3, rfl⟩)
    | (go_at_call 15; (with_reducible refine (calls_ext _ (C15.out y3)).mono ?_); rintro e _ ⟨rfl, y4, rfl⟩)
    | (go_at_call 20; (with_reducible refine (calls_ext _ (C20.out y4)).mono ?_); rintro e _ ⟨rfl, y5, rfl⟩)
    | (go_at_call 42; (with_reducible refine (calls_ext _ (C42.out y5)).mono ?_); rintro e _ ⟨rfl, y6, rfl⟩))
  have G6 := hid y6.gr
  generalize y6.val = W6 at *
  refine wp_region_noPanic ?_
  refine wp_region_planM [(0, false), (1, false), (2, false), (3, false), (4, false), (5, false), (6, false), (7, false), (8, false), (9, false), (10, false), (11, false), (12, false), (13, false), (14, false), (15, false), (16, false), (17, false), (18, false), (19, false), (20, false), (21, false), (22, false), (23, false), (24, false), (25, false), (26, false), (27, false), (28, false), (29, false), (31, false), (32, false), (33, false), (34, false), (35, false), (30, true), (36, false), (37, false), (38, false), (39, false), (41, false), (42, false), (43, false), (44, false), (45, false), (40, true), (46, false), (47, false), (48, false), (49, false), (50, false), (51, false), (53, false), (54, false), (55, false), (52, true), (56, true), (57, false), (58, false), (59, false), (60, false), (61, false), (62, false), (64, false), (65, false), (66, false), (63, true), (67, true), (68, false), (69, false), (70, false), (71, false), (72, false), (73, false), (74, false), (76, false), (77, false), (78, false), (79, false), (75, true), (80, true), (81, true), (82, false), (83, true)] (fun W => Gr w W) (by kernel_rfl) (by kernel_rfl) (fun _ _ _ _ _ h => h) G6.out.drew (fun hHeld => ?_)
  clear hHeld
  have G6d := hid G6.out.drew
  iterate 35 (refine pm_take (v := ?_) rfl (by rfl) ?_ ?_; rotate_left; (focus (intro W9 hW9; obtain ⟨x9, rfl⟩ : ∃ x : Ext w, W9 = x.val := ⟨⟨W9, hW9⟩, rfl⟩; go_simp; (try with_reducible rfl); done)); (try simp only [Act.put, List.setIfInBounds_toArray, List.set_cons_zero, List.set_cons_succ]))
  refine pm_call rfl (by rfl) (fun K hK => ?_)
  go_simp
  go_at_call 21
  refine (first_any base g idx term L v _ (H.out.gr G6d.out)).mono ?_
  rintro en _ ⟨rfl, y, rfl⟩
  have G71 := hid (G6d.out.trans y.gr)
  generalize y.val = W1 at *
  refine hK.out (fun W => Gr w W) _ _ G71.out (fun _ h => h) (fun _ => ?_)
  clear hK K
  (try simp only [Act.put, List.setIfInBounds_toArray, List.set_cons_zero, List.set_cons_succ])
  iterate 9 (refine pm_take (v := ?_) rfl (by rfl) ?_ ?_; rotate_left; (focus (intro W9 hW9; obtain ⟨x9, rfl⟩ : ∃ x : Ext w, W9 = x.val := ⟨⟨W9, hW9⟩, rfl⟩; go_simp; (try with_reducible rfl); done)); (try simp only [Act.put, List.setIfInBounds_toArray, List.set_cons_zero, List.set_cons_succ]))
  refine pm_call rfl (by rfl) (fun K hK => ?_)
  go_simp
  go_at_call 24
  refine (len_any base g idx term L v _ (H.out.gr G71.out)).mono ?_
  rintro en _ ⟨rfl, y, rfl⟩
  have G72 := hid (G71.out.trans y.gr)
  generalize y.val = W2 at *
  refine hK.out (fun W => Gr w W) _ _ G72.out (fun _ h => h) (fun _ => ?_)
  clear hK K
  (try simp only [Act.put, List.setIfInBounds_toArray, List.set_cons_zero, List.set_cons_succ])
  iterate 9 (refine pm_take (v := ?_) rfl (by rfl) ?_ ?_; rotate_left; (focus (intro W9 hW9; obtain ⟨x9, rfl⟩ : ∃ x : Ext w, W9 = x.val := ⟨⟨W9, hW9⟩, rfl⟩; go_simp; (try with_reducible rfl); done)); (try simp only [Act.put, List.setIfInBounds_toArray, List.set_cons_zero, List.set_cons_succ]))
  refine pm_call rfl (by rfl) (fun K hK => ?_)
  go_simp
  go_at_call 16
  refine (match_any base g idx term i t L v _ (H.out.gr G72.out) (by omega)).mono ?_
  rintro en _ ⟨rfl, y, rfl⟩
  have G73 := hid (G72.out.trans y.gr)
  generalize y.val = W3 at *
  refine hK.out (fun W => Gr w W) _ _ G73.out (fun _ h => h) (fun _ => ?_)
  clear hK K
  (try simp only [Act.put, List.setIfInBounds_toArray, List.set_cons_zero, List.set_cons_succ])
  refine pm_call rfl (by rfl) (fun K hK => ?_)
  go_simp
  go_at_call 41
  refine (matchR_any base r idx term i t L _ _ (HR.out.gr G73.out) (by omega)).mono ?_
  rintro en _ ⟨rfl, y, rfl⟩
  have G74 := hid (G73.out.trans y.gr)
  generalize y.val = W4 at *
  refine hK.out (fun W => Gr w W) _ _ G74.out (fun _ h => h) (fun _ => ?_)
  clear hK K
  (try simp only [Act.put, List.setIfInBounds_toArray, List.set_cons_zero, List.set_cons_succ])
  iterate 9 (refine pm_take (v := ?_) rfl (by rfl) ?_ ?_; rotate_left; (focus (intro W9 hW9; obtain ⟨x9, rfl⟩ : ∃ x : Ext w, W9 = x.val := ⟨⟨W9, hW9⟩, rfl⟩; go_simp; (try with_reducible rfl); done)); (try simp only [Act.put, List.setIfInBounds_toArray, List.set_cons_zero, List.set_cons_succ]))
  refine pm_call rfl (by rfl) (fun K hK => ?_)
  go_simp
  go_at_call 12
  refine (newer_any base g idx term i t L v _ (H.out.gr G74.out)).mono ?_
  rintro en _ ⟨rfl, y, rfl⟩
  have G75 := hid (G74.out.trans y.gr)
  generalize y.val = W5 at *
  refine hK.out (fun W => Gr w W) _ _ G75.out (fun _ h => h) (fun _ => ?_)
  clear hK K
  (try simp only [Act.put, List.setIfInBounds_toArray, List.set_cons_zero, List.set_cons_succ])
  refine pm_call rfl (by rfl) (fun K hK => ?_)
  go_simp
  go_at_call 43
  refine (newerR_any base r idx term i t L _ _ (HR.out.gr G75.out)).mono ?_
  rintro en _ ⟨rfl, y, rfl⟩
  have G76 := hid (G75.out.trans y.gr)
  generalize y.val = W6 at *
  refine hK.out (fun W => Gr w W) _ _ G76.out (fun _ h => h) (fun _ => ?_)
  clear hK K
  (try simp only [Act.put, List.setIfInBounds_toArray, List.set_cons_zero, List.set_cons_succ])
  iterate 11 (refine pm_take (v := ?_) rfl (by rfl) ?_ ?_; rotate_left; (focus (intro W9 hW9; obtain ⟨x9, rfl⟩ : ∃ x : Ext w, W9 = x.val := ⟨⟨W9, hW9⟩, rfl⟩; go_simp; (try with_reducible rfl); done)); (try simp only [Act.put, List.setIfInBounds_toArray, List.set_cons_zero, List.set_cons_succ]))
  refine pm_call rfl (by rfl) (fun K hK => ?_)
  go_simp
  go_at_call 18
  refine (get_any base g idx term i (i + 3) L v _ (H.out.gr G76.out) (Nat.le_trans hbase G76.out.size)).mono ?_
  rintro en _ ⟨u, y, rfl, rfl, ho1⟩
  have G77 := hid (G76.out.trans y.gr)
  obtain ⟨ys1, oy1, oe1⟩ := ho1
  obtain ⟨A1, c1, rfl⟩ : ∃ A1 c1, u = .slice A1 (getL idx L i (i + 3)).length c1 := by
    rcases oy1.2 with ⟨rfl, h0⟩ | ⟨_, _, _, rfl, _⟩
    · exact ⟨none, 0, by rw [h0]⟩
    · exact ⟨_, _, rfl⟩
  have HS0 := hid (show Sl base y.val A1 (getL idx L i (i + 3)) from ⟨ys1, Rd.of_own oy1, oe1⟩)
  clear oy1 oe1
  generalize y.val = W7 at *
  refine hK.out (fun W => Gr w W) _ _ G77.out (fun _ h => h) (fun _ => ?_)
  clear hK K
  (try simp only [Act.put, List.setIfInBounds_toArray, List.set_cons_zero, List.set_cons_succ])
  refine pm_call rfl (by rfl) (fun K hK => ?_)
  go_simp
  go_at_call 44
  refine (getR_any base r idx term i (i + 3) L _ _ (HR.out.gr G77.out) (Nat.le_trans hbase G77.out.size)).mono ?_
  rintro en _ ⟨u, y, rfl, rfl, ho2⟩
  have G78 := hid (G77.out.trans y.gr)
  obtain ⟨A2, c2, rfl, hs2, _⟩ := ho2.shape
  have HS1 := hid (HS0.out.gr y.gr)
  have HS2 := hid hs2
  have HGL := hid (show (getL idx L i (i + 3)).length ≤ 4398046511103 by unfold getL; rw [List.length_drop, List.length_take]; omega)
  clear ho2 hs2
  generalize y.val = W8 at *
  refine hK.out (fun W => Gr w W) _ _ G78.out (fun _ h => h) (fun _ => ?_)
  clear hK K
  (try simp only [Act.put, List.setIfInBounds_toArray, List.set_cons_zero, List.set_cons_succ])
  refine pm_call rfl (by rfl) (fun K hK => ?_)
  go_simp
  go_at_call 26
  refine (same_any base A1 A2 c1 c2 (getL idx L i (i + 3)) _ HS1.out HS2.out HGL.out).mono ?_
  rintro en _ ⟨rfl, y, rfl⟩
  have G79 := hid (G78.out.trans y.gr)
  generalize y.val = W9 at *
  refine hK.out (fun W => Gr w W) _ _ G79.out (fun _ h => h) (fun _ => ?_)
  clear hK K
  (try simp only [Act.put, List.setIfInBounds_toArray, List.set_cons_zero, List.set_cons_succ])
  iterate 1 (refine pm_take (v := ?_) rfl (by rfl) ?_ ?_; rotate_left; (focus (intro W9 hW9; obtain ⟨x9, rfl⟩ : ∃ x : Ext w, W9 = x.val := ⟨⟨W9, hW9⟩, rfl⟩; go_simp; (try with_reducible rfl); done)); (try simp only [Act.put, List.setIfInBounds_toArray, List.set_cons_zero, List.set_cons_succ]))
  refine pm_last rfl (by rfl) (fun K hK => ?_)
  go_simp
  refine hK.out _ _ (NoPanic.normal ?_)
  clear hK K
  go_wp2_with fail
  go_ret
  exact ⟨rfl, G79.out⟩
end Go.Proofs.Ythiahnpijdkboaa
