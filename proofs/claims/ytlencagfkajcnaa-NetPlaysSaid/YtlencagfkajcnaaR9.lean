import Derived.Test.YtlencagfkajcnaaR4
import Derived.Test.YtlencagfkajcnaaPlan3
import Derived.Test.YtlencagfkajcnaaM9
import Derived.Deep.Cut
import Derived.Deep.CutRange
namespace Go.Proofs.Ytlencagfkajcnaa
open Go.RowKit Go.Ext Go.BigFrame Go.Maps
attribute [local go_sem] Ext.cell Ext.frozen Ext.lt Ext.le s1 s2 s3 s4 s5 s6 t1 t2 t3 t4 t5 t6
attribute [local go_sem ↓] Go.wp_at_zero Go.wp_at_succ

set_option maxRecDepth 100000 in
theorem againR_miss (base g : Nat) (nodes sent k : Int) (C : List (Int × Int)) (P : List Pk) (w : World) (h : Rt base w g nodes sent C P) (hok : okN P k = false) :
    Calls Try.prog 36 #[.pointer (some ⟨g, 0, none⟩), .int .i64 k] w (RetR base g nodes sent C P (.int .i64 2) w) := by
  have hq : ∀ e w', (e = .returned (.int .i64 2) ∧ Gr w w') → RetR base g nodes sent C P (.int .i64 2) w e w' := fun e w' hh => ⟨hh.1, h.gr hh.2, MR.of_gr hh.2⟩
  refine Calls.mono ?_ hq
  clear hq
  obtain ⟨v, vc, L, h⟩ := h
  have hlen := h.dat.len
  have hlt := h.lt
  obtain ⟨A, cp, rfl⟩ := h.shape
  obtain ⟨_, _, c2, _, _, _, _⟩ := h.cs
  by_cases h1 : k < 0
  · clear hok h hlen
    go_enter Try.func36, Try.ntmps36
    go_wp2_with fail
    go_ret
    exact ⟨rfl, Gr.refl _⟩
  · have h2 : ¬ k < (L.length : Int) := by
      intro h
      unfold okN at hok
      simp at hok
      omega
    have h3 : (L.length : Int) ≤ k := by omega
    clear hok h hlen
    go_enter Try.func36, Try.ntmps36
    go_wp2_with fail
    go_ret
    exact ⟨rfl, Gr.refl _⟩
set_option maxRecDepth 100000 in
theorem againR_full (base g i : Nat) (nodes sent : Int) (C : List (Int × Int)) (P : List Pk) (w : World) (h : Rt base w g nodes sent C P) (hi : i < P.length) (hl : 4096 ≤ P.length) (hl2 : P.length ≤ 1000000) :
    Calls Try.prog 36 #[.pointer (some ⟨g, 0, none⟩), .int .i64 i] w (RetR base g nodes sent C P (.int .i64 4) w) := by
  have hq : ∀ e w', (e = .returned (.int .i64 4) ∧ Gr w w') → RetR base g nodes sent C P (.int .i64 4) w e w' := fun e w' hh => ⟨hh.1, h.gr hh.2, MR.of_gr hh.2⟩
  refine Calls.mono ?_ hq
  clear hq
  obtain ⟨v, vc, L, h⟩ := h
  have hlen := h.dat.len
  have hlt := h.lt
  obtain ⟨A, cp, rfl⟩ := h.shape
  obtain ⟨_, _, c2, _, _, _, _⟩ := h.cs
  have h1 : i < L.length := by omega
  have h2 : (4096 : Int) ≤ (L.length : Int) := by omega
  clear h hlen
  go_enter Try.func36, Try.ntmps36
  go_wp2_with fail
  go_ret
  exact ⟨rfl, Gr.refl _⟩

theorem own_made1 (w : World) (o : Obj) : (((w.drew).alloc o).alloc (.cells #[] 71)).ownsRow w.heap.size 71 4 (.slice (some ⟨w.heap.size + 1, 0, none⟩) 0 0) 0 [] := by
  have := World.ownsRow_made (base := w.heap.size) (e := 71) (size := 4) ((w.drew).alloc o) #[] 0 (by simp) (by decide) rfl
  rw [show ((w.drew).alloc o).heap.size = w.heap.size + 1 by simp] at this
  exact this

set_option maxRecDepth 100000 in
set_option maxHeartbeats 4000000 in
theorem againR_ok (base g i : Nat) (nodes sent : Int) (v vc : Value) (L : List It) (C : List (Int × Int)) (P : List Pk) (w : World) (h : RB base w g nodes sent v vc L C P) (hi : i < L.length) (hl : L.length < 4096) (hbase : base ≤ w.heap.size) :
    Calls Try.prog 36 #[.pointer (some ⟨g, 0, none⟩), .int .i64 i] w (RetR base g nodes sent C (dupF P i) (.int .i64 0) w) := by
  have hlen := h.dat.len
  have hlt := h.lt
  have HPP := hid (show ∀ k, k < L.length → (L.getD k z0).2.2.1 = (P.getD k p0).2.2.1 from fun k hk => (h.dat.get k hk).2.2.1)
  have H := hid h
  obtain ⟨r, cp, rfl, hcap, hm, hb, hr, hc⟩ := own_open h.row (by omega)
  have RD := hid (Rd.of_own h.row)
  obtain ⟨_, _, c2, _, _, kf2, _⟩ := h.cs
  have d0 := hc _ _ (cs6_get L i 0 hi (by omega))
  have d1 := hc _ _ (cs6_get L i 1 hi (by omega))
  have d2 := hc _ _ (cs6_get L i 2 hi (by omega))
  have d3 := hc _ _ (cs6_get L i 3 hi (by omega))
  have HCC := hid hc
  obtain ⟨⟨f, t, q, A', l', c'⟩, hy⟩ : ∃ y, L.getD i z0 = y := ⟨_, rfl⟩
  rw [hy] at d0 d1 d2 d3
  simp only [Nat.add_zero] at d0 d1 d2 d3
  have HY := hid hy
  obtain ⟨i0, hi0, hz0, hz1, hz2⟩ := info_parts (info71.trans info33)
  have HLEN := hid hlen
  clear h hc hb hy hlen
  go_enter Try.func36, Try.ntmps36
  go_wp2_with fail
  have HB := hid (heap_alloc_new w (.cells #[.int .i64 f, .int .i64 t, .int .i64 q, .slice A' l' c'] 71))
  have G1 := hid (((Gr.refl w).alloc (.cells #[.int .i64 f, .int .i64 t, .int .i64 q, .slice A' l' c'] 71)))
  generalize w.alloc (.cells #[.int .i64 f, .int .i64 t, .int .i64 q, .slice A' l' c'] 71) = W1 at *
  clear d0 d1 d2 d3
  go_loopw [6] (fun j wr => ∃ k : Nat, i ≤ k ∧ k ≤ L.length ∧ j = .int .i64 k ∧ Gr W1 wr ∧ ∀ t, i ≤ t → t < k → (L.getD t z0).2.2.1 = q) (fun j _ => L.length - (intOf j).toNat)
  case atStart => exact ⟨i, Nat.le_refl _, Nat.le_of_lt hi, rfl, Gr.refl _, fun t h1 h2 => by omega⟩
  case round =>
    obtain ⟨k, hik, hk, rfl, hg, hno⟩ := hrel
    have HG := hid hg
    have HN := hid hno
    have GG := hid (G1.out.trans hg)
    have hsz := GG.out.size
    obtain ⟨_, _, c02, _, _, f02, _⟩ := (H.out.gr GG.out).cs
    have hlt2 : g < wr.heap.size := by omega
    have hb := (HG.out.block w.heap.size (Array.getElem?_eq_some_iff.1 HB.out).1).trans HB.out
    obtain ⟨b0, b1, b2, b3, _⟩ := heap4 hb
    have hbl : w.heap.size < wr.heap.size := (Array.getElem?_eq_some_iff.1 hb).1
    have HBR := hid hb
    have hrr : r < wr.heap.size := by omega
    have HTL := hid (show (cs6 (L.take k)).length = k * 4 by rw [cs6_length, List.length_take]; congr 1; omega)
    have hkc : k ≤ cp := by omega
    clear hg hno hb
    by_cases hgo : k < L.length ∧ (L.getD k z0).2.2.1 = q
    · obtain ⟨hlt3, hcm3⟩ := hgo
      have d2 := (GG.out.cell (p := ⟨r, k * 4 + 2, none⟩) hr).trans (HCC.out _ _ (cs6_get L k 2 hlt3 (by omega)))
      have HCM := hid hcm3
      rw [hcm3] at d2
      clear hcm3
      go_wp2_with fail
      refine wp_region_ext (by kernel_rfl) (by kernel_rfl) ?_
      repeat (go_big_quiet_step (fail))
      refine wpQuiet_nil ?_
      rintro _ ⟨z, rfl⟩
      go_wp2_with fail
      go_roundw
      case rel =>
        refine ⟨k + 1, by omega, by omega, by go_num, HG.out.ext z, fun t h1 h2 => ?_⟩
        by_cases e : t = k
        · subst e; exact HCM.out
        · exact HN.out t h1 (by omega)
      case measure => simp [intOf]; omega
    · have hstop : k < L.length → (L.getD k z0).2.2.1 ≠ q := fun h1 h2 => hgo ⟨h1, h2⟩
      have HAT := hid (show atF P i = k from atF_eq P i k hik (by have := HLEN.out; omega) (fun t h1 h2 => by
        rw [← HPP.out t (by omega), ← HPP.out i hi, HN.out t h1 h2, HY.out]) (fun h1 => by
        rw [← HPP.out k (by have := HLEN.out; omega), ← HPP.out i hi, HY.out]; exact hstop (by have := HLEN.out; omega)))
      clear hgo
      have hcase : k = L.length ∨ k < L.length := by omega
      rcases hcase with hke | hlt3
      · have HKE := hid hke
        have hkd : ¬ k < L.length := by omega
        have hkd2 : decide ((k : Int) < (L.length : Int)) = false := decide_eq_false (by omega)
        clear hke hstop
        go_wp2_with fail
        refine wp_region_ext (by kernel_rfl) (by kernel_rfl) ?_
        repeat (go_big_quiet_step (fail))
        refine wpQuiet_nil ?_
        rintro _ ⟨z, rfl⟩
        go_wp2_with fail
        have GW := hid (GG.out.ext z)
        have hWr := z.gr
        have hcz := GW.out.size
        have HS9 := hid (show ∀ W, Gr z.val W → (W.cell? ⟨g, 2, none⟩ = some (.slice (some ⟨r, 0, none⟩) L.length cp) ∧ W.cell? ⟨w.heap.size, 0, none⟩ = some (.int .i64 f) ∧ W.cell? ⟨w.heap.size, 1, none⟩ = some (.int .i64 t) ∧ W.cell? ⟨w.heap.size, 2, none⟩ = some (.int .i64 q) ∧ W.cell? ⟨w.heap.size, 3, none⟩ = some (.slice A' l' c')) from fun W y => by
          have hb2 := ((hWr.trans y).block w.heap.size hbl).trans HBR.out
          obtain ⟨b0, b1, b2, b3, _⟩ := heap4 hb2
          exact ⟨(H.out.gr (GW.out.trans y)).cs.2.2.1, b0, b1, b2, b3⟩)
        have HRT := hid (show Rd z.val (some ⟨r, 0, none⟩) (cs6 (L.take k)) by rw [cs6_take4]; exact Rd.gr (Rd.take RD.out _) GW.out)
        generalize z.val = W2 at *
        have hg02 : g < W2.heap.size := by omega
        have hb02 : w.heap.size < W2.heap.size := Nat.lt_of_lt_of_le hbl hWr.size
        obtain ⟨_, _, _, _, _⟩ := HS9.out W2 (Gr.refl W2)
        have ef1 : decide (L.length ≤ i) = false := decide_eq_false (by omega)
        simp only [ef1, Bool.or_false]
        clear ef1
        go_cut [7] from 55 to 65 (fun s wx => ∃ D c, s = .slice D (k + 1) c ∧ wx.ownsRow W2.heap.size 71 4 s (k + 1) (cs6 (L.take k) ++ [.int .i64 f, .int .i64 t, .int .i64 q, .slice A' l' c']) ∧ Gr W2 wx)
        case first =>
          refine wp_region_noPanic ?_
          refine wp_region_fork [1, 2, 3, 4, 5, 6, 8] 5 (fun w' => w'.cell? ⟨g, 2, none⟩ = some (.slice (some ⟨r, 0, none⟩) L.length cp) ∧ w'.cell? ⟨w.heap.size, 0, none⟩ = some (.int .i64 f) ∧ w'.cell? ⟨w.heap.size, 1, none⟩ = some (.int .i64 t) ∧ w'.cell? ⟨w.heap.size, 2, none⟩ = some (.int .i64 q) ∧ w'.cell? ⟨w.heap.size, 3, none⟩ = some (.slice A' l' c')) (by kernel_rfl) (by kernel_rfl) (fun _ _ _ _ _ h => h) (HS9.out _ (Gr.refl W2).drew) (fun hHeld => ?_)
          iterate 7 (refine pre_take (v := ?_) rfl (by rfl) ?_ ?_; rotate_left; (focus (intro W9 hW9; (try dsimp only at hW9); go_simp; (try with_reducible rfl); done)); (try simp only [Act.put, List.setIfInBounds_toArray, List.set_cons_zero, List.set_cons_succ]))
          intro hcl
          refine wpAnyW_fork hcl (i := 0) (j := 9) (by kernel_rfl) (fun hcl1 => ?_) (fun hcl1 => ?_)
          · refine wpOpW_step rfl (by rfl) (fun K hK => ?_)
            go_simp
            refine hK.out _ _ _ (HS9.out _ (by repeat (first | exact Gr.refl _ | assumption | exact HW3.out | refine Gr.alloc ?_ _ | refine Gr.drew ?_))) (fun _ h => h) (fun _ => ?_)
            clear hK K
            have HE := hid (World.ownsRow_made (base := W2.heap.size) (e := 71) (size := 4) W2.drew #[] 0 (Nat.le_refl _) (by decide) rfl)
            (try simp only [Act.put, List.setIfInBounds_toArray, List.set_cons_zero, List.set_cons_succ])
            refine wpAnyW_fork hcl1 (i := 7) (j := 9) (by kernel_rfl) (fun hcl2 => ?_) (fun hcl2 => ?_)
            · refine wpOpW_stepL rfl (by rfl) (fun K hK => ?_)
              refine step_append_any (by rfl) (.tmp 55) (.tmp 61) 50 (by rfl) W2.heap.size 71 i0 _ 4 48 Try.underlying50 hi0 hz0 hz1 hz2 rfl (by decide) none50 (.slice (some ⟨W2.heap.size, 0, none⟩) 0 0) 0 [] (by rfl) HE.out (some ⟨r, 0, none⟩) k cp (cs6 (L.take k)) (by rfl) HTL.out (Rd.gr HRT.out (by repeat (first | exact Gr.refl _ | assumption | exact HW3.out | refine Gr.alloc ?_ _ | refine Gr.drew ?_))) (fun e => by cases e) (cs6_one _) (by unfold maxLen; omega) (by omega) (by simp <;> omega) ?_
              intro v1 w3 hown1 hgr1
              obtain ⟨D1, n1, rfl⟩ : ∃ D1 n1, v1 = .slice D1 k n1 := by have := own_shape hown1; rwa [Nat.zero_add] at this
              have HW3 := hid (show Gr W2 w3 from gr_grown (by repeat (first | exact Gr.refl _ | assumption | refine Gr.alloc ?_ _ | refine Gr.drew ?_)) hgr1 (by intro k hk; simp [Value.ownBlock] at hk; omega))
              have HO1 := hid (show w3.ownsRow W2.heap.size 71 4 (.slice D1 k n1) k (cs6 (L.take k)) by have := hown1; rwa [Nat.zero_add, List.nil_append] at this)
              have hsz3 := HW3.out.size
              have hc53 := HS9.out _ HW3.out
              obtain ⟨x0, x1, x2, x3, x4⟩ := hc53
              have hb53 : w.heap.size < w3.heap.size := by omega
              have hg53 : g < w3.heap.size := by omega
              refine hK.out _ _ _ (HS9.out _ HW3.out) (fun _ h => h) (fun _ => ?_)
              clear hK K hown1 hgr1
              (try simp only [Act.put, List.setIfInBounds_toArray, List.set_cons_zero, List.set_cons_succ])
              refine wpAnyW_go [(9, true), (10, true), (11, true)] hcl2 (by kernel_rfl) (fun _ _ _ _ _ h => h) (HS9.out _ HW3.out) ?_
              refine pm_call rfl (by rfl) (fun K hK => ?_)
              go_simp
              refine hK.out _ _ _ (HS9.out _ (by repeat (first | exact Gr.refl _ | assumption | exact HW3.out | refine Gr.alloc ?_ _ | refine Gr.drew ?_))) (fun _ h => h) (fun _ => ?_)
              clear hK K
              (try simp only [Act.put, List.setIfInBounds_toArray, List.set_cons_zero, List.set_cons_succ])
              refine pm_law rfl (by rfl) (fun K hK => ?_)
              refine step_append_any (by rfl) (.tmp 62) (.tmp 64) 50 (by rfl) W2.heap.size 71 i0 _ 4 48 Try.underlying50 hi0 hz0 hz1 hz2 rfl (by decide) none50 (.slice D1 k n1) k (cs6 (L.take k)) (by rfl) (own_gr HO1.out ((Gr.refl w3).alloc _)) (some ⟨w3.heap.size, 0, none⟩) 1 1 [.int .i64 f, .int .i64 t, .int .i64 q, .slice A' l' c'] (by rfl) rfl (Rd.block (heap_alloc_new w3 (.cells #[.int .i64 f, .int .i64 t, .int .i64 q, .slice A' l' c'] 71))) (fun e => by cases e) (by simp [Value.oneCell']) (by unfold maxLen; omega) (by omega) (by simp <;> omega) ?_
              intro v2 w4 hown2 hgr2
              obtain ⟨D2, c2, rfl⟩ := own_shape hown2
              have HW4 := hid (show Gr W2 w4 from gr_grown (HW3.out.alloc _) hgr2 (fun q e => (HO1.out.lt q e).1))
              have HO2 := hid hown2
              refine hK.out _ _ _ (HS9.out _ HW4.out) (fun _ h => h) (fun _ => ?_)
              clear hK K hown2 hgr2
              (try simp only [Act.put, List.setIfInBounds_toArray, List.set_cons_zero, List.set_cons_succ])
              refine pm_last rfl (by rfl) (fun K hK => ?_)
              go_simp
              refine hK.out _ _ (NoPanic.normal ?_)
              clear hK K
              go_wp2_with fail
              go_meet
              exact ⟨D2, c2, rfl, HO2.out, HW4.out⟩
            · have HX := hid (two_made W2.drew (.cells #[] 71) (.cells #[.int .i64 f, .int .i64 t, .int .i64 q, .slice A' l' c'] 71)).2
              refine wpOpW_step rfl (by rfl) (fun K hK => ?_)
              go_simp
              refine hK.out _ _ _ (HS9.out _ (by repeat (first | exact Gr.refl _ | assumption | exact HW3.out | refine Gr.alloc ?_ _ | refine Gr.drew ?_))) (fun _ h => h) (fun _ => ?_)
              clear hK K
              (try simp only [Act.put, List.setIfInBounds_toArray, List.set_cons_zero, List.set_cons_succ])
              refine wpAnyW_go [(7, true), (10, true), (11, true)] hcl2 (by kernel_rfl) (fun _ _ _ _ _ h => h) (HS9.out _ (by repeat (first | exact Gr.refl _ | assumption | refine Gr.alloc ?_ _ | refine Gr.drew ?_))) ?_
              refine pm_law rfl (by rfl) (fun K hK => ?_)
              refine step_append_any (by rfl) (.tmp 55) (.tmp 61) 50 (by rfl) W2.heap.size 71 i0 _ 4 48 Try.underlying50 hi0 hz0 hz1 hz2 rfl (by decide) none50 (.slice (some ⟨W2.heap.size, 0, none⟩) 0 0) 0 [] (by rfl) (own_gr HE.out ((Gr.refl _).alloc _)) (some ⟨r, 0, none⟩) k cp (cs6 (L.take k)) (by rfl) HTL.out (Rd.gr HRT.out (by repeat (first | exact Gr.refl _ | assumption | exact HW3.out | refine Gr.alloc ?_ _ | refine Gr.drew ?_))) (fun e => by cases e) (cs6_one _) (by unfold maxLen; omega) (by omega) (by simp <;> omega) ?_
              intro v1 w3 hown1 hgr1
              obtain ⟨D1, n1, rfl⟩ : ∃ D1 n1, v1 = .slice D1 k n1 := by have := own_shape hown1; rwa [Nat.zero_add] at this
              have HW3 := hid (show Gr W2 w3 from gr_grown (by repeat (first | exact Gr.refl _ | assumption | refine Gr.alloc ?_ _ | refine Gr.drew ?_)) hgr1 (by intro k hk; simp [Value.ownBlock] at hk; omega))
              have HO1 := hid (show w3.ownsRow W2.heap.size 71 4 (.slice D1 k n1) k (cs6 (L.take k)) by have := hown1; rwa [Nat.zero_add, List.nil_append] at this)
              have hsz3 := HW3.out.size
              have hc53 := HS9.out _ HW3.out
              obtain ⟨x0, x1, x2, x3, x4⟩ := hc53
              have hb53 : w.heap.size < w3.heap.size := by omega
              have hg53 : g < w3.heap.size := by omega
              have HXB := hid ((hgr1.block (W2.heap.size + 1) (by simp) (by simp [Value.ownBlock])).trans HX.out)
              refine hK.out _ _ _ (HS9.out _ HW3.out) (fun _ h => h) (fun _ => ?_)
              clear hK K hown1 hgr1
              (try simp only [Act.put, List.setIfInBounds_toArray, List.set_cons_zero, List.set_cons_succ])
              refine pm_law rfl (by rfl) (fun K hK => ?_)
              refine step_append_any (by rfl) (.tmp 62) (.tmp 64) 50 (by rfl) W2.heap.size 71 i0 _ 4 48 Try.underlying50 hi0 hz0 hz1 hz2 rfl (by decide) none50 (.slice D1 k n1) k (cs6 (L.take k)) (by rfl) HO1.out (some ⟨W2.heap.size + 1, 0, none⟩) 1 1 [.int .i64 f, .int .i64 t, .int .i64 q, .slice A' l' c'] (by rfl) rfl (Rd.block HXB.out) (fun e => by cases e) (by simp [Value.oneCell']) (by unfold maxLen; omega) (by omega) hsz3 ?_
              intro v2 w4 hown2 hgr2
              obtain ⟨D2, c2, rfl⟩ := own_shape hown2
              have HW4 := hid (show Gr W2 w4 from gr_grown HW3.out hgr2 (fun q e => (HO1.out.lt q e).1))
              have HO2 := hid hown2
              refine hK.out _ _ _ (HS9.out _ HW4.out) (fun _ h => h) (fun _ => ?_)
              clear hK K hown2 hgr2
              (try simp only [Act.put, List.setIfInBounds_toArray, List.set_cons_zero, List.set_cons_succ])
              refine pm_last rfl (by rfl) (fun K hK => ?_)
              go_simp
              refine hK.out _ _ (NoPanic.normal ?_)
              clear hK K
              go_wp2_with fail
              go_meet
              exact ⟨D2, c2, rfl, HO2.out, HW4.out⟩
          · have HX := hid (two_made W2.drew (.cells #[.int .i64 f, .int .i64 t, .int .i64 q, .slice A' l' c'] 71) (.cells #[] 71)).1
            refine wpOpW_step rfl (by rfl) (fun K hK => ?_)
            go_simp
            refine hK.out _ _ _ (HS9.out _ (by repeat (first | exact Gr.refl _ | assumption | exact HW3.out | refine Gr.alloc ?_ _ | refine Gr.drew ?_))) (fun _ h => h) (fun _ => ?_)
            clear hK K
            have HE := hid (own_made1 W2 (.cells #[.int .i64 f, .int .i64 t, .int .i64 q, .slice A' l' c'] 71))
            (try simp only [Act.put, List.setIfInBounds_toArray, List.set_cons_zero, List.set_cons_succ])
            refine wpAnyW_go [(0, true), (7, true), (10, true), (11, true)] hcl1 (by kernel_rfl) (fun _ _ _ _ _ h => h) (HS9.out _ (by repeat (first | exact Gr.refl _ | assumption | refine Gr.alloc ?_ _ | refine Gr.drew ?_))) ?_
            refine pm_call rfl (by rfl) (fun K hK => ?_)
            go_simp
            refine hK.out _ _ _ (HS9.out _ (by repeat (first | exact Gr.refl _ | assumption | exact HW3.out | refine Gr.alloc ?_ _ | refine Gr.drew ?_))) (fun _ h => h) (fun _ => ?_)
            clear hK K
            (try simp only [Act.put, List.setIfInBounds_toArray, List.set_cons_zero, List.set_cons_succ])
            refine pm_law rfl (by rfl) (fun K hK => ?_)
            refine step_append_any (by rfl) (.tmp 55) (.tmp 61) 50 (by rfl) W2.heap.size 71 i0 _ 4 48 Try.underlying50 hi0 hz0 hz1 hz2 rfl (by decide) none50 (.slice (some ⟨W2.heap.size + 1, 0, none⟩) 0 0) 0 [] (by rfl) HE.out (some ⟨r, 0, none⟩) k cp (cs6 (L.take k)) (by rfl) HTL.out (Rd.gr HRT.out (by repeat (first | exact Gr.refl _ | assumption | exact HW3.out | refine Gr.alloc ?_ _ | refine Gr.drew ?_))) (fun e => by cases e) (cs6_one _) (by unfold maxLen; omega) (by omega) (by simp <;> omega) ?_
            intro v1 w3 hown1 hgr1
            obtain ⟨D1, n1, rfl⟩ : ∃ D1 n1, v1 = .slice D1 k n1 := by have := own_shape hown1; rwa [Nat.zero_add] at this
            have HW3 := hid (show Gr W2 w3 from gr_grown (by repeat (first | exact Gr.refl _ | assumption | refine Gr.alloc ?_ _ | refine Gr.drew ?_)) hgr1 (by intro k hk; simp [Value.ownBlock] at hk; omega))
            have HO1 := hid (show w3.ownsRow W2.heap.size 71 4 (.slice D1 k n1) k (cs6 (L.take k)) by have := hown1; rwa [Nat.zero_add, List.nil_append] at this)
            have hsz3 := HW3.out.size
            have hc53 := HS9.out _ HW3.out
            obtain ⟨x0, x1, x2, x3, x4⟩ := hc53
            have hb53 : w.heap.size < w3.heap.size := by omega
            have hg53 : g < w3.heap.size := by omega
            have HXB := hid ((hgr1.block W2.heap.size (by simp <;> omega) (by simp [Value.ownBlock])).trans HX.out)
            refine hK.out _ _ _ (HS9.out _ HW3.out) (fun _ h => h) (fun _ => ?_)
            clear hK K hown1 hgr1
            (try simp only [Act.put, List.setIfInBounds_toArray, List.set_cons_zero, List.set_cons_succ])
            refine pm_law rfl (by rfl) (fun K hK => ?_)
            refine step_append_any (by rfl) (.tmp 62) (.tmp 64) 50 (by rfl) W2.heap.size 71 i0 _ 4 48 Try.underlying50 hi0 hz0 hz1 hz2 rfl (by decide) none50 (.slice D1 k n1) k (cs6 (L.take k)) (by rfl) HO1.out (some ⟨W2.heap.size, 0, none⟩) 1 1 [.int .i64 f, .int .i64 t, .int .i64 q, .slice A' l' c'] (by rfl) rfl (Rd.block HXB.out) (fun e => by cases e) (by simp [Value.oneCell']) (by unfold maxLen; omega) (by omega) hsz3 ?_
            intro v2 w4 hown2 hgr2
            obtain ⟨D2, c2, rfl⟩ := own_shape hown2
            have HW4 := hid (show Gr W2 w4 from gr_grown HW3.out hgr2 (fun q e => (HO1.out.lt q e).1))
            have HO2 := hid hown2
            refine hK.out _ _ _ (HS9.out _ HW4.out) (fun _ h => h) (fun _ => ?_)
            clear hK K hown2 hgr2
            (try simp only [Act.put, List.setIfInBounds_toArray, List.set_cons_zero, List.set_cons_succ])
            refine pm_last rfl (by rfl) (fun K hK => ?_)
            go_simp
            refine hK.out _ _ (NoPanic.normal ?_)
            clear hK K
            go_wp2_with fail
            go_meet
            exact ⟨D2, c2, rfl, HO2.out, HW4.out⟩
        case rest =>
          obtain ⟨D2, c2, rfl, ho2, hw3⟩ := hcut
          have HO2 := hid ho2
          have HW3 := hid hw3
          clear ho2 hw3
          generalize wc = w3 at *
          have GF := hid (GW.out.trans HW3.out)
          obtain ⟨_, _, c03, _, _, f03, _⟩ := (H.out.gr GF.out).cs
          have hg3 : g < w3.heap.size := Nat.lt_of_lt_of_le hlt GF.out.size
          have HDL := hid (show (cs6 (L.drop k)).length = (L.length - k) * 4 by rw [cs6_length, List.length_drop])
          have HT := hid (show Rd w3 (if cp = k then some (⟨r, 0, none⟩ : Addr) else some ⟨r, k * 4, none⟩) (cs6 (L.drop k)) by rw [cs6_drop4]; exact Rd.gr (tail_rd RD.out (by intro e; rw [cs6_length]; omega)) GF.out)
          have hfin : ∀ (wz : World) (D4 : Option Addr) (n4 c4 : Nat), Gr W2 wz → wz.ownsRow W2.heap.size 71 4 (.slice D4 n4 c4) (k + 1 + (L.length - k)) (cs6 (L.take k) ++ [.int .i64 f, .int .i64 t, .int .i64 q, .slice A' l' c'] ++ cs6 (L.drop k)) → RetR base g nodes sent C (dupF P i) (.int .i64 0) w (.returned (.int .i64 0)) (wz.setCell ⟨g, 2, none⟩ (.slice D4 n4 c4)) := by
            intro wz D4 n4 c4 hw hr
            have GZ := GW.out.trans hw
            have HC4 := (GZ.block g hlt).trans H.out.cell
            have hat := HAT.out
            have hd := H.out.dat.gr GZ
            have hone := hd.get i hi
            rw [HY.out] at hone
            have e2 : cs6 (L.take k ++ (((f, t, q, A', l', c') : It) :: L.drop k)) = cs6 (L.take k) ++ [.int .i64 f, .int .i64 t, .int .i64 q, .slice A' l' c'] ++ cs6 (L.drop k) := by
              rw [cs6_app, List.append_assoc]; rfl
            have e1 : (L.take k ++ (((f, t, q, A', l', c') : It) :: L.drop k)).length = k + 1 + (L.length - k) := by
              rw [List.length_append, List.length_take, List.length_cons, List.length_drop]; omega
            have hr4 : wz.ownsRow base 71 4 (.slice D4 n4 c4) (L.take k ++ (((f, t, q, A', l', c') : It) :: L.drop k)).length (cs6 (L.take k ++ (((f, t, q, A', l', c') : It) :: L.drop k))) := by
              rw [e1, e2]
              exact hr.mono (Nat.le_trans hbase GW.out.size)
            have hd4 : Dat base wz (L.take k ++ (((f, t, q, A', l', c') : It) :: L.drop k)) (dupF P i) := by
              unfold dupF
              rw [hat]
              exact Dat.app (Dat.take k hd) ⟨hone, Dat.drop k hd⟩
            exact ⟨rfl, ⟨_, _, _, RB.put8 H.out.lo H.out.hn HC4 (own_gr H.out.cuts GZ) hr4 hd4⟩, H.out.mr ((GZ.mod (fun x => x = g ∨ (Value.slice (some ⟨r, 0, none⟩) L.length cp).ownBlock = some x ∨ vc.ownBlock = some x)).set (p := ⟨g, 2, none⟩) (fun _ => .inl rfl) _)⟩
          have HFIN := hid hfin
          clear hfin
          rcases Decidable.em (cp = k) with hck | hck
          · rw [if_pos hck] at HT
            go_wp2_with (at_builtin; refine wpList_append_own _ rfl _ _ 50 rfl W2.heap.size 71 i0 _ 4 48 Try.underlying50 hi0 hz0 hz1 hz2 rfl (by decide) (.slice D2 (k + 1) c2) (k + 1) (cs6 (L.take k) ++ [.int .i64 f, .int .i64 t, .int .i64 q, .slice A' l' c']) rfl HO2.out ⟨r, 0, none⟩ (L.length - k) 0 (cs6 (L.drop k)) rfl HDL.out (Rd.add HT.out) (cs6_one _) (by unfold maxLen; omega) (by omega) HW3.out.size ?_
                         intro v4 w4 hown4 hgr4 _
                         obtain ⟨D4, n4, c4, rfl⟩ : ∃ D4 n4 c4, v4 = .slice D4 n4 c4 := by obtain ⟨D4, c4, e⟩ := own_shape hown4; exact ⟨_, _, _, e⟩
                         have HW4 := hid (show Gr W2 w4 from gr_grown HW3.out hgr4 (fun q e => (HO2.out.lt q e).1))
                         have HF4 := hid (HFIN.out w4 _ _ _ HW4.out hown4)
                         obtain ⟨_, _, c04, _, _, f04, _⟩ := (H.out.gr (GW.out.trans HW4.out)).cs
                         have hg4 : g < w4.heap.size := Nat.lt_of_lt_of_le hlt (GW.out.trans HW4.out).size
                         clear hown4 hgr4)
            go_ret
            exact HF4.out
          · rw [if_neg hck] at HT
            go_wp2_with (at_builtin; refine wpList_append_own _ rfl _ _ 50 rfl W2.heap.size 71 i0 _ 4 48 Try.underlying50 hi0 hz0 hz1 hz2 rfl (by decide) (.slice D2 (k + 1) c2) (k + 1) (cs6 (L.take k) ++ [.int .i64 f, .int .i64 t, .int .i64 q, .slice A' l' c']) rfl HO2.out ⟨r, k * 4, none⟩ (L.length - k) (cp - k) (cs6 (L.drop k)) rfl HDL.out (Rd.add HT.out) (cs6_one _) (by unfold maxLen; omega) (by omega) HW3.out.size ?_
                         intro v4 w4 hown4 hgr4 _
                         obtain ⟨D4, n4, c4, rfl⟩ : ∃ D4 n4 c4, v4 = .slice D4 n4 c4 := by obtain ⟨D4, c4, e⟩ := own_shape hown4; exact ⟨_, _, _, e⟩
                         have HW4 := hid (show Gr W2 w4 from gr_grown HW3.out hgr4 (fun q e => (HO2.out.lt q e).1))
                         have HF4 := hid (HFIN.out w4 _ _ _ HW4.out hown4)
                         obtain ⟨_, _, c04, _, _, f04, _⟩ := (H.out.gr (GW.out.trans HW4.out)).cs
                         have hg4 : g < w4.heap.size := Nat.lt_of_lt_of_le hlt (GW.out.trans HW4.out).size
                         clear hown4 hgr4)
            go_ret
            exact HF4.out
      · have d2 := (GG.out.cell (p := ⟨r, k * 4 + 2, none⟩) hr).trans (HCC.out _ _ (cs6_get L k 2 hlt3 (by omega)))
        have hst := hstop hlt3
        obtain ⟨Q, hQ⟩ : ∃ Q, (L.getD k z0).2.2.1 = Q := ⟨_, rfl⟩
        rw [hQ] at d2 hst
        have hqq : (Q == q) = false := by rw [beq_eq_false_iff_ne]; exact hst
        clear hstop hst hQ
        go_wp2_with fail
        refine wp_region_ext (by kernel_rfl) (by kernel_rfl) ?_
        repeat (go_big_quiet_step (fail))
        refine wpQuiet_nil ?_
        rintro _ ⟨z, rfl⟩
        go_wp2_with fail
        have GW := hid (GG.out.ext z)
        have hWr := z.gr
        have hcz := GW.out.size
        have HS9 := hid (show ∀ W, Gr z.val W → (W.cell? ⟨g, 2, none⟩ = some (.slice (some ⟨r, 0, none⟩) L.length cp) ∧ W.cell? ⟨w.heap.size, 0, none⟩ = some (.int .i64 f) ∧ W.cell? ⟨w.heap.size, 1, none⟩ = some (.int .i64 t) ∧ W.cell? ⟨w.heap.size, 2, none⟩ = some (.int .i64 q) ∧ W.cell? ⟨w.heap.size, 3, none⟩ = some (.slice A' l' c')) from fun W y => by
          have hb2 := ((hWr.trans y).block w.heap.size hbl).trans HBR.out
          obtain ⟨b0, b1, b2, b3, _⟩ := heap4 hb2
          exact ⟨(H.out.gr (GW.out.trans y)).cs.2.2.1, b0, b1, b2, b3⟩)
        have HRT := hid (show Rd z.val (some ⟨r, 0, none⟩) (cs6 (L.take k)) by rw [cs6_take4]; exact Rd.gr (Rd.take RD.out _) GW.out)
        generalize z.val = W2 at *
        have hg02 : g < W2.heap.size := by omega
        have hb02 : w.heap.size < W2.heap.size := Nat.lt_of_lt_of_le hbl hWr.size
        obtain ⟨_, _, _, _, _⟩ := HS9.out W2 (Gr.refl W2)
        have ef1 : decide (L.length ≤ i) = false := decide_eq_false (by omega)
        simp only [ef1, Bool.or_false]
        clear ef1
        go_cut [7] from 55 to 65 (fun s wx => ∃ D c, s = .slice D (k + 1) c ∧ wx.ownsRow W2.heap.size 71 4 s (k + 1) (cs6 (L.take k) ++ [.int .i64 f, .int .i64 t, .int .i64 q, .slice A' l' c']) ∧ Gr W2 wx)
        case first =>
          refine wp_region_noPanic ?_
          refine wp_region_fork [1, 2, 3, 4, 5, 6, 8] 5 (fun w' => w'.cell? ⟨g, 2, none⟩ = some (.slice (some ⟨r, 0, none⟩) L.length cp) ∧ w'.cell? ⟨w.heap.size, 0, none⟩ = some (.int .i64 f) ∧ w'.cell? ⟨w.heap.size, 1, none⟩ = some (.int .i64 t) ∧ w'.cell? ⟨w.heap.size, 2, none⟩ = some (.int .i64 q) ∧ w'.cell? ⟨w.heap.size, 3, none⟩ = some (.slice A' l' c')) (by kernel_rfl) (by kernel_rfl) (fun _ _ _ _ _ h => h) (HS9.out _ (Gr.refl W2).drew) (fun hHeld => ?_)
          iterate 7 (refine pre_take (v := ?_) rfl (by rfl) ?_ ?_; rotate_left; (focus (intro W9 hW9; (try dsimp only at hW9); go_simp; (try with_reducible rfl); done)); (try simp only [Act.put, List.setIfInBounds_toArray, List.set_cons_zero, List.set_cons_succ]))
          intro hcl
          refine wpAnyW_fork hcl (i := 0) (j := 9) (by kernel_rfl) (fun hcl1 => ?_) (fun hcl1 => ?_)
          · refine wpOpW_step rfl (by rfl) (fun K hK => ?_)
            go_simp
            refine hK.out _ _ _ (HS9.out _ (by repeat (first | exact Gr.refl _ | assumption | exact HW3.out | refine Gr.alloc ?_ _ | refine Gr.drew ?_))) (fun _ h => h) (fun _ => ?_)
            clear hK K
            have HE := hid (World.ownsRow_made (base := W2.heap.size) (e := 71) (size := 4) W2.drew #[] 0 (Nat.le_refl _) (by decide) rfl)
            (try simp only [Act.put, List.setIfInBounds_toArray, List.set_cons_zero, List.set_cons_succ])
            refine wpAnyW_fork hcl1 (i := 7) (j := 9) (by kernel_rfl) (fun hcl2 => ?_) (fun hcl2 => ?_)
            · refine wpOpW_stepL rfl (by rfl) (fun K hK => ?_)
              refine step_append_any (by rfl) (.tmp 55) (.tmp 61) 50 (by rfl) W2.heap.size 71 i0 _ 4 48 Try.underlying50 hi0 hz0 hz1 hz2 rfl (by decide) none50 (.slice (some ⟨W2.heap.size, 0, none⟩) 0 0) 0 [] (by rfl) HE.out (some ⟨r, 0, none⟩) k cp (cs6 (L.take k)) (by rfl) HTL.out (Rd.gr HRT.out (by repeat (first | exact Gr.refl _ | assumption | exact HW3.out | refine Gr.alloc ?_ _ | refine Gr.drew ?_))) (fun e => by cases e) (cs6_one _) (by unfold maxLen; omega) (by omega) (by simp <;> omega) ?_
              intro v1 w3 hown1 hgr1
              obtain ⟨D1, n1, rfl⟩ : ∃ D1 n1, v1 = .slice D1 k n1 := by have := own_shape hown1; rwa [Nat.zero_add] at this
              have HW3 := hid (show Gr W2 w3 from gr_grown (by repeat (first | exact Gr.refl _ | assumption | refine Gr.alloc ?_ _ | refine Gr.drew ?_)) hgr1 (by intro k hk; simp [Value.ownBlock] at hk; omega))
              have HO1 := hid (show w3.ownsRow W2.heap.size 71 4 (.slice D1 k n1) k (cs6 (L.take k)) by have := hown1; rwa [Nat.zero_add, List.nil_append] at this)
              have hsz3 := HW3.out.size
              have hc53 := HS9.out _ HW3.out
              obtain ⟨x0, x1, x2, x3, x4⟩ := hc53
              have hb53 : w.heap.size < w3.heap.size := by omega
              have hg53 : g < w3.heap.size := by omega
              refine hK.out _ _ _ (HS9.out _ HW3.out) (fun _ h => h) (fun _ => ?_)
              clear hK K hown1 hgr1
              (try simp only [Act.put, List.setIfInBounds_toArray, List.set_cons_zero, List.set_cons_succ])
              refine wpAnyW_go [(9, true), (10, true), (11, true)] hcl2 (by kernel_rfl) (fun _ _ _ _ _ h => h) (HS9.out _ HW3.out) ?_
              refine pm_call rfl (by rfl) (fun K hK => ?_)
              go_simp
              refine hK.out _ _ _ (HS9.out _ (by repeat (first | exact Gr.refl _ | assumption | exact HW3.out | refine Gr.alloc ?_ _ | refine Gr.drew ?_))) (fun _ h => h) (fun _ => ?_)
              clear hK K
              (try simp only [Act.put, List.setIfInBounds_toArray, List.set_cons_zero, List.set_cons_succ])
              refine pm_law rfl (by rfl) (fun K hK => ?_)
              refine step_append_any (by rfl) (.tmp 62) (.tmp 64) 50 (by rfl) W2.heap.size 71 i0 _ 4 48 Try.underlying50 hi0 hz0 hz1 hz2 rfl (by decide) none50 (.slice D1 k n1) k (cs6 (L.take k)) (by rfl) (own_gr HO1.out ((Gr.refl w3).alloc _)) (some ⟨w3.heap.size, 0, none⟩) 1 1 [.int .i64 f, .int .i64 t, .int .i64 q, .slice A' l' c'] (by rfl) rfl (Rd.block (heap_alloc_new w3 (.cells #[.int .i64 f, .int .i64 t, .int .i64 q, .slice A' l' c'] 71))) (fun e => by cases e) (by simp [Value.oneCell']) (by unfold maxLen; omega) (by omega) (by simp <;> omega) ?_
              intro v2 w4 hown2 hgr2
              obtain ⟨D2, c2, rfl⟩ := own_shape hown2
              have HW4 := hid (show Gr W2 w4 from gr_grown (HW3.out.alloc _) hgr2 (fun q e => (HO1.out.lt q e).1))
              have HO2 := hid hown2
              refine hK.out _ _ _ (HS9.out _ HW4.out) (fun _ h => h) (fun _ => ?_)
              clear hK K hown2 hgr2
              (try simp only [Act.put, List.setIfInBounds_toArray, List.set_cons_zero, List.set_cons_succ])
              refine pm_last rfl (by rfl) (fun K hK => ?_)
              go_simp
              refine hK.out _ _ (NoPanic.normal ?_)
              clear hK K
              go_wp2_with fail
              go_meet
              exact ⟨D2, c2, rfl, HO2.out, HW4.out⟩
            · have HX := hid (two_made W2.drew (.cells #[] 71) (.cells #[.int .i64 f, .int .i64 t, .int .i64 q, .slice A' l' c'] 71)).2
              refine wpOpW_step rfl (by rfl) (fun K hK => ?_)
              go_simp
              refine hK.out _ _ _ (HS9.out _ (by repeat (first | exact Gr.refl _ | assumption | exact HW3.out | refine Gr.alloc ?_ _ | refine Gr.drew ?_))) (fun _ h => h) (fun _ => ?_)
              clear hK K
              (try simp only [Act.put, List.setIfInBounds_toArray, List.set_cons_zero, List.set_cons_succ])
              refine wpAnyW_go [(7, true), (10, true), (11, true)] hcl2 (by kernel_rfl) (fun _ _ _ _ _ h => h) (HS9.out _ (by repeat (first | exact Gr.refl _ | assumption | refine Gr.alloc ?_ _ | refine Gr.drew ?_))) ?_
              refine pm_law rfl (by rfl) (fun K hK => ?_)
              refine step_append_any (by rfl) (.tmp 55) (.tmp 61) 50 (by rfl) W2.heap.size 71 i0 _ 4 48 Try.underlying50 hi0 hz0 hz1 hz2 rfl (by decide) none50 (.slice (some ⟨W2.heap.size, 0, none⟩) 0 0) 0 [] (by rfl) (own_gr HE.out ((Gr.refl _).alloc _)) (some ⟨r, 0, none⟩) k cp (cs6 (L.take k)) (by rfl) HTL.out (Rd.gr HRT.out (by repeat (first | exact Gr.refl _ | assumption | exact HW3.out | refine Gr.alloc ?_ _ | refine Gr.drew ?_))) (fun e => by cases e) (cs6_one _) (by unfold maxLen; omega) (by omega) (by simp <;> omega) ?_
              intro v1 w3 hown1 hgr1
              obtain ⟨D1, n1, rfl⟩ : ∃ D1 n1, v1 = .slice D1 k n1 := by have := own_shape hown1; rwa [Nat.zero_add] at this
              have HW3 := hid (show Gr W2 w3 from gr_grown (by repeat (first | exact Gr.refl _ | assumption | refine Gr.alloc ?_ _ | refine Gr.drew ?_)) hgr1 (by intro k hk; simp [Value.ownBlock] at hk; omega))
              have HO1 := hid (show w3.ownsRow W2.heap.size 71 4 (.slice D1 k n1) k (cs6 (L.take k)) by have := hown1; rwa [Nat.zero_add, List.nil_append] at this)
              have hsz3 := HW3.out.size
              have hc53 := HS9.out _ HW3.out
              obtain ⟨x0, x1, x2, x3, x4⟩ := hc53
              have hb53 : w.heap.size < w3.heap.size := by omega
              have hg53 : g < w3.heap.size := by omega
              have HXB := hid ((hgr1.block (W2.heap.size + 1) (by simp) (by simp [Value.ownBlock])).trans HX.out)
              refine hK.out _ _ _ (HS9.out _ HW3.out) (fun _ h => h) (fun _ => ?_)
              clear hK K hown1 hgr1
              (try simp only [Act.put, List.setIfInBounds_toArray, List.set_cons_zero, List.set_cons_succ])
              refine pm_law rfl (by rfl) (fun K hK => ?_)
              refine step_append_any (by rfl) (.tmp 62) (.tmp 64) 50 (by rfl) W2.heap.size 71 i0 _ 4 48 Try.underlying50 hi0 hz0 hz1 hz2 rfl (by decide) none50 (.slice D1 k n1) k (cs6 (L.take k)) (by rfl) HO1.out (some ⟨W2.heap.size + 1, 0, none⟩) 1 1 [.int .i64 f, .int .i64 t, .int .i64 q, .slice A' l' c'] (by rfl) rfl (Rd.block HXB.out) (fun e => by cases e) (by simp [Value.oneCell']) (by unfold maxLen; omega) (by omega) hsz3 ?_
              intro v2 w4 hown2 hgr2
              obtain ⟨D2, c2, rfl⟩ := own_shape hown2
              have HW4 := hid (show Gr W2 w4 from gr_grown HW3.out hgr2 (fun q e => (HO1.out.lt q e).1))
              have HO2 := hid hown2
              refine hK.out _ _ _ (HS9.out _ HW4.out) (fun _ h => h) (fun _ => ?_)
              clear hK K hown2 hgr2
              (try simp only [Act.put, List.setIfInBounds_toArray, List.set_cons_zero, List.set_cons_succ])
              refine pm_last rfl (by rfl) (fun K hK => ?_)
              go_simp
              refine hK.out _ _ (NoPanic.normal ?_)
              clear hK K
              go_wp2_with fail
              go_meet
              exact ⟨D2, c2, rfl, HO2.out, HW4.out⟩
          · have HX := hid (two_made W2.drew (.cells #[.int .i64 f, .int .i64 t, .int .i64 q, .slice A' l' c'] 71) (.cells #[] 71)).1
            refine wpOpW_step rfl (by rfl) (fun K hK => ?_)
            go_simp
            refine hK.out _ _ _ (HS9.out _ (by repeat (first | exact Gr.refl _ | assumption | exact HW3.out | refine Gr.alloc ?_ _ | refine Gr.drew ?_))) (fun _ h => h) (fun _ => ?_)
            clear hK K
            have HE := hid (own_made1 W2 (.cells #[.int .i64 f, .int .i64 t, .int .i64 q, .slice A' l' c'] 71))
            (try simp only [Act.put, List.setIfInBounds_toArray, List.set_cons_zero, List.set_cons_succ])
            refine wpAnyW_go [(0, true), (7, true), (10, true), (11, true)] hcl1 (by kernel_rfl) (fun _ _ _ _ _ h => h) (HS9.out _ (by repeat (first | exact Gr.refl _ | assumption | refine Gr.alloc ?_ _ | refine Gr.drew ?_))) ?_
            refine pm_call rfl (by rfl) (fun K hK => ?_)
            go_simp
            refine hK.out _ _ _ (HS9.out _ (by repeat (first | exact Gr.refl _ | assumption | exact HW3.out | refine Gr.alloc ?_ _ | refine Gr.drew ?_))) (fun _ h => h) (fun _ => ?_)
            clear hK K
            (try simp only [Act.put, List.setIfInBounds_toArray, List.set_cons_zero, List.set_cons_succ])
            refine pm_law rfl (by rfl) (fun K hK => ?_)
            refine step_append_any (by rfl) (.tmp 55) (.tmp 61) 50 (by rfl) W2.heap.size 71 i0 _ 4 48 Try.underlying50 hi0 hz0 hz1 hz2 rfl (by decide) none50 (.slice (some ⟨W2.heap.size + 1, 0, none⟩) 0 0) 0 [] (by rfl) HE.out (some ⟨r, 0, none⟩) k cp (cs6 (L.take k)) (by rfl) HTL.out (Rd.gr HRT.out (by repeat (first | exact Gr.refl _ | assumption | exact HW3.out | refine Gr.alloc ?_ _ | refine Gr.drew ?_))) (fun e => by cases e) (cs6_one _) (by unfold maxLen; omega) (by omega) (by simp <;> omega) ?_
            intro v1 w3 hown1 hgr1
            obtain ⟨D1, n1, rfl⟩ : ∃ D1 n1, v1 = .slice D1 k n1 := by have := own_shape hown1; rwa [Nat.zero_add] at this
            have HW3 := hid (show Gr W2 w3 from gr_grown (by repeat (first | exact Gr.refl _ | assumption | refine Gr.alloc ?_ _ | refine Gr.drew ?_)) hgr1 (by intro k hk; simp [Value.ownBlock] at hk; omega))
            have HO1 := hid (show w3.ownsRow W2.heap.size 71 4 (.slice D1 k n1) k (cs6 (L.take k)) by have := hown1; rwa [Nat.zero_add, List.nil_append] at this)
            have hsz3 := HW3.out.size
            have hc53 := HS9.out _ HW3.out
            obtain ⟨x0, x1, x2, x3, x4⟩ := hc53
            have hb53 : w.heap.size < w3.heap.size := by omega
            have hg53 : g < w3.heap.size := by omega
            have HXB := hid ((hgr1.block W2.heap.size (by simp <;> omega) (by simp [Value.ownBlock])).trans HX.out)
            refine hK.out _ _ _ (HS9.out _ HW3.out) (fun _ h => h) (fun _ => ?_)
            clear hK K hown1 hgr1
            (try simp only [Act.put, List.setIfInBounds_toArray, List.set_cons_zero, List.set_cons_succ])
            refine pm_law rfl (by rfl) (fun K hK => ?_)
            refine step_append_any (by rfl) (.tmp 62) (.tmp 64) 50 (by rfl) W2.heap.size 71 i0 _ 4 48 Try.underlying50 hi0 hz0 hz1 hz2 rfl (by decide) none50 (.slice D1 k n1) k (cs6 (L.take k)) (by rfl) HO1.out (some ⟨W2.heap.size, 0, none⟩) 1 1 [.int .i64 f, .int .i64 t, .int .i64 q, .slice A' l' c'] (by rfl) rfl (Rd.block HXB.out) (fun e => by cases e) (by simp [Value.oneCell']) (by unfold maxLen; omega) (by omega) hsz3 ?_
            intro v2 w4 hown2 hgr2
            obtain ⟨D2, c2, rfl⟩ := own_shape hown2
            have HW4 := hid (show Gr W2 w4 from gr_grown HW3.out hgr2 (fun q e => (HO1.out.lt q e).1))
            have HO2 := hid hown2
            refine hK.out _ _ _ (HS9.out _ HW4.out) (fun _ h => h) (fun _ => ?_)
            clear hK K hown2 hgr2
            (try simp only [Act.put, List.setIfInBounds_toArray, List.set_cons_zero, List.set_cons_succ])
            refine pm_last rfl (by rfl) (fun K hK => ?_)
            go_simp
            refine hK.out _ _ (NoPanic.normal ?_)
            clear hK K
            go_wp2_with fail
            go_meet
            exact ⟨D2, c2, rfl, HO2.out, HW4.out⟩
        case rest =>
          obtain ⟨D2, c2, rfl, ho2, hw3⟩ := hcut
          have HO2 := hid ho2
          have HW3 := hid hw3
          clear ho2 hw3
          generalize wc = w3 at *
          have GF := hid (GW.out.trans HW3.out)
          obtain ⟨_, _, c03, _, _, f03, _⟩ := (H.out.gr GF.out).cs
          have hg3 : g < w3.heap.size := Nat.lt_of_lt_of_le hlt GF.out.size
          have HDL := hid (show (cs6 (L.drop k)).length = (L.length - k) * 4 by rw [cs6_length, List.length_drop])
          have HT := hid (show Rd w3 (if cp = k then some (⟨r, 0, none⟩ : Addr) else some ⟨r, k * 4, none⟩) (cs6 (L.drop k)) by rw [cs6_drop4]; exact Rd.gr (tail_rd RD.out (by intro e; rw [cs6_length]; omega)) GF.out)
          have hfin : ∀ (wz : World) (D4 : Option Addr) (n4 c4 : Nat), Gr W2 wz → wz.ownsRow W2.heap.size 71 4 (.slice D4 n4 c4) (k + 1 + (L.length - k)) (cs6 (L.take k) ++ [.int .i64 f, .int .i64 t, .int .i64 q, .slice A' l' c'] ++ cs6 (L.drop k)) → RetR base g nodes sent C (dupF P i) (.int .i64 0) w (.returned (.int .i64 0)) (wz.setCell ⟨g, 2, none⟩ (.slice D4 n4 c4)) := by
            intro wz D4 n4 c4 hw hr
            have GZ := GW.out.trans hw
            have HC4 := (GZ.block g hlt).trans H.out.cell
            have hat := HAT.out
            have hd := H.out.dat.gr GZ
            have hone := hd.get i hi
            rw [HY.out] at hone
            have e2 : cs6 (L.take k ++ (((f, t, q, A', l', c') : It) :: L.drop k)) = cs6 (L.take k) ++ [.int .i64 f, .int .i64 t, .int .i64 q, .slice A' l' c'] ++ cs6 (L.drop k) := by
              rw [cs6_app, List.append_assoc]; rfl
            have e1 : (L.take k ++ (((f, t, q, A', l', c') : It) :: L.drop k)).length = k + 1 + (L.length - k) := by
              rw [List.length_append, List.length_take, List.length_cons, List.length_drop]; omega
            have hr4 : wz.ownsRow base 71 4 (.slice D4 n4 c4) (L.take k ++ (((f, t, q, A', l', c') : It) :: L.drop k)).length (cs6 (L.take k ++ (((f, t, q, A', l', c') : It) :: L.drop k))) := by
              rw [e1, e2]
              exact hr.mono (Nat.le_trans hbase GW.out.size)
            have hd4 : Dat base wz (L.take k ++ (((f, t, q, A', l', c') : It) :: L.drop k)) (dupF P i) := by
              unfold dupF
              rw [hat]
              exact Dat.app (Dat.take k hd) ⟨hone, Dat.drop k hd⟩
            exact ⟨rfl, ⟨_, _, _, RB.put8 H.out.lo H.out.hn HC4 (own_gr H.out.cuts GZ) hr4 hd4⟩, H.out.mr ((GZ.mod (fun x => x = g ∨ (Value.slice (some ⟨r, 0, none⟩) L.length cp).ownBlock = some x ∨ vc.ownBlock = some x)).set (p := ⟨g, 2, none⟩) (fun _ => .inl rfl) _)⟩
          have HFIN := hid hfin
          clear hfin
          rcases Decidable.em (cp = k) with hck | hck
          · exact absurd hck (by omega)
          · rw [if_neg hck] at HT
            go_wp2_with (at_builtin; refine wpList_append_own _ rfl _ _ 50 rfl W2.heap.size 71 i0 _ 4 48 Try.underlying50 hi0 hz0 hz1 hz2 rfl (by decide) (.slice D2 (k + 1) c2) (k + 1) (cs6 (L.take k) ++ [.int .i64 f, .int .i64 t, .int .i64 q, .slice A' l' c']) rfl HO2.out ⟨r, k * 4, none⟩ (L.length - k) (cp - k) (cs6 (L.drop k)) rfl HDL.out (Rd.add HT.out) (cs6_one _) (by unfold maxLen; omega) (by omega) HW3.out.size ?_
                         intro v4 w4 hown4 hgr4 _
                         obtain ⟨D4, n4, c4, rfl⟩ : ∃ D4 n4 c4, v4 = .slice D4 n4 c4 := by obtain ⟨D4, c4, e⟩ := own_shape hown4; exact ⟨_, _, _, e⟩
                         have HW4 := hid (show Gr W2 w4 from gr_grown HW3.out hgr4 (fun q e => (HO2.out.lt q e).1))
                         have HF4 := hid (HFIN.out w4 _ _ _ HW4.out hown4)
                         obtain ⟨_, _, c04, _, _, f04, _⟩ := (H.out.gr (GW.out.trans HW4.out)).cs
                         have hg4 : g < w4.heap.size := Nat.lt_of_lt_of_le hlt (GW.out.trans HW4.out).size
                         clear hown4 hgr4)
            go_ret
            exact HF4.out

theorem againR_any (base g : Nat) (nodes sent k : Int) (C : List (Int × Int)) (P : List Pk) (w : World) (h : Rt base w g nodes sent C P) (hl : P.length ≤ 1000000) (hbase : base ≤ w.heap.size) :
    Calls Try.prog 36 #[.pointer (some ⟨g, 0, none⟩), .int .i64 k] w (RetR base g nodes sent C (againP P k) (.int .i64 (againC P k)) w) := by
  unfold againC againP
  cases hok : okN P k
  · exact againR_miss base g nodes sent k C P w h hok
  · obtain ⟨i, rfl, hi⟩ := okN_yes hok
    by_cases hf : 4096 ≤ P.length
    · simp only [if_pos hf, if_true]
      exact againR_full base g i nodes sent C P w h hi hf hl
    · simp only [if_neg hf, if_true]
      obtain ⟨v, vc, L, h⟩ := h
      have hlen := h.dat.len
      exact againR_ok base g i nodes sent v vc L C P w h (by omega) (by omega) hbase
end Go.Proofs.Ytlencagfkajcnaa
