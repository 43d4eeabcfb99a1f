/- Lemmas: what the functions of the engine answer, and which blocks they write. -/
import Derived.Test.YtniknicnnaiilaaGreatX07
section
namespace Go.Proofs.YtniknicnnaiilaaGreat
set_option maxRecDepth 100000
open Go.RowKit Go.Ext Go.BigFrame Go.Maps Go.MapKept
attribute [local go_sem] Ext.cell Ext.frozen Ext.lt Ext.le s1 s2 s3 s4 s5 s6 t1 t2 t3 t4 t5 t6
attribute [local go_sem ↓] Go.wp_at_zero Go.wp_at_succ
set_option maxHeartbeats 40000000 in
theorem put_kA (k mb : Nat) (F : FS) (e : Ev) (d : Value) (M : Bl) (w : World) (h : FlowR w M k mb F) (hk : M k) (hmb : M mb) (hne : k ≠ mb) (hM : ∀ b, M b → b < w.heap.size) (hd : Bys w d e.data) (hl : F.l.length ≤ 1000000) (hkind : (e.kind = 1) ∨ (e.kind = 2) ∨ (e.kind = 3) ∨ (e.kind = 4) ∨ (e.kind = 5 ∨ e.kind = 6) ∨ (e.kind = 8)) (hi : FI F) (hw : e.kind = 9 ∨ e.kind = 10 ∨ e.kind = 11 → e.ref ≠ 0) :
    Calls Tryz.prog 143 #[.pointer (some ⟨k, 0, none⟩), evV e d] w (fun en w' => en = .returned (.int .i64 (atF F)) ∧ FlowR w' M k mb (putF F e) ∧ Mod (fun b => b = k ∨ b = mb) w w') := by
  obtain ⟨v0, hcell, hr0⟩ := h.row
  obtain ⟨A, c, rfl, hc⟩ := hr0.shape
  have hklt := h.lt.1
  have hAc : A = none → c = 0 := by
    obtain ⟨A', c', ds, e', _, _, _, h3⟩ := hr0
    injection e' with e1 e2 e3
    subst e1 e3
    exact h3
  have HM := hid hM
  have HCELL := hid hcell
  have HR := hid hr0
  have HC := hid (fun W (y : Gr w W) => clone_any d e.data W (hd.gr y))
  obtain ⟨Ad, cd, rfl, _, _, _⟩ := hd
  rcases e with ⟨ek, tick, ref, id, list, en, data⟩
  simp only [evV] at *
  obtain ⟨i0, hi0, hz0, hz1, hz2⟩ := info_parts info41
  clear hcell hr0 hM
  have HKIND := hid hkind
  clear hkind
  go_enter Tryz.func143, Tryz.ntmps143
  go_upto_region 2 with (go_at_call 91; refine (HC.out _ ((Gr.refl w).alloc _)).mono ?_; rintro en1 _ ⟨A', c', y1, rfl, rfl, hbl, ho1⟩; obtain ⟨hB0, hB1⟩ : y1.val.heap[w.heap.size]? = some (.cells #[.int .i64 ek, .int .i64 tick, .int .i64 ref, .int .i64 id, .int .i64 list, .int .i64 en, .slice Ad data.length cd] 41 (0, 0)) ∧ w.heap.size < y1.val.heap.size := ⟨(y1.gr.block w.heap.size (by simp)).trans (heap_alloc_new w _), y1.lt_alloc⟩; have q0 := frozen_of (j := 6) hB0)
  have hsz1 := y1.gr.size
  simp only [World.size_alloc] at hsz1 ho1
  obtain ⟨W2, hW2⟩ : ∃ W2, y1.val.setCell ⟨w.heap.size, 6, none⟩ (.slice A' data.length c') = W2 := ⟨_, rfl⟩
  have G2 := hid (show Gr w W2 from hW2 ▸ (((Gr.refl w).alloc _).ext y1).set (p := ⟨w.heap.size, 6, none⟩) (Nat.le_refl _) _)
  have HB2 := hid (show W2.heap[w.heap.size]? = some (.cells #[.int .i64 ek, .int .i64 tick, .int .i64 ref, .int .i64 id, .int .i64 list, .int .i64 en, .slice A' data.length c'] 41 (0, 0)) from hW2 ▸ set1_heap hB0 (j := 6) _)
  have HD2 := hid (show BysM W2 M (.slice A' data.length c') data from hW2 ▸ BysM.of_own (B := w.heap.size + 1) (own_mod ho1 (mod_set (S := fun b => b = w.heap.size) ((Gr.refl _).mod _) (fun _ => rfl) _) (fun q e1 e2 => by have := (ho1.lt q e1).1; omega)) (fun b hb e => by have := HM.out b e; omega) hbl)
  rw [hW2]
  clear hW2 hB0 hB1 q0 ho1 hsz1 HC
  have hBlt : w.heap.size < W2.heap.size := block_lt HB2.out
  have HK2 := hid ((G2.out.block k hklt).trans HCELL.out)
  have HR2 := hid (HR.out.up (Gr.up G2.out M))
  have HMM := hid (fun (W : World) (g : Gr W2 W) => (show ∀ b, M b → b < W.heap.size from fun b hb => Nat.lt_of_lt_of_le (HM.out b hb) (Nat.le_trans G2.out.size g.size)))
  have hk2 : k < W2.heap.size := Nat.lt_of_lt_of_le hklt G2.out.size
  obtain ⟨_, _, _, _, d4, _, _, _, _, _, _, _⟩ := FC.of HK2.out
  obtain ⟨b0, b1, b2, b3, b4, b5, b6⟩ : W2.cell? ⟨w.heap.size, 0, none⟩ = some (.int .i64 ek) ∧ W2.cell? ⟨w.heap.size, 1, none⟩ = some (.int .i64 tick) ∧ W2.cell? ⟨w.heap.size, 2, none⟩ = some (.int .i64 ref) ∧ W2.cell? ⟨w.heap.size, 3, none⟩ = some (.int .i64 id) ∧
      W2.cell? ⟨w.heap.size, 4, none⟩ = some (.int .i64 list) ∧ W2.cell? ⟨w.heap.size, 5, none⟩ = some (.int .i64 en) ∧ W2.cell? ⟨w.heap.size, 6, none⟩ = some (.slice A' data.length c') := by
    refine ⟨?_, ?_, ?_, ?_, ?_, ?_, ?_⟩ <;> simp [World.cell?, HB2.out]
  go_cut [] from 10 (fun wx => PutMid w M k mb F ⟨ek, tick, ref, id, list, en, data⟩ w.heap.size wx)
  case first =>
    have fin : ∀ (W5 : World) (cap : Nat) (B : Nat), Gr W2 W5 → RecsM evR W5 M (.slice (some ⟨B, 0, none⟩) (F.l.length + 1) cap) (F.l ++ [⟨ek, tick, ref, id, list, en, data⟩]) → PutMid w M k mb F ⟨ek, tick, ref, id, list, en, data⟩ w.heap.size (W5.setCell ⟨k, 4, none⟩ (.slice (some ⟨B, 0, none⟩) (F.l.length + 1) cap)) := fun W5 cap B g hr => by
      have m5 := mod_set (S := fun b => b = k) ((Gr.refl W5).mod _) (b := k) (j := 4) (fun _ => rfl) (.slice (some ⟨B, 0, none⟩) (F.l.length + 1) cap)
      refine ⟨some ⟨B, 0, none⟩, cap, .slice A' data.length c', ?_, hr.up (Mod.up m5 (fun b _ e => e ▸ hk)), ?_, ?_⟩
      · have := set1_heap ((g.block k hk2).trans HK2.out) (j := 4) (.slice (some ⟨B, 0, none⟩) (F.l.length + 1) cap)
        simpa [flowC] using this
      · exact (m5.block _ (Nat.lt_of_lt_of_le hBlt g.size) (by show ¬ w.heap.size = k; omega)).trans ((g.block _ hBlt).trans HB2.out)
      · exact ((G2.out.trans g).mod (fun b => b = k)).set (p := ⟨k, 4, none⟩) (fun _ => rfl) _
    have FIN := hid fin
    clear fin
    refine wp_region_fork [0, 1, 2, 3, 4, 6] 6 (fun W => Gr W2 W) (by kernel_rfl) (by kernel_rfl) (fun _ _ d _ _ h => by cases d <;> exact h) (Gr.refl W2).drew (fun _ => ?_)
    iterate 6 (refine pre_take (v := ?_) rfl (by rfl) ?_ ?_; rotate_left; (focus (intro W9 hW9; obtain ⟨x9, rfl⟩ : ∃ x : Ext W2, W9 = x.val := ⟨⟨W9, hW9⟩, rfl⟩; go_simp; (try with_reducible rfl); done)); (try simp only [AP]))
    intro hcl
    refine wpAnyW_fork hcl (i := 5) (j := 7) (by kernel_rfl) (fun hcl1 => ?_) (fun hcl1 => ?_)
    · refine wpOpW_step rfl (by rfl) (fun K hK => ?_)
      go_simp
      go_at_call 183
      refine (clipE_any A F.l.length c _ hc hAc).mono ?_
      rintro en _ ⟨rfl, y3, rfl⟩
      have G3 := hid ((Gr.refl W2).drew.ext y3)
      refine hK.out (fun W => Gr W2 W) _ _ G3.out (fun _ g => g) (fun _ => ?_)
      clear hK K
      (try simp only [AP])
      refine wpAnyW_go [(7, true), (8, true), (9, false), (10, false), (11, true)] hcl1 (by kernel_rfl) (fun _ _ d _ _ h => by cases d <;> exact h) G3.out ?_
      refine pm_call rfl (by rfl) (fun K hK => ?_)
      go_simp
      refine hK.out (fun W => Gr W2 W) _ _ (G3.out.alloc _) (fun _ g => g) (fun _ => ?_)
      clear hK K
      (try simp only [AP])
      have HBB := hid (heap_alloc_new y3.val (.cells #[.int .i64 ek, .int .i64 tick, .int .i64 ref, .int .i64 id, .int .i64 list, .int .i64 en, .slice A' data.length c'] 41))
      have G4 := hid (G3.out.alloc (.cells #[.int .i64 ek, .int .i64 tick, .int .i64 ref, .int .i64 id, .int .i64 list, .int .i64 en, .slice A' data.length c'] 41))
      obtain ⟨W4, hW4⟩ : ∃ W4, y3.val.alloc (.cells #[.int .i64 ek, .int .i64 tick, .int .i64 ref, .int .i64 id, .int .i64 list, .int .i64 en, .slice A' data.length c'] 41) = W4 := ⟨_, rfl⟩
      obtain ⟨B4, hB4⟩ : ∃ B4, y3.val.heap.size = B4 := ⟨_, rfl⟩
      rw [hW4] at HBB G4
      rw [hB4] at HBB
      rw [hW4, hB4]
      clear hW4 hB4
      refine pm_law rfl (by rfl) (fun K hK => ?_)
      obtain ⟨cap, W5, hrun, g5, hr5⟩ := recs_append (P := Tryz.prog) (t := 29) evR_len Tryz.underlying29 hi0 hz0 hz1 (by omega) (HR2.out.up (Gr.up G4.out M)) (x := ⟨ek, tick, ref, id, list, en, data⟩) (d := .slice A' data.length c') (HD2.out.up (Gr.up G4.out M)) (B := B4) (e' := 41) HBB.out (by omega) (HMM.out _ G4.out)
      refine step_append_at (by rfl) (.tmp 15) (.tmp 17) 29 29 (by rfl) _ _ (by rfl) (by rfl) (hrun _) ?_
      have G5 := hid (G4.out.trans g5)
      have HR5 := hid hr5
      refine hK.out (fun W => Gr W2 W) _ _ G5.out (fun _ g => g) (fun _ => ?_)
      clear hK K hrun g5 hr5
      (try simp only [AP])
      iterate 2 (refine pm_take (v := ?_) rfl (by rfl) ?_ ?_; rotate_left; (focus (intro W9 hW9; obtain ⟨x9, rfl⟩ : ∃ x : Ext W2, W9 = x.val := ⟨⟨W9, hW9⟩, rfl⟩; go_simp; (try with_reducible rfl); done)); (try simp only [AP]))
      refine pm_last rfl (by rfl) (fun K hK => ?_)
      have q4 : W5.frozen? ⟨k, 4, none⟩ = false := frozen_of ((G5.out.block k hk2).trans HK2.out)
      have q5 : k < W5.heap.size := Nat.lt_of_lt_of_le hk2 G5.out.size
      obtain ⟨_, _, _, _, q6, _, _, _, _, _, _, _⟩ := FC.of ((G5.out.block k hk2).trans HK2.out)
      go_simp
      refine hK.out _ _ ?_
      clear hK K
      go_wp2_with fail
      go_meet
      exact FIN.out _ _ _ G5.out HR5.out
    · refine wpOpW_step rfl (by rfl) (fun K hK => ?_)
      go_simp
      refine hK.out (fun W => Gr W2 W) _ _ ((Gr.refl W2).alloc _).drew (fun _ g => g) (fun _ => ?_)
      clear hK K
      (try simp only [AP])
      have G3 := hid ((Gr.refl W2).alloc (.cells #[.int .i64 ek, .int .i64 tick, .int .i64 ref, .int .i64 id, .int .i64 list, .int .i64 en, .slice A' data.length c'] 41)).drew
      have HBC : (W2.alloc (.cells #[.int .i64 ek, .int .i64 tick, .int .i64 ref, .int .i64 id, .int .i64 list, .int .i64 en, .slice A' data.length c'] 41)).drew.heap[W2.heap.size]? = some (.cells #[.int .i64 ek, .int .i64 tick, .int .i64 ref, .int .i64 id, .int .i64 list, .int .i64 en, .slice A' data.length c'] 41 (0, 0)) := by
        have := heap_alloc_new W2 (.cells #[.int .i64 ek, .int .i64 tick, .int .i64 ref, .int .i64 id, .int .i64 list, .int .i64 en, .slice A' data.length c'] 41)
        exact this
      obtain ⟨W3, hW3⟩ : ∃ W3, (W2.alloc (.cells #[.int .i64 ek, .int .i64 tick, .int .i64 ref, .int .i64 id, .int .i64 list, .int .i64 en, .slice A' data.length c'] 41)).drew = W3 := ⟨_, rfl⟩
      rw [hW3] at HBC G3
      rw [hW3]
      clear hW3
      refine wpAnyW_go [(5, true), (8, true), (9, false), (10, false), (11, true)] hcl1 (by kernel_rfl) (fun _ _ d _ _ h => by cases d <;> exact h) G3.out ?_
      refine pm_call rfl (by rfl) (fun K hK => ?_)
      go_simp
      go_at_call 183
      refine (clipE_any A F.l.length c _ hc hAc).mono ?_
      rintro en _ ⟨rfl, y4, rfl⟩
      have G4 := hid (G3.out.ext y4)
      have HBB := hid ((y4.gr.block W2.heap.size (block_lt HBC)).trans HBC)
      clear HBC
      obtain ⟨W4, hW4⟩ : ∃ W4, y4.val = W4 := ⟨_, rfl⟩
      obtain ⟨B4, hB4⟩ : ∃ B4, W2.heap.size = B4 := ⟨_, rfl⟩
      rw [hW4] at HBB G4
      rw [hB4] at HBB
      refine hK.out (fun W => Gr W2 W) _ _ (hW4 ▸ G4.out) (fun _ g => g) (fun _ => ?_)
      clear hK K
      (try simp only [AP])
      rw [hW4, hB4]
      clear hW4 hB4
      refine pm_law rfl (by rfl) (fun K hK => ?_)
      obtain ⟨cap, W5, hrun, g5, hr5⟩ := recs_append (P := Tryz.prog) (t := 29) evR_len Tryz.underlying29 hi0 hz0 hz1 (by omega) (HR2.out.up (Gr.up G4.out M)) (x := ⟨ek, tick, ref, id, list, en, data⟩) (d := .slice A' data.length c') (HD2.out.up (Gr.up G4.out M)) (B := B4) (e' := 41) HBB.out (by omega) (HMM.out _ G4.out)
      refine step_append_at (by rfl) (.tmp 15) (.tmp 17) 29 29 (by rfl) _ _ (by rfl) (by rfl) (hrun _) ?_
      have G5 := hid (G4.out.trans g5)
      have HR5 := hid hr5
      refine hK.out (fun W => Gr W2 W) _ _ G5.out (fun _ g => g) (fun _ => ?_)
      clear hK K hrun g5 hr5
      (try simp only [AP])
      iterate 2 (refine pm_take (v := ?_) rfl (by rfl) ?_ ?_; rotate_left; (focus (intro W9 hW9; obtain ⟨x9, rfl⟩ : ∃ x : Ext W2, W9 = x.val := ⟨⟨W9, hW9⟩, rfl⟩; go_simp; (try with_reducible rfl); done)); (try simp only [AP]))
      refine pm_last rfl (by rfl) (fun K hK => ?_)
      have q4 : W5.frozen? ⟨k, 4, none⟩ = false := frozen_of ((G5.out.block k hk2).trans HK2.out)
      have q5 : k < W5.heap.size := Nat.lt_of_lt_of_le hk2 G5.out.size
      obtain ⟨_, _, _, _, q6, _, _, _, _, _, _, _⟩ := FC.of ((G5.out.block k hk2).trans HK2.out)
      go_simp
      refine hK.out _ _ ?_
      clear hK K
      go_wp2_with fail
      go_meet
      exact FIN.out _ _ _ G5.out HR5.out
  case rest =>
    obtain ⟨A6, c6, dv, hK6, hR6, hB6, m6⟩ := hcut
    have hmi0 := h.map
    have hmb0 := h.lt.2
    clear h HCELL HR HK2 HR2 HB2 HD2 HMM G2 b0 b1 b2 b3 b4 b5 b6 d4 hk2 hBlt hc hAc HM hz0 hz1 hz2 hi0
    have hmi6 : MI wc mb (mp opV F.op) := hmi0.keep (m6.block mb hmb0 (fun e => hne e.symm))
    have hk6 : k < wc.heap.size := block_lt hK6
    have hB6l : w.heap.size < wc.heap.size := block_lt hB6
    obtain ⟨g0, g1, g2, g3, g4, g5, g6, g7, g8, g9, g10, g11⟩ := FC.of hK6
    have f2 := frozen_of (j := 2) hK6
    have f3 := frozen_of (j := 3) hK6
    have f5 := frozen_of (j := 5) hK6
    have f6 := frozen_of (j := 6) hK6
    have f7 := frozen_of (j := 7) hK6
    have f8 := frozen_of (j := 8) hK6
    have f9 := frozen_of (j := 9) hK6
    have f10 := frozen_of (j := 10) hK6
    obtain ⟨b0, b2, b3, b4, b5⟩ : wc.cell? ⟨w.heap.size, 0, none⟩ = some (.int .i64 ek) ∧ wc.cell? ⟨w.heap.size, 2, none⟩ = some (.int .i64 ref) ∧ wc.cell? ⟨w.heap.size, 3, none⟩ = some (.int .i64 id) ∧
        wc.cell? ⟨w.heap.size, 4, none⟩ = some (.int .i64 list) ∧ wc.cell? ⟨w.heap.size, 5, none⟩ = some (.int .i64 en) := by
      refine ⟨?_, ?_, ?_, ?_, ?_⟩ <;> simp [World.cell?, hB6, recC, evR]
    have HK6 := hid hK6
    have HR6 := hid hR6
    have HMI := hid hmi6
    have M6 := hid m6
    have HI := hid hi
    have HW := hid hw
    have fin : ∀ (F' : FS) (W : World), F'.l = F.l ++ [⟨ek, tick, ref, id, list, en, data⟩] → W.heap[k]? = some (.cells (flowC F' (.slice A6 (F.l.length + 1) c6) mb) 157 (0, 0)) → MI W mb (mp opV F'.op) → Mod (fun b => b = k ∨ b = mb) wc W →
        FlowR W M k mb F' ∧ Mod (fun b => b = k ∨ b = mb) w W := fun F' W h1 h2 h3 m => by
      refine ⟨⟨⟨_, h2, ?_⟩, h3⟩, ?_⟩
      · rw [h1]
        exact HR6.out.up (Mod.up m (fun b _ e => by rcases e with rfl | rfl; exact hk; exact hmb))
      · exact (M6.out.mono (fun _ _ e => .inl e)).trans m (fun _ _ e => e)
    have FIN := hid fin
    clear hK6 hR6 hB6 m6 hmi6 fin hmi0 hi hw
    have FIN1 := hid (fun (F' : FS) (W : World) (h1 : F'.l = F.l ++ [⟨ek, tick, ref, id, list, en, data⟩]) (h2 : W.heap[k]? = some (.cells (flowC F' (.slice A6 (F.l.length + 1) c6) mb) 157 (0, 0))) (h3 : F'.op = F.op) (m : Mod (fun b => b = k) wc W) =>
      FIN.out F' W h1 h2 (h3 ▸ HMI.out.keep (m.block mb HMI.out.lt (fun e => hne e.symm))) (m.mono (fun _ _ e => .inl e)))
    have hkind := HKIND.out
    rcases hkind with hkind | hkind | hkind | hkind | hkind | hkind
    · as_aux_lemma =>
      · obtain rfl : ek = 1 := hkind
        have HP := hid (show putF F ⟨1, tick, ref, id, list, en, data⟩ = { F with l := F.l ++ [⟨1, tick, ref, id, list, en, data⟩], list := list, n := en } by simp [putF])
        go_wp2_with fail
        go_region
        go_wp2_with fail
        go_ret
        all_goals (
          refine ⟨by first | rfl | (simp [atF]; done), ?_⟩
          rw [HP.out]
          refine FIN1.out _ _ rfl ?_ rfl (by repeat (first | exact (Gr.refl _).mod _ | refine mod_setk ?_ | refine Mod.drew_ ?_))
          (try show (World.setCell _ _ _).heap[k]? = _)
          first
            | exact HK6.out
            | (rw [set1_heap HK6.out]; rfl)
            | (rw [set1_heap (set1_heap HK6.out _)]; rfl)
            | (rw [set1_heap (set1_heap (set1_heap HK6.out _) _)]; rfl)
            | (rw [set1_heap (set1_heap (set1_heap (set1_heap (set1_heap HK6.out _) _) _) _)]; rfl))
    · as_aux_lemma =>
      · obtain rfl : ek = 2 := hkind
        have HP := hid (show putF F ⟨2, tick, ref, id, list, en, data⟩ = { F with l := F.l ++ [⟨2, tick, ref, id, list, en, data⟩], task := 1, place := atF F, begun := 0, turn := en, late := false } by simp [putF])
        go_wp2_with fail
        go_region
        go_wp2_with fail
        go_ret
        all_goals (
          refine ⟨by first | rfl | (simp [atF]; done), ?_⟩
          rw [HP.out]
          refine FIN1.out _ _ rfl ?_ rfl (by repeat (first | exact (Gr.refl _).mod _ | refine mod_setk ?_ | refine Mod.drew_ ?_))
          (try show (World.setCell _ _ _).heap[k]? = _)
          first
            | exact HK6.out
            | (rw [set1_heap HK6.out]; rfl)
            | (rw [set1_heap (set1_heap HK6.out _)]; rfl)
            | (rw [set1_heap (set1_heap (set1_heap HK6.out _) _)]; rfl)
            | (rw [set1_heap (set1_heap (set1_heap (set1_heap (set1_heap HK6.out _) _) _) _)]; rfl))
    · as_aux_lemma =>
      · obtain rfl : ek = 3 := hkind
        have HP := hid (show putF F ⟨3, tick, ref, id, list, en, data⟩ = { F with l := F.l ++ [⟨3, tick, ref, id, list, en, data⟩], task := 2, begun := atF F, late := false } by simp [putF])
        go_wp2_with fail
        go_ret
        all_goals (
          refine ⟨by first | rfl | (simp [atF]; done), ?_⟩
          rw [HP.out]
          refine FIN1.out _ _ rfl ?_ rfl (by repeat (first | exact (Gr.refl _).mod _ | refine mod_setk ?_ | refine Mod.drew_ ?_))
          (try show (World.setCell _ _ _).heap[k]? = _)
          first
            | exact HK6.out
            | (rw [set1_heap HK6.out]; rfl)
            | (rw [set1_heap (set1_heap HK6.out _)]; rfl)
            | (rw [set1_heap (set1_heap (set1_heap HK6.out _) _)]; rfl)
            | (rw [set1_heap (set1_heap (set1_heap (set1_heap (set1_heap HK6.out _) _) _) _)]; rfl))
    · as_aux_lemma =>
      · obtain rfl : ek = 4 := hkind
        have HP := hid (show putF F ⟨4, tick, ref, id, list, en, data⟩ = { F with l := F.l ++ [⟨4, tick, ref, id, list, en, data⟩], task := 0, turn := 0 } by simp [putF])
        go_wp2_with fail
        go_ret
        all_goals (
          refine ⟨by first | rfl | (simp [atF]; done), ?_⟩
          rw [HP.out]
          refine FIN1.out _ _ rfl ?_ rfl (by repeat (first | exact (Gr.refl _).mod _ | refine mod_setk ?_ | refine Mod.drew_ ?_))
          (try show (World.setCell _ _ _).heap[k]? = _)
          first
            | exact HK6.out
            | (rw [set1_heap HK6.out]; rfl)
            | (rw [set1_heap (set1_heap HK6.out _)]; rfl)
            | (rw [set1_heap (set1_heap (set1_heap HK6.out _) _)]; rfl)
            | (rw [set1_heap (set1_heap (set1_heap (set1_heap (set1_heap HK6.out _) _) _) _)]; rfl))
    · as_aux_lemma =>
      have ht := HI.out.turn
      · have hkind : ek = 5 ∨ ek = 6 := hkind
        have HP := hid (show putF F ⟨ek, tick, ref, id, list, en, data⟩ = { F with l := F.l ++ [⟨ek, tick, ref, id, list, en, data⟩], task := 0, turn := F.turn + 1 } by rcases hkind with h | h <;> simp [putF, h])
        rcases hkind with rfl | rfl
        all_goals (
          go_wp2_with fail
          go_ret
          all_goals (
            refine ⟨by first | rfl | (simp [atF]; done), ?_⟩
            rw [HP.out]
            refine FIN1.out _ _ rfl ?_ rfl (by repeat (first | exact (Gr.refl _).mod _ | refine mod_setk ?_ | refine Mod.drew_ ?_))
            (try show (World.setCell _ _ _).heap[k]? = _)
            first
              | exact HK6.out
              | (rw [set1_heap HK6.out]; rfl)
              | (rw [set1_heap (set1_heap HK6.out _)]; rfl)
              | (rw [set1_heap (set1_heap (set1_heap HK6.out _) _)]; rfl)
              | (rw [set1_heap (set1_heap (set1_heap (set1_heap (set1_heap HK6.out _) _) _) _)]; rfl)))
    · as_aux_lemma =>
      · obtain rfl : ek = 8 := hkind
        have HP := hid (show putF F ⟨8, tick, ref, id, list, en, data⟩ = { F with l := F.l ++ [⟨8, tick, ref, id, list, en, data⟩], op := up F.op ref ⟨7, id, atF F⟩ } by simp [putF])
        go_wp2_with fail
        refine wp_region_planM [(0, false), (1, false), (2, false), (3, false), (4, false), (5, false), (6, false), (7, false), (8, false), (9, false), (10, true)] (fun W => Gr wc W) (by kernel_rfl) (by kernel_rfl) (fun _ _ d _ _ h => by cases d <;> exact h) (Gr.refl wc).drew (fun _ => ?_)
        iterate 10 (refine pm_take (v := ?_) rfl (by rfl) ?_ ?_; rotate_left; (focus (intro W9 hW9; obtain ⟨x9, rfl⟩ : ∃ x : Ext wc, W9 = x.val := ⟨⟨W9, hW9⟩, rfl⟩; go_simp; (try with_reducible rfl); done)); (try simp only [AP]))
        refine pm_last rfl (by rfl) (fun K hK => ?_)
        refine opwp_mapUpdate _ _ _ _ 155 rfl 3 185 Tryz.underlying155 Tryz.underlying3 mb (mp opV F.op) ref (opV ⟨7, id, atF F⟩) (by rfl) (HMI.out.gr (Gr.refl wc).drew) (by first | rfl | (simp [atF]; done)) (by rfl) ?_
        intro w7 hmi7 hm7
        refine hK.out _ _ ?_
        clear hK K
        have HK7 := hid ((hm7.block k (Nat.lt_of_lt_of_le hk6 (Gr.refl wc).drew.size) (fun e => hne e)).trans (((Gr.refl wc).drew.block k hk6).trans HK6.out))
        have HM7 := hid hm7
        have HMI7 := hid hmi7
        have hk7 : k < w7.heap.size := block_lt HK7.out
        obtain ⟨_, _, _, _, _, t5, _, _, _, t9, _, t11⟩ := FC.of HK7.out
        have u5 := frozen_of (j := 5) HK7.out
        have u9 := frozen_of (j := 9) HK7.out
        have u10 := frozen_of (j := 10) HK7.out
        clear hm7 hmi7
        go_wp2_with fail
        go_ret
        all_goals (
          refine ⟨by first | rfl | (simp [atF]; done), ?_⟩
          rw [HP.out]
          refine FIN.out _ _ rfl ?_ ?_ (Mod.trans (S := fun b => b = k ∨ b = mb) (S' := fun b => b = k) ((((Gr.refl wc).drew.mod (fun b => b = k ∨ b = mb)).trans HM7.out (fun _ _ e => .inr e))) ?_ (fun _ _ e => .inl e))
          · (try show (World.setCell _ _ _).heap[k]? = _)
            first
              | exact HK7.out
              | (rw [set1_heap HK7.out]; rfl)
              | (rw [set1_heap (set1_heap HK7.out _)]; rfl)
          · refine (show MI w7 mb _ from ?_).keep ?_
            · first | exact HMI7.out | (rw [up_mp] at HMI7; exact HMI7.out)
            · exact Mod.block (S := fun b => b = k) (w := w7) (by repeat (first | exact (Gr.refl _).mod _ | refine mod_setk ?_ | refine Mod.drew_ ?_)) mb (HMI7.out.lt) (fun e => hne e.symm)
          · (repeat (first | exact (Gr.refl _).mod _ | refine mod_setk ?_ | refine Mod.drew_ ?_)))
end Go.Proofs.YtniknicnnaiilaaGreat
end
