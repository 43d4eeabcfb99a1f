import Derived.Test.YtikmniokbliolaaE4
namespace Go.Proofs.Ytikmniokbliolaa
open Go.RowKit Go.Ext Go.BigFrame
attribute [local go_sem] Ext.cell Ext.frozen Ext.lt Ext.le s1 s2 s3 s4 s5 s6 t1 t2 t3 t4 t5 t6
attribute [local go_sem ↓] Go.wp_at_zero Go.wp_at_succ

theorem append_none (b : Nat) (ty : TypeId) (W : World) : (Builtin.append_ #[49, 49] ty #[.slice (some ⟨b, 0, none⟩) 0 0, .slice none 0 0]).run Try.prog W = .ok (.slice (some ⟨b, 0, none⟩) 0 0) W := by
  have u49 := Try.underlying49
  go_simp

theorem append_none2 (A : Option Addr) (n c : Nat) (ty : TypeId) (W : World) (h : n ≤ c) : (Builtin.append_ #[49, 49] ty #[.slice A n c, .slice none 0 0]).run Try.prog W = .ok (.slice A n c) W := by
  have u49 := Try.underlying49
  cases A <;> go_simp

set_option maxRecDepth 100000 in
set_option maxHeartbeats 4000000 in
theorem addR_nil (base g : Nat) (x0 x1 x2 x3 x4 x5 : Int) (w : World) (h : RB base w g (.slice none 0 0) []) (hbase : base ≤ w.heap.size) :
    Calls Try.prog 21 #[.pointer (some ⟨g, 0, none⟩), iv (x0, x1, x2, x3, x4, x5)] w (RetR base g [(x0, x1, x2, x3, x4, x5)] (.bool true) w) := by
  have hlt := h.lt
  have c0 := h.c0
  have f0 := h.f0
  have H := hid h
  clear h
  obtain ⟨i0, hi0, hz0, hz1, hz2⟩ := info_parts info40
  simp only [iv]
  go_enter Try.func21, Try.ntmps21
  go_wp2_with fail
  go_loopw [5] (fun i wr => i = .int .i64 0 ∧ Gr w wr ∧ wr.heap[w.heap.size]? = some (.cells #[.int .i64 x0, .int .i64 x1, .int .i64 x2, .int .i64 x3, .int .i64 x4, .int .i64 x5] 40 (0, 0))) (fun i _ => 0)
  case atStart => exact ⟨rfl, (Gr.refl w).alloc _, heap_alloc_new _ _⟩
  case round =>
    obtain ⟨rfl, hg, hb⟩ := hrel
    have GG := hid hg
    have hsz := GG.out.size
    have c0 := (H.out.gr GG.out).c0
    have f0 := (H.out.gr GG.out).f0
    have hlt2 : g < wr.heap.size := by omega
    obtain ⟨b0, b1, b2, b3, b4, b5, _⟩ := heap6' hb
    have hbl : w.heap.size < wr.heap.size := (Array.getElem?_eq_some_iff.1 hb).1
    have HBR := hid hb
    clear hg hb
    go_wp2_with fail
    refine wp_region_ext (by kernel_rfl) (by kernel_rfl) ?_
    repeat (go_big_quiet_step (fail))
    refine wpQuiet_nil ?_
    rintro _ ⟨z1, rfl⟩
    go_wp2_with fail
    refine wp_region_ext (by kernel_rfl) (by kernel_rfl) ?_
    repeat (go_big_quiet_step (fail))
    refine wpQuiet_nil ?_
    rintro _ ⟨z2, rfl⟩
    go_wp2_with fail
    have GW := hid ((GG.out.ext z1).ext z2)
    have hcz := GW.out.size
    have hWr := z1.gr.trans z2.gr
    generalize z2.val = W2 at *
    have c02 := (H.out.gr GW.out).c0
    have f02 := (H.out.gr GW.out).f0
    have hg02 : g < W2.heap.size := by omega
    have HB2 := hid ((hWr.block w.heap.size hbl).trans HBR.out)
    obtain ⟨q0, q1, q2, q3, q4, q5, _⟩ := heap6' HB2.out
    have hq : w.heap.size < W2.heap.size := (Array.getElem?_eq_some_iff.1 HB2.out).1
    have HE := hid (World.ownsRow_made (base := W2.heap.size) (e := 40) (size := 6) W2 #[] 0 (Nat.le_refl _) (by decide) rfl)
    have HE2 := hid (show ((W2.alloc (.cells #[.int .i64 x0, .int .i64 x1, .int .i64 x2, .int .i64 x3, .int .i64 x4, .int .i64 x5] 40)).alloc (.cells #[] 40)).ownsRow W2.heap.size 40 6 (.slice (some ⟨W2.heap.size + 1, 0, none⟩) 0 0) 0 [] by
      have := World.ownsRow_made (base := W2.heap.size) (e := 40) (size := 6) (W2.alloc (.cells #[.int .i64 x0, .int .i64 x1, .int .i64 x2, .int .i64 x3, .int .i64 x4, .int .i64 x5] 40)) #[] 0 (by simp) (by decide) rfl
      rw [show (W2.alloc (.cells #[.int .i64 x0, .int .i64 x1, .int .i64 x2, .int .i64 x3, .int .i64 x4, .int .i64 x5] 40)).heap.size = W2.heap.size + 1 by simp] at this
      exact this)
    have HX1 := hid (show ((W2.alloc (.cells #[] 40)).alloc (.cells #[.int .i64 x0, .int .i64 x1, .int .i64 x2, .int .i64 x3, .int .i64 x4, .int .i64 x5] 40)).heap[W2.heap.size + 1]? = some (.cells #[.int .i64 x0, .int .i64 x1, .int .i64 x2, .int .i64 x3, .int .i64 x4, .int .i64 x5] 40 (0, 0)) by
      have := heap_alloc_new (W2.alloc (.cells #[] 40)) (.cells #[.int .i64 x0, .int .i64 x1, .int .i64 x2, .int .i64 x3, .int .i64 x4, .int .i64 x5] 40)
      rw [show (W2.alloc (.cells #[] 40)).heap.size = W2.heap.size + 1 by simp] at this
      exact this)
    have HX2 := hid (show ((W2.alloc (.cells #[.int .i64 x0, .int .i64 x1, .int .i64 x2, .int .i64 x3, .int .i64 x4, .int .i64 x5] 40)).alloc (.cells #[] 40)).heap[W2.heap.size]? = some (.cells #[.int .i64 x0, .int .i64 x1, .int .i64 x2, .int .i64 x3, .int .i64 x4, .int .i64 x5] 40 (0, 0)) from (((Gr.refl _).alloc _).block _ (by simp)).trans (heap_alloc_new W2 _))
    go_region_law (first
      | (refine step_append_at (by rfl) (.tmp 45) (.tmp 51) 49 49 (by rfl) (.slice (some ⟨W2.heap.size, 0, none⟩) 0 0) (.slice none 0 0) (by rfl) (by rfl) (append_none _ _ _) ?_)
      | (refine step_append_at (by rfl) (.tmp 45) (.tmp 51) 49 49 (by rfl) (.slice (some ⟨W2.heap.size + 1, 0, none⟩) 0 0) (.slice none 0 0) (by rfl) (by rfl) (append_none _ _ _) ?_)
      | (refine step_append_own (by rfl) (.tmp 52) (.tmp 54) 49 (by rfl) W2.heap.size 40 i0 _ 6 48 Try.underlying49 hi0 hz0 hz1 hz2 rfl (by decide) (.slice (some ⟨W2.heap.size, 0, none⟩) 0 0) 0 [] (by rfl) (own_gr HE.out (by repeat (first | exact Gr.refl _ | assumption | refine Gr.alloc ?_ _ | refine Gr.drew ?_))) ⟨W2.heap.size + 1, 0, none⟩ 1 1 [.int .i64 x0, .int .i64 x1, .int .i64 x2, .int .i64 x3, .int .i64 x4, .int .i64 x5] (by rfl) rfl (World.news_of_block (cs := #[.int .i64 x0, .int .i64 x1, .int .i64 x2, .int .i64 x3, .int .i64 x4, .int .i64 x5]) (t := 40) (fr := (0, 0)) (by first | exact HX1.out | exact (HX1.out : _))) (by simp [Value.oneCell']) (by unfold maxLen; omega) (by omega) (by simp; omega) ?_
         intro v2 w3 hown2 hgr2 _
         obtain ⟨D2, c2, rfl⟩ := own_shape hown2
         have HW3 := hid (show Gr W2 w3 from gr_grown (by repeat (first | exact Gr.refl _ | assumption | refine Gr.alloc ?_ _ | refine Gr.drew ?_)) hgr2 (by intro k hk; simp [Value.ownBlock] at hk; omega))
         have HO2 := hid (show w3.ownsRow W2.heap.size 40 6 (.slice D2 1 c2) 1 [.int .i64 x0, .int .i64 x1, .int .i64 x2, .int .i64 x3, .int .i64 x4, .int .i64 x5] from hown2)
         clear hown2 hgr2)
      | (refine step_append_own (by rfl) (.tmp 52) (.tmp 54) 49 (by rfl) W2.heap.size 40 i0 _ 6 48 Try.underlying49 hi0 hz0 hz1 hz2 rfl (by decide) (.slice (some ⟨W2.heap.size + 1, 0, none⟩) 0 0) 0 [] (by rfl) (own_gr HE2.out (by repeat (first | exact Gr.refl _ | assumption | refine Gr.alloc ?_ _ | refine Gr.drew ?_))) ⟨W2.heap.size, 0, none⟩ 1 1 [.int .i64 x0, .int .i64 x1, .int .i64 x2, .int .i64 x3, .int .i64 x4, .int .i64 x5] (by rfl) rfl (World.news_of_block (cs := #[.int .i64 x0, .int .i64 x1, .int .i64 x2, .int .i64 x3, .int .i64 x4, .int .i64 x5]) (t := 40) (fr := (0, 0)) (by exact HX2.out)) (by simp [Value.oneCell']) (by unfold maxLen; omega) (by omega) (by simp; omega) ?_
         intro v2 w3 hown2 hgr2 _
         obtain ⟨D2, c2, rfl⟩ := own_shape hown2
         have HW3 := hid (show Gr W2 w3 from gr_grown (by repeat (first | exact Gr.refl _ | assumption | refine Gr.alloc ?_ _ | refine Gr.drew ?_)) hgr2 (by intro k hk; simp [Value.ownBlock] at hk; omega))
         have HO2 := hid (show w3.ownsRow W2.heap.size 40 6 (.slice D2 1 c2) 1 [.int .i64 x0, .int .i64 x1, .int .i64 x2, .int .i64 x3, .int .i64 x4, .int .i64 x5] from hown2)
         clear hown2 hgr2))
    all_goals (
      have GF := hid (GW.out.trans HW3.out)
      have c03 := (H.out.gr GF.out).c0
      have f03 := (H.out.gr GF.out).f0
      have hg3 : g < w3.heap.size := Nat.lt_of_lt_of_le hlt GF.out.size
      have hc2 : 1 ≤ c2 := by
        rcases HO2.out.2 with ⟨e, _⟩ | ⟨_, _, _, e, _, _, h, _⟩
        · cases e
        · injection e with _ _ e; omega
      go_wp2_with (at_builtin; refine wpList_append_at _ rfl _ _ 49 49 rfl (.slice D2 1 c2) (.slice none 0 0) rfl rfl (append_none2 _ _ _ _ _ hc2) ?_)
      go_ret
      have HC4 := (GF.out.block g hlt).trans H.out.cell
      refine ⟨.slice D2 1 c2, rfl, ?_, (GF.out.mod (fun k => k = g)).set (p := ⟨g, 0, none⟩) (fun _ => rfl) _⟩
      refine RB.set H.out.lo HC4 ?_
      exact HO2.out.mono (Nat.le_trans hbase hcz))
end Go.Proofs.Ytikmniokbliolaa
