import Derived.Test.YthiahnpijdkboaaP5
namespace Go.Proofs.Ythiahnpijdkboaa
open Go.RowKit Go.Ext Go.BigFrame
attribute [local go_sem] Ext.cell Ext.frozen Ext.lt Ext.le s1 s2 s3 s4 s5 s6 t1 t2 t3 t4 t5 t6
attribute [local go_sem ↓] Go.wp_at_zero Go.wp_at_succ

theorem copied_nil (A : Option Addr) (c : Nat) (w : World) : Calls Try.prog 30 #[.slice A 0 c] w (RetE (.slice none 0 0) w) := by
  refine retE ?_
  go_enter Try.func30, Try.ntmps30
  go_wp2_with fail
  refine wp_loop_rounds 1 ?_
  rw [rounds_succ]
  go_wp2_with fail
  go_ret
  exact ⟨rfl, Gr.refl _⟩

set_option maxRecDepth 100000 in
set_option maxHeartbeats 4000000 in
theorem addR_nil (base g : Nat) (idx term : Int) (L : List Ent) (v : Value) (A : Option Addr) (c : Nat) (w : World) (h : RefAt base w g idx term L v) :
    Calls Try.prog 34 #[.pointer (some ⟨g, 0, none⟩), .slice A 0 c] w (RetAR base g idx term L v w) := by
  have b2 := h.i0
  have b3 := h.i1
  have b4 := h.len
  have b6 := h.lt
  have H := hid h
  clear h
  obtain ⟨Av, cv, rfl, _, hcv⟩ := H.out.row.shape
  have g0 : w.cell? ⟨g, 0, none⟩ = some (.int .i64 idx) := by have := H.out.cell 0; simpa using this
  have g2 : w.cell? ⟨g, 2, none⟩ = some (.slice Av L.length cv) := by have := H.out.cell 2; simpa using this
  have f2 : w.frozen? ⟨g, 2, none⟩ = false := H.out.frozen 2
  obtain ⟨ys, hys1, hys2⟩ := H.out.row
  have HY1 := hid hys1
  have HY2 := hid hys2
  clear hys1 hys2
  rcases Av with _ | ad
  all_goals (
    go_enter Try.func34, Try.ntmps34
    go_wp2_with fail
    go_region_law
      (first
        | (go_simp; go_at_call 30
           refine (calls_gr (w0 := w) ?_ (copied_nil _ _ _)).mono ?_
           · repeat (first | exact Gr.refl _ | refine Gr.ext ?_ _ | refine Gr.alloc ?_ _ | refine Gr.drew ?_)
           rintro e _ ⟨rfl, y6, rfl⟩
           have hz6 := y6.gr.size)))
  all_goals (
    have hg8 : g < y6.val.heap.size := by omega
    have HPUT := hid (RefAt.put (M := L) (w2 := y6.val) H.out (y6.gr.block g b6) b4 (own_gr HY1.out y6.gr) (HY2.out.kp y6.gr.kp))
    have HMOD := fun (v : Value) (u : Value) => hid ((y6.gr.mod (fun b => b = g ∨ v.ownBlock = some b)).set (p := ⟨g, 2, none⟩) (fun _ => .inl rfl) u)
    go_wp2_with fail
    refine wp_region_ext (by kernel_rfl) (by kernel_rfl) ?_
    repeat (go_big_quiet_step (fail))
    refine wpQuiet_nil ?_
    rintro _ ⟨x, rfl⟩
    go_wp2_with fail
    go_ret
    exact ⟨_, rfl, HPUT.out.1.gr x.gr, (HMOD _ _).out.gr x.gr⟩)
end Go.Proofs.Ythiahnpijdkboaa
