import Derived.Test.YtdgkgmlnjolloaaDoorS7
namespace Go.Proofs.YtdgkgmlnjolloaaDoor
open Go.RowKit Go.Ext Go.BigFrame
attribute [local go_sem] Ext.cell Ext.frozen Ext.lt Ext.le s1 s2 s3 s4 s5 s6 t1 t2 t3 t4 t5 t6
attribute [local go_sem ↓] Go.wp_at_zero Go.wp_at_succ

theorem code_nil (w : World) : Calls Tryd.prog 12 #[.nilIface] w (RetE (.int .i64 200) w) := by
  have HS := hid (sort_nil w)
  refine retE ?_
  go_enter Tryd.func12, Tryd.ntmps12
  go_wp2_with (go_at_call 10; refine HS.out.mono ?_; rintro e _ ⟨rfl, y1, rfl⟩)
  go_ret
  exact ⟨rfl, y1.gr⟩
set_option maxRecDepth 100000 in
set_option maxHeartbeats 2000000 in
theorem code_any (ws : List ByteArray) (b : Option Int) (v : Value) (w : World) (h : Ch w ws b v) (he : Et w) : Calls Tryd.prog 12 #[v] w (RetE (.int .i64 (codeB b)) w) := by
  have HS := hid (sort_any ws b v w h he)
  have HN := hid (fun W (y : Gr w W) => number_any ws b v W (h.gr y) (he.gr y))
  obtain ⟨tt, xx, rfl⟩ := h.shape
  clear h he
  refine retE ?_
  unfold codeB
  unfold sortB at HS
  cases b with
  | none =>
    have e0 : sortF (-1) = 4 := by decide
    have e1 : codeF (-1) = 500 := by decide
    simp only [Option.getD_none, Option.isSome_none, e0, e1] at *
    go_enter Tryd.func12, Tryd.ntmps12
    go_wp2_with (first | (go_at_call 10; refine HS.out.mono ?_; rintro e _ ⟨rfl, y1, rfl⟩) | (go_at_call 19; refine (HN.out _ y1.gr).mono ?_; rintro e _ ⟨rfl, y2, rfl⟩))
    go_ret
    exact ⟨rfl, y1.gr.ext y2⟩
  | some n =>
    simp only [Option.getD_some, Option.isSome_some] at *
    by_cases h0 : n = 0
    · subst h0
      rw [show sortF 0 = 0 by decide] at HS
      rw [show codeF 0 = 200 by decide]
      go_enter Tryd.func12, Tryd.ntmps12
      go_wp2_with (first | (go_at_call 10; refine HS.out.mono ?_; rintro e _ ⟨rfl, y1, rfl⟩) | (go_at_call 19; refine (HN.out _ y1.gr).mono ?_; rintro e _ ⟨rfl, y2, rfl⟩))
      go_ret
      exact ⟨rfl, y1.gr⟩
    by_cases h1 : n = 26
    · subst h1
      rw [show sortF 26 = 2 by decide] at HS
      rw [show codeF 26 = 307 by decide]
      go_enter Tryd.func12, Tryd.ntmps12
      go_wp2_with (first | (go_at_call 10; refine HS.out.mono ?_; rintro e _ ⟨rfl, y1, rfl⟩) | (go_at_call 19; refine (HN.out _ y1.gr).mono ?_; rintro e _ ⟨rfl, y2, rfl⟩))
      go_ret
      exact ⟨rfl, y1.gr⟩
    by_cases h2 : n = 25
    · subst h2
      rw [show sortF 25 = 2 by decide] at HS
      rw [show codeF 25 = 307 by decide]
      go_enter Tryd.func12, Tryd.ntmps12
      go_wp2_with (first | (go_at_call 10; refine HS.out.mono ?_; rintro e _ ⟨rfl, y1, rfl⟩) | (go_at_call 19; refine (HN.out _ y1.gr).mono ?_; rintro e _ ⟨rfl, y2, rfl⟩))
      go_ret
      exact ⟨rfl, y1.gr⟩
    by_cases h3 : n = 27
    · subst h3
      rw [show sortF 27 = 1 by decide] at HS
      rw [show codeF 27 = 503 by decide]
      go_enter Tryd.func12, Tryd.ntmps12
      go_wp2_with (first | (go_at_call 10; refine HS.out.mono ?_; rintro e _ ⟨rfl, y1, rfl⟩) | (go_at_call 19; refine (HN.out _ y1.gr).mono ?_; rintro e _ ⟨rfl, y2, rfl⟩))
      go_ret
      exact ⟨rfl, y1.gr⟩
    by_cases h4 : n = 5
    · subst h4
      rw [show sortF 5 = 1 by decide] at HS
      rw [show codeF 5 = 503 by decide]
      go_enter Tryd.func12, Tryd.ntmps12
      go_wp2_with (first | (go_at_call 10; refine HS.out.mono ?_; rintro e _ ⟨rfl, y1, rfl⟩) | (go_at_call 19; refine (HN.out _ y1.gr).mono ?_; rintro e _ ⟨rfl, y2, rfl⟩))
      go_ret
      exact ⟨rfl, y1.gr⟩
    by_cases h5 : n = 4
    · subst h5
      rw [show sortF 4 = 1 by decide] at HS
      rw [show codeF 4 = 503 by decide]
      go_enter Tryd.func12, Tryd.ntmps12
      go_wp2_with (first | (go_at_call 10; refine HS.out.mono ?_; rintro e _ ⟨rfl, y1, rfl⟩) | (go_at_call 19; refine (HN.out _ y1.gr).mono ?_; rintro e _ ⟨rfl, y2, rfl⟩))
      go_ret
      exact ⟨rfl, y1.gr⟩
    by_cases h6 : n = 6
    · subst h6
      rw [show sortF 6 = 1 by decide] at HS
      rw [show codeF 6 = 503 by decide]
      go_enter Tryd.func12, Tryd.ntmps12
      go_wp2_with (first | (go_at_call 10; refine HS.out.mono ?_; rintro e _ ⟨rfl, y1, rfl⟩) | (go_at_call 19; refine (HN.out _ y1.gr).mono ?_; rintro e _ ⟨rfl, y2, rfl⟩))
      go_ret
      exact ⟨rfl, y1.gr⟩
    by_cases h7 : n = 24
    · subst h7
      rw [show sortF 24 = 3 by decide] at HS
      rw [show codeF 24 = 410 by decide]
      go_enter Tryd.func12, Tryd.ntmps12
      go_wp2_with (first | (go_at_call 10; refine HS.out.mono ?_; rintro e _ ⟨rfl, y1, rfl⟩) | (go_at_call 19; refine (HN.out _ y1.gr).mono ?_; rintro e _ ⟨rfl, y2, rfl⟩))
      go_ret
      exact ⟨rfl, y1.gr⟩
    by_cases h8 : n = 2
    · subst h8
      rw [show sortF 2 = 4 by decide] at HS
      rw [show codeF 2 = 404 by decide]
      go_enter Tryd.func12, Tryd.ntmps12
      go_wp2_with (first | (go_at_call 10; refine HS.out.mono ?_; rintro e _ ⟨rfl, y1, rfl⟩) | (go_at_call 19; refine (HN.out _ y1.gr).mono ?_; rintro e _ ⟨rfl, y2, rfl⟩))
      go_ret
      exact ⟨rfl, y1.gr.ext y2⟩
    by_cases h9 : n = 3
    · subst h9
      rw [show sortF 3 = 4 by decide] at HS
      rw [show codeF 3 = 409 by decide]
      go_enter Tryd.func12, Tryd.ntmps12
      go_wp2_with (first | (go_at_call 10; refine HS.out.mono ?_; rintro e _ ⟨rfl, y1, rfl⟩) | (go_at_call 19; refine (HN.out _ y1.gr).mono ?_; rintro e _ ⟨rfl, y2, rfl⟩))
      go_ret
      exact ⟨rfl, y1.gr.ext y2⟩
    by_cases h10 : n = 20
    · subst h10
      rw [show sortF 20 = 4 by decide] at HS
      rw [show codeF 20 = 409 by decide]
      go_enter Tryd.func12, Tryd.ntmps12
      go_wp2_with (first | (go_at_call 10; refine HS.out.mono ?_; rintro e _ ⟨rfl, y1, rfl⟩) | (go_at_call 19; refine (HN.out _ y1.gr).mono ?_; rintro e _ ⟨rfl, y2, rfl⟩))
      go_ret
      exact ⟨rfl, y1.gr.ext y2⟩
    by_cases h11 : n = 21
    · subst h11
      rw [show sortF 21 = 4 by decide] at HS
      rw [show codeF 21 = 409 by decide]
      go_enter Tryd.func12, Tryd.ntmps12
      go_wp2_with (first | (go_at_call 10; refine HS.out.mono ?_; rintro e _ ⟨rfl, y1, rfl⟩) | (go_at_call 19; refine (HN.out _ y1.gr).mono ?_; rintro e _ ⟨rfl, y2, rfl⟩))
      go_ret
      exact ⟨rfl, y1.gr.ext y2⟩
    by_cases h12 : n = 23
    · subst h12
      rw [show sortF 23 = 4 by decide] at HS
      rw [show codeF 23 = 409 by decide]
      go_enter Tryd.func12, Tryd.ntmps12
      go_wp2_with (first | (go_at_call 10; refine HS.out.mono ?_; rintro e _ ⟨rfl, y1, rfl⟩) | (go_at_call 19; refine (HN.out _ y1.gr).mono ?_; rintro e _ ⟨rfl, y2, rfl⟩))
      go_ret
      exact ⟨rfl, y1.gr.ext y2⟩
    by_cases h13 : n = 1
    · subst h13
      rw [show sortF 1 = 4 by decide] at HS
      rw [show codeF 1 = 400 by decide]
      go_enter Tryd.func12, Tryd.ntmps12
      go_wp2_with (first | (go_at_call 10; refine HS.out.mono ?_; rintro e _ ⟨rfl, y1, rfl⟩) | (go_at_call 19; refine (HN.out _ y1.gr).mono ?_; rintro e _ ⟨rfl, y2, rfl⟩))
      go_ret
      exact ⟨rfl, y1.gr.ext y2⟩
    by_cases h14 : n = 22
    · subst h14
      rw [show sortF 22 = 4 by decide] at HS
      rw [show codeF 22 = 400 by decide]
      go_enter Tryd.func12, Tryd.ntmps12
      go_wp2_with (first | (go_at_call 10; refine HS.out.mono ?_; rintro e _ ⟨rfl, y1, rfl⟩) | (go_at_call 19; refine (HN.out _ y1.gr).mono ?_; rintro e _ ⟨rfl, y2, rfl⟩))
      go_ret
      exact ⟨rfl, y1.gr.ext y2⟩
    by_cases h15 : n = 10
    · subst h15
      rw [show sortF 10 = 4 by decide] at HS
      rw [show codeF 10 = 400 by decide]
      go_enter Tryd.func12, Tryd.ntmps12
      go_wp2_with (first | (go_at_call 10; refine HS.out.mono ?_; rintro e _ ⟨rfl, y1, rfl⟩) | (go_at_call 19; refine (HN.out _ y1.gr).mono ?_; rintro e _ ⟨rfl, y2, rfl⟩))
      go_ret
      exact ⟨rfl, y1.gr.ext y2⟩
    have b0 : (n == 0) = false := by rw [beq_eq_false_iff_ne]; exact h0
    have b1 : (n == 26) = false := by rw [beq_eq_false_iff_ne]; exact h1
    have b2 : (n == 25) = false := by rw [beq_eq_false_iff_ne]; exact h2
    have b3 : (n == 27) = false := by rw [beq_eq_false_iff_ne]; exact h3
    have b4 : (n == 5) = false := by rw [beq_eq_false_iff_ne]; exact h4
    have b5 : (n == 4) = false := by rw [beq_eq_false_iff_ne]; exact h5
    have b6 : (n == 6) = false := by rw [beq_eq_false_iff_ne]; exact h6
    have b7 : (n == 24) = false := by rw [beq_eq_false_iff_ne]; exact h7
    have b8 : (n == 2) = false := by rw [beq_eq_false_iff_ne]; exact h8
    have b9 : (n == 3) = false := by rw [beq_eq_false_iff_ne]; exact h9
    have b10 : (n == 20) = false := by rw [beq_eq_false_iff_ne]; exact h10
    have b11 : (n == 21) = false := by rw [beq_eq_false_iff_ne]; exact h11
    have b12 : (n == 23) = false := by rw [beq_eq_false_iff_ne]; exact h12
    have b13 : (n == 1) = false := by rw [beq_eq_false_iff_ne]; exact h13
    have b14 : (n == 22) = false := by rw [beq_eq_false_iff_ne]; exact h14
    have b15 : (n == 10) = false := by rw [beq_eq_false_iff_ne]; exact h15
    have hF : sortF n = 4 := by unfold sortF; simp [h0, h1, h2, h3, h4, h5, h6, h7]
    have hC : codeF n = 500 := by unfold codeF; simp [h0, h1, h2, h3, h4, h5, h6, h7, h8, h9, h10, h11, h12, h13, h14, h15]
    rw [hF] at HS
    rw [hC]
    clear hF hC
    go_enter Tryd.func12, Tryd.ntmps12
    go_wp2_with (first | (go_at_call 10; refine HS.out.mono ?_; rintro e _ ⟨rfl, y1, rfl⟩) | (go_at_call 19; refine (HN.out _ y1.gr).mono ?_; rintro e _ ⟨rfl, y2, rfl⟩))
    go_ret
    exact ⟨rfl, y1.gr.ext y2⟩
end Go.Proofs.YtdgkgmlnjolloaaDoor
