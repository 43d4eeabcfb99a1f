import Derived.Test.YtdgkgmlnjolloaaDoorRow
import Derived.Test.YtdgkgmlnjolloaaDoorMem
import Derived.Test.YtdgkgmlnjolloaaDoorChecked
import Derived.Test.YtdgkgmlnjolloaaDoorPlan2
namespace Go.Proofs.YtdgkgmlnjolloaaDoor
open Go.RowKit Go.Ext Go.BigFrame
attribute [local go_sem] Ext.cell Ext.frozen Ext.lt Ext.le s1 s2 s3 s4 s5 s6 t1 t2 t3 t4 t5 t6
attribute [local go_sem ↓] Go.wp_at_zero Go.wp_at_succ

theorem flow_any (n : Int) : ∃ s : ByteArray, s.size ≤ 7 ∧ ∀ w, Calls Tryd.prog 18 #[.int .i64 n] w (RetE (.string s) w) := by
  by_cases h0 : n = 20
  · subst h0
    refine ⟨(⟨#[99, 108, 111, 115, 101, 100]⟩ : ByteArray), by decide, fun w => ?_⟩
    refine retE ?_
    go_enter Tryd.func18, Tryd.ntmps18
    go_wp2_with fail
    go_ret
    exact ⟨rfl, Gr.refl _⟩
  by_cases h1 : n = 21
  · subst h1
    refine ⟨(⟨#[115, 116, 97, 108, 101]⟩ : ByteArray), by decide, fun w => ?_⟩
    refine retE ?_
    go_enter Tryd.func18, Tryd.ntmps18
    go_wp2_with fail
    go_ret
    exact ⟨rfl, Gr.refl _⟩
  by_cases h2 : n = 22
  · subst h2
    refine ⟨(⟨#[98, 97, 100]⟩ : ByteArray), by decide, fun w => ?_⟩
    refine retE ?_
    go_enter Tryd.func18, Tryd.ntmps18
    go_wp2_with fail
    go_ret
    exact ⟨rfl, Gr.refl _⟩
  by_cases h3 : n = 23
  · subst h3
    refine ⟨(⟨#[108, 97, 116, 101]⟩ : ByteArray), by decide, fun w => ?_⟩
    refine retE ?_
    go_enter Tryd.func18, Tryd.ntmps18
    go_wp2_with fail
    go_ret
    exact ⟨rfl, Gr.refl _⟩
  by_cases h4 : n = 24
  · subst h4
    refine ⟨(⟨#[101, 120, 112, 105, 114, 101, 100]⟩ : ByteArray), by decide, fun w => ?_⟩
    refine retE ?_
    go_enter Tryd.func18, Tryd.ntmps18
    go_wp2_with fail
    go_ret
    exact ⟨rfl, Gr.refl _⟩
  by_cases h5 : n = 25
  · subst h5
    refine ⟨(⟨#[102, 101, 110, 99, 101, 100]⟩ : ByteArray), by decide, fun w => ?_⟩
    refine retE ?_
    go_enter Tryd.func18, Tryd.ntmps18
    go_wp2_with fail
    go_ret
    exact ⟨rfl, Gr.refl _⟩
  by_cases h6 : n = 26
  · subst h6
    refine ⟨(⟨#[108, 101, 97, 100, 101, 114]⟩ : ByteArray), by decide, fun w => ?_⟩
    refine retE ?_
    go_enter Tryd.func18, Tryd.ntmps18
    go_wp2_with fail
    go_ret
    exact ⟨rfl, Gr.refl _⟩
  by_cases h7 : n = 27
  · subst h7
    refine ⟨(⟨#[97, 119, 97, 121]⟩ : ByteArray), by decide, fun w => ?_⟩
    refine retE ?_
    go_enter Tryd.func18, Tryd.ntmps18
    go_wp2_with fail
    go_ret
    exact ⟨rfl, Gr.refl _⟩
  have b0 : (n == 20) = false := by rw [beq_eq_false_iff_ne]; exact h0
  have b1 : (n == 21) = false := by rw [beq_eq_false_iff_ne]; exact h1
  have b2 : (n == 22) = false := by rw [beq_eq_false_iff_ne]; exact h2
  have b3 : (n == 23) = false := by rw [beq_eq_false_iff_ne]; exact h3
  have b4 : (n == 24) = false := by rw [beq_eq_false_iff_ne]; exact h4
  have b5 : (n == 25) = false := by rw [beq_eq_false_iff_ne]; exact h5
  have b6 : (n == 26) = false := by rw [beq_eq_false_iff_ne]; exact h6
  have b7 : (n == 27) = false := by rw [beq_eq_false_iff_ne]; exact h7
  refine ⟨(⟨#[101, 114, 114, 111, 114]⟩ : ByteArray), by decide, fun w => ?_⟩
  refine retE ?_
  go_enter Tryd.func18, Tryd.ntmps18
  go_wp2_with fail
  go_ret
  exact ⟨rfl, Gr.refl _⟩
theorem errno_any (n : Int) : ∃ s : ByteArray, s.size ≤ 7 ∧ ∀ w, Calls Tryd.prog 9 #[.int .i64 n] w (RetE (.string s) w) := by
  by_cases h0 : n = 0
  · subst h0
    refine ⟨(⟨#[111, 107]⟩ : ByteArray), by decide, fun w => ?_⟩
    refine retE ?_
    go_enter Tryd.func9, Tryd.ntmps9
    go_wp2_with fail
    go_ret
    exact ⟨rfl, Gr.refl _⟩
  by_cases h1 : n = 1
  · subst h1
    refine ⟨(⟨#[97, 114, 103]⟩ : ByteArray), by decide, fun w => ?_⟩
    refine retE ?_
    go_enter Tryd.func9, Tryd.ntmps9
    go_wp2_with fail
    go_ret
    exact ⟨rfl, Gr.refl _⟩
  by_cases h2 : n = 2
  · subst h2
    refine ⟨(⟨#[110, 111, 110, 101]⟩ : ByteArray), by decide, fun w => ?_⟩
    refine retE ?_
    go_enter Tryd.func9, Tryd.ntmps9
    go_wp2_with fail
    go_ret
    exact ⟨rfl, Gr.refl _⟩
  by_cases h3 : n = 3
  · subst h3
    refine ⟨(⟨#[117, 115, 101, 100]⟩ : ByteArray), by decide, fun w => ?_⟩
    refine retE ?_
    go_enter Tryd.func9, Tryd.ntmps9
    go_wp2_with fail
    go_ret
    exact ⟨rfl, Gr.refl _⟩
  by_cases h4 : n = 4
  · subst h4
    refine ⟨(⟨#[102, 117, 108, 108]⟩ : ByteArray), by decide, fun w => ?_⟩
    refine retE ?_
    go_enter Tryd.func9, Tryd.ntmps9
    go_wp2_with fail
    go_ret
    exact ⟨rfl, Gr.refl _⟩
  by_cases h5 : n = 5
  · subst h5
    refine ⟨(⟨#[100, 111, 119, 110]⟩ : ByteArray), by decide, fun w => ?_⟩
    refine retE ?_
    go_enter Tryd.func9, Tryd.ntmps9
    go_wp2_with fail
    go_ret
    exact ⟨rfl, Gr.refl _⟩
  by_cases h6 : n = 6
  · subst h6
    refine ⟨(⟨#[110, 111, 116]⟩ : ByteArray), by decide, fun w => ?_⟩
    refine retE ?_
    go_enter Tryd.func9, Tryd.ntmps9
    go_wp2_with fail
    go_ret
    exact ⟨rfl, Gr.refl _⟩
  by_cases h7 : n = 7
  · subst h7
    refine ⟨(⟨#[115, 104, 111, 114, 116]⟩ : ByteArray), by decide, fun w => ?_⟩
    refine retE ?_
    go_enter Tryd.func9, Tryd.ntmps9
    go_wp2_with fail
    go_ret
    exact ⟨rfl, Gr.refl _⟩
  by_cases h8 : n = 8
  · subst h8
    refine ⟨(⟨#[102, 111, 114, 109]⟩ : ByteArray), by decide, fun w => ?_⟩
    refine retE ?_
    go_enter Tryd.func9, Tryd.ntmps9
    go_wp2_with fail
    go_ret
    exact ⟨rfl, Gr.refl _⟩
  by_cases h9 : n = 9
  · subst h9
    refine ⟨(⟨#[115, 117, 109]⟩ : ByteArray), by decide, fun w => ?_⟩
    refine retE ?_
    go_enter Tryd.func9, Tryd.ntmps9
    go_wp2_with fail
    go_ret
    exact ⟨rfl, Gr.refl _⟩
  by_cases h10 : n = 10
  · subst h10
    refine ⟨(⟨#[108, 111, 110, 103]⟩ : ByteArray), by decide, fun w => ?_⟩
    refine retE ?_
    go_enter Tryd.func9, Tryd.ntmps9
    go_wp2_with fail
    go_ret
    exact ⟨rfl, Gr.refl _⟩
  by_cases h11 : n = 11
  · subst h11
    refine ⟨(⟨#[108, 111, 115, 116]⟩ : ByteArray), by decide, fun w => ?_⟩
    refine retE ?_
    go_enter Tryd.func9, Tryd.ntmps9
    go_wp2_with fail
    go_ret
    exact ⟨rfl, Gr.refl _⟩
  have b0 : (n == 0) = false := by rw [beq_eq_false_iff_ne]; exact h0
  have b1 : (n == 1) = false := by rw [beq_eq_false_iff_ne]; exact h1
  have b2 : (n == 2) = false := by rw [beq_eq_false_iff_ne]; exact h2
  have b3 : (n == 3) = false := by rw [beq_eq_false_iff_ne]; exact h3
  have b4 : (n == 4) = false := by rw [beq_eq_false_iff_ne]; exact h4
  have b5 : (n == 5) = false := by rw [beq_eq_false_iff_ne]; exact h5
  have b6 : (n == 6) = false := by rw [beq_eq_false_iff_ne]; exact h6
  have b7 : (n == 7) = false := by rw [beq_eq_false_iff_ne]; exact h7
  have b8 : (n == 8) = false := by rw [beq_eq_false_iff_ne]; exact h8
  have b9 : (n == 9) = false := by rw [beq_eq_false_iff_ne]; exact h9
  have b10 : (n == 10) = false := by rw [beq_eq_false_iff_ne]; exact h10
  have b11 : (n == 11) = false := by rw [beq_eq_false_iff_ne]; exact h11
  obtain ⟨s, hs, hc⟩ := flow_any n
  have HC := hid hc
  clear hc
  refine ⟨s, hs, fun w => ?_⟩
  refine retE ?_
  go_enter Tryd.func9, Tryd.ntmps9
  go_wp2_with (go_at_call 18; refine (HC.out w).mono ?_; rintro e _ ⟨rfl, y, rfl⟩)
  go_ret
  exact ⟨rfl, y.gr⟩

/-- What is to be done behind an error; its code. -/
def sortF (n : Int) : Int := if n = 0 then 0 else if n = 26 ∨ n = 25 then 2 else if n = 27 ∨ n = 5 ∨ n = 4 ∨ n = 6 then 1 else if n = 24 then 3 else 4
def codeF (n : Int) : Int := if n = 0 then 200 else if n = 26 ∨ n = 25 then 307 else if n = 27 ∨ n = 5 ∨ n = 4 ∨ n = 6 then 503 else if n = 24 then 410 else if n = 2 then 404 else if n = 3 ∨ n = 20 ∨ n = 21 ∨ n = 23 then 409 else if n = 1 ∨ n = 22 ∨ n = 10 then 400 else 500
theorem sortR_any (n : Int) (w : World) : Calls Tryd.prog 11 #[.int .i64 n] w (RetE (.int .i64 (sortF n)) w) := by
  by_cases h0 : n = 0
  · subst h0
    refine retE ?_
    go_enter Tryd.func11, Tryd.ntmps11
    go_wp2_with fail
    go_ret
    exact ⟨rfl, Gr.refl _⟩
  by_cases h1 : n = 26
  · subst h1
    refine retE ?_
    go_enter Tryd.func11, Tryd.ntmps11
    go_wp2_with fail
    go_ret
    exact ⟨rfl, Gr.refl _⟩
  by_cases h2 : n = 25
  · subst h2
    refine retE ?_
    go_enter Tryd.func11, Tryd.ntmps11
    go_wp2_with fail
    go_ret
    exact ⟨rfl, Gr.refl _⟩
  by_cases h3 : n = 27
  · subst h3
    refine retE ?_
    go_enter Tryd.func11, Tryd.ntmps11
    go_wp2_with fail
    go_ret
    exact ⟨rfl, Gr.refl _⟩
  by_cases h4 : n = 5
  · subst h4
    refine retE ?_
    go_enter Tryd.func11, Tryd.ntmps11
    go_wp2_with fail
    go_ret
    exact ⟨rfl, Gr.refl _⟩
  by_cases h5 : n = 4
  · subst h5
    refine retE ?_
    go_enter Tryd.func11, Tryd.ntmps11
    go_wp2_with fail
    go_ret
    exact ⟨rfl, Gr.refl _⟩
  by_cases h6 : n = 6
  · subst h6
    refine retE ?_
    go_enter Tryd.func11, Tryd.ntmps11
    go_wp2_with fail
    go_ret
    exact ⟨rfl, Gr.refl _⟩
  by_cases h7 : n = 24
  · subst h7
    refine retE ?_
    go_enter Tryd.func11, Tryd.ntmps11
    go_wp2_with fail
    go_ret
    exact ⟨rfl, Gr.refl _⟩
  have b0 : (n == 0) = false := by rw [beq_eq_false_iff_ne]; exact h0
  have b1 : (n == 26) = false := by rw [beq_eq_false_iff_ne]; exact h1
  have b2 : (n == 25) = false := by rw [beq_eq_false_iff_ne]; exact h2
  have b3 : (n == 27) = false := by rw [beq_eq_false_iff_ne]; exact h3
  have b4 : (n == 5) = false := by rw [beq_eq_false_iff_ne]; exact h4
  have b5 : (n == 4) = false := by rw [beq_eq_false_iff_ne]; exact h5
  have b6 : (n == 6) = false := by rw [beq_eq_false_iff_ne]; exact h6
  have b7 : (n == 24) = false := by rw [beq_eq_false_iff_ne]; exact h7
  have hF : sortF n = 4 := by unfold sortF; simp [h0, h1, h2, h3, h4, h5, h6, h7]
  rw [hF]
  clear hF
  refine retE ?_
  go_enter Tryd.func11, Tryd.ntmps11
  go_wp2_with fail
  go_ret
  exact ⟨rfl, Gr.refl _⟩
theorem codeR_any (n : Int) (w : World) : Calls Tryd.prog 13 #[.int .i64 n] w (RetE (.int .i64 (codeF n)) w) := by
  have HS := hid (sortR_any n w)
  by_cases h0 : n = 0
  · subst h0
    rw [show sortF 0 = 0 by decide] at HS
    rw [show codeF 0 = 200 by decide]
    refine retE ?_
    go_enter Tryd.func13, Tryd.ntmps13
    go_wp2_with (go_at_call 11; refine HS.out.mono ?_; rintro e _ ⟨rfl, y, rfl⟩)
    go_ret
    exact ⟨rfl, y.gr⟩
  by_cases h1 : n = 26
  · subst h1
    rw [show sortF 26 = 2 by decide] at HS
    rw [show codeF 26 = 307 by decide]
    refine retE ?_
    go_enter Tryd.func13, Tryd.ntmps13
    go_wp2_with (go_at_call 11; refine HS.out.mono ?_; rintro e _ ⟨rfl, y, rfl⟩)
    go_ret
    exact ⟨rfl, y.gr⟩
  by_cases h2 : n = 25
  · subst h2
    rw [show sortF 25 = 2 by decide] at HS
    rw [show codeF 25 = 307 by decide]
    refine retE ?_
    go_enter Tryd.func13, Tryd.ntmps13
    go_wp2_with (go_at_call 11; refine HS.out.mono ?_; rintro e _ ⟨rfl, y, rfl⟩)
    go_ret
    exact ⟨rfl, y.gr⟩
  by_cases h3 : n = 27
  · subst h3
    rw [show sortF 27 = 1 by decide] at HS
    rw [show codeF 27 = 503 by decide]
    refine retE ?_
    go_enter Tryd.func13, Tryd.ntmps13
    go_wp2_with (go_at_call 11; refine HS.out.mono ?_; rintro e _ ⟨rfl, y, rfl⟩)
    go_ret
    exact ⟨rfl, y.gr⟩
  by_cases h4 : n = 5
  · subst h4
    rw [show sortF 5 = 1 by decide] at HS
    rw [show codeF 5 = 503 by decide]
    refine retE ?_
    go_enter Tryd.func13, Tryd.ntmps13
    go_wp2_with (go_at_call 11; refine HS.out.mono ?_; rintro e _ ⟨rfl, y, rfl⟩)
    go_ret
    exact ⟨rfl, y.gr⟩
  by_cases h5 : n = 4
  · subst h5
    rw [show sortF 4 = 1 by decide] at HS
    rw [show codeF 4 = 503 by decide]
    refine retE ?_
    go_enter Tryd.func13, Tryd.ntmps13
    go_wp2_with (go_at_call 11; refine HS.out.mono ?_; rintro e _ ⟨rfl, y, rfl⟩)
    go_ret
    exact ⟨rfl, y.gr⟩
  by_cases h6 : n = 6
  · subst h6
    rw [show sortF 6 = 1 by decide] at HS
    rw [show codeF 6 = 503 by decide]
    refine retE ?_
    go_enter Tryd.func13, Tryd.ntmps13
    go_wp2_with (go_at_call 11; refine HS.out.mono ?_; rintro e _ ⟨rfl, y, rfl⟩)
    go_ret
    exact ⟨rfl, y.gr⟩
  by_cases h7 : n = 24
  · subst h7
    rw [show sortF 24 = 3 by decide] at HS
    rw [show codeF 24 = 410 by decide]
    refine retE ?_
    go_enter Tryd.func13, Tryd.ntmps13
    go_wp2_with (go_at_call 11; refine HS.out.mono ?_; rintro e _ ⟨rfl, y, rfl⟩)
    go_ret
    exact ⟨rfl, y.gr⟩
  by_cases h8 : n = 2
  · subst h8
    rw [show sortF 2 = 4 by decide] at HS
    rw [show codeF 2 = 404 by decide]
    refine retE ?_
    go_enter Tryd.func13, Tryd.ntmps13
    go_wp2_with (go_at_call 11; refine HS.out.mono ?_; rintro e _ ⟨rfl, y, rfl⟩)
    go_ret
    exact ⟨rfl, y.gr⟩
  by_cases h9 : n = 3
  · subst h9
    rw [show sortF 3 = 4 by decide] at HS
    rw [show codeF 3 = 409 by decide]
    refine retE ?_
    go_enter Tryd.func13, Tryd.ntmps13
    go_wp2_with (go_at_call 11; refine HS.out.mono ?_; rintro e _ ⟨rfl, y, rfl⟩)
    go_ret
    exact ⟨rfl, y.gr⟩
  by_cases h10 : n = 20
  · subst h10
    rw [show sortF 20 = 4 by decide] at HS
    rw [show codeF 20 = 409 by decide]
    refine retE ?_
    go_enter Tryd.func13, Tryd.ntmps13
    go_wp2_with (go_at_call 11; refine HS.out.mono ?_; rintro e _ ⟨rfl, y, rfl⟩)
    go_ret
    exact ⟨rfl, y.gr⟩
  by_cases h11 : n = 21
  · subst h11
    rw [show sortF 21 = 4 by decide] at HS
    rw [show codeF 21 = 409 by decide]
    refine retE ?_
    go_enter Tryd.func13, Tryd.ntmps13
    go_wp2_with (go_at_call 11; refine HS.out.mono ?_; rintro e _ ⟨rfl, y, rfl⟩)
    go_ret
    exact ⟨rfl, y.gr⟩
  by_cases h12 : n = 23
  · subst h12
    rw [show sortF 23 = 4 by decide] at HS
    rw [show codeF 23 = 409 by decide]
    refine retE ?_
    go_enter Tryd.func13, Tryd.ntmps13
    go_wp2_with (go_at_call 11; refine HS.out.mono ?_; rintro e _ ⟨rfl, y, rfl⟩)
    go_ret
    exact ⟨rfl, y.gr⟩
  by_cases h13 : n = 1
  · subst h13
    rw [show sortF 1 = 4 by decide] at HS
    rw [show codeF 1 = 400 by decide]
    refine retE ?_
    go_enter Tryd.func13, Tryd.ntmps13
    go_wp2_with (go_at_call 11; refine HS.out.mono ?_; rintro e _ ⟨rfl, y, rfl⟩)
    go_ret
    exact ⟨rfl, y.gr⟩
  by_cases h14 : n = 22
  · subst h14
    rw [show sortF 22 = 4 by decide] at HS
    rw [show codeF 22 = 400 by decide]
    refine retE ?_
    go_enter Tryd.func13, Tryd.ntmps13
    go_wp2_with (go_at_call 11; refine HS.out.mono ?_; rintro e _ ⟨rfl, y, rfl⟩)
    go_ret
    exact ⟨rfl, y.gr⟩
  by_cases h15 : n = 10
  · subst h15
    rw [show sortF 10 = 4 by decide] at HS
    rw [show codeF 10 = 400 by decide]
    refine retE ?_
    go_enter Tryd.func13, Tryd.ntmps13
    go_wp2_with (go_at_call 11; refine HS.out.mono ?_; rintro e _ ⟨rfl, y, rfl⟩)
    go_ret
    exact ⟨rfl, y.gr⟩
  have b0 : (n == 0) = false := by rw [beq_eq_false_iff_ne]; exact h0
  have b1 : (n == 26) = false := by rw [beq_eq_false_iff_ne]; exact h1
  have b2 : (n == 25) = false := by rw [beq_eq_false_iff_ne]; exact h2
  have b3 : (n == 27) = false := by rw [beq_eq_false_iff_ne]; exact h3
  have b4 : (n == 5) = false := by rw [beq_eq_false_iff_ne]; exact h4
  have b5 : (n == 4) = false := by rw [beq_eq_false_iff_ne]; exact h5
  have b6 : (n == 6) = false := by rw [beq_eq_false_iff_ne]; exact h6
  have b7 : (n == 24) = false := by rw [beq_eq_false_iff_ne]; exact h7
  have b8 : (n == 2) = false := by rw [beq_eq_false_iff_ne]; exact h8
  have b9 : (n == 3) = false := by rw [beq_eq_false_iff_ne]; exact h9
  have b10 : (n == 20) = false := by rw [beq_eq_false_iff_ne]; exact h10
  have b11 : (n == 21) = false := by rw [beq_eq_false_iff_ne]; exact h11
  have b12 : (n == 23) = false := by rw [beq_eq_false_iff_ne]; exact h12
  have b13 : (n == 1) = false := by rw [beq_eq_false_iff_ne]; exact h13
  have b14 : (n == 22) = false := by rw [beq_eq_false_iff_ne]; exact h14
  have b15 : (n == 10) = false := by rw [beq_eq_false_iff_ne]; exact h15
  have hF : sortF n = 4 := by unfold sortF; simp [h0, h1, h2, h3, h4, h5, h6, h7]
  rw [hF] at HS
  have hC : codeF n = 500 := by unfold codeF; simp [h0, h1, h2, h3, h4, h5, h6, h7, h8, h9, h10, h11, h12, h13, h14, h15]
  rw [hC]
  clear hF hC
  refine retE ?_
  go_enter Tryd.func13, Tryd.ntmps13
  go_wp2_with (go_at_call 11; refine HS.out.mono ?_; rintro e _ ⟨rfl, y, rfl⟩)
  go_ret
  exact ⟨rfl, y.gr⟩
end Go.Proofs.YtdgkgmlnjolloaaDoor
