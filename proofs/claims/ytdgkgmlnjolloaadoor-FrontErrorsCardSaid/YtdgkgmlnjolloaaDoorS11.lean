import Derived.Test.YtdgkgmlnjolloaaDoorS1
namespace Go.Proofs.YtdgkgmlnjolloaaDoor
open Go.RowKit Go.Ext Go.BigFrame
attribute [local go_sem] Ext.cell Ext.frozen Ext.lt Ext.le s1 s2 s3 s4 s5 s6 t1 t2 t3 t4 t5 t6
attribute [local go_sem ↓] Go.wp_at_zero Go.wp_at_succ

set_option maxRecDepth 100000 in
set_option maxHeartbeats 2000000 in
theorem name_any (n : Int) : ∃ s : ByteArray, (∀ w, Calls Tryd.prog 7 #[.int .i64 n] w (RetE (.string s) w)) ∧ (∀ w, Calls Tryd.prog 8 #[.int .i64 n] w (RetE (.string s) w)) := by
  by_cases h1 : n = 1
  · subst h1
    refine ⟨(⟨#[115, 116, 97, 114, 116]⟩ : ByteArray), fun w => ?_, fun w => ?_⟩
    · refine retE ?_
      go_enter Tryd.func7, Tryd.ntmps7
      go_wp2_with fail
      go_ret
      exact ⟨rfl, (Gr.refl _).alloc _⟩
    · refine retE ?_
      go_enter Tryd.func8, Tryd.ntmps8
      go_wp2_with fail
      go_ret
      exact ⟨rfl, Gr.refl _⟩
  by_cases h2 : n = 2
  · subst h2
    refine ⟨(⟨#[115, 105, 103, 110, 97, 108]⟩ : ByteArray), fun w => ?_, fun w => ?_⟩
    · refine retE ?_
      go_enter Tryd.func7, Tryd.ntmps7
      go_wp2_with fail
      go_ret
      exact ⟨rfl, (Gr.refl _).alloc _⟩
    · refine retE ?_
      go_enter Tryd.func8, Tryd.ntmps8
      go_wp2_with fail
      go_ret
      exact ⟨rfl, Gr.refl _⟩
  by_cases h3 : n = 3
  · subst h3
    refine ⟨(⟨#[99, 97, 110, 99, 101, 108]⟩ : ByteArray), fun w => ?_, fun w => ?_⟩
    · refine retE ?_
      go_enter Tryd.func7, Tryd.ntmps7
      go_wp2_with fail
      go_ret
      exact ⟨rfl, (Gr.refl _).alloc _⟩
    · refine retE ?_
      go_enter Tryd.func8, Tryd.ntmps8
      go_wp2_with fail
      go_ret
      exact ⟨rfl, Gr.refl _⟩
  by_cases h4 : n = 4
  · subst h4
    refine ⟨(⟨#[116, 101, 114, 109, 105, 110, 97, 116, 101]⟩ : ByteArray), fun w => ?_, fun w => ?_⟩
    · refine retE ?_
      go_enter Tryd.func7, Tryd.ntmps7
      go_wp2_with fail
      go_ret
      exact ⟨rfl, (Gr.refl _).alloc _⟩
    · refine retE ?_
      go_enter Tryd.func8, Tryd.ntmps8
      go_wp2_with fail
      go_ret
      exact ⟨rfl, Gr.refl _⟩
  by_cases h5 : n = 5
  · subst h5
    refine ⟨(⟨#[115, 104, 111, 119]⟩ : ByteArray), fun w => ?_, fun w => ?_⟩
    · refine retE ?_
      go_enter Tryd.func7, Tryd.ntmps7
      go_wp2_with fail
      go_ret
      exact ⟨rfl, (Gr.refl _).alloc _⟩
    · refine retE ?_
      go_enter Tryd.func8, Tryd.ntmps8
      go_wp2_with fail
      go_ret
      exact ⟨rfl, Gr.refl _⟩
  by_cases h6 : n = 6
  · subst h6
    refine ⟨(⟨#[104, 105, 115, 116, 111, 114, 121]⟩ : ByteArray), fun w => ?_, fun w => ?_⟩
    · refine retE ?_
      go_enter Tryd.func7, Tryd.ntmps7
      go_wp2_with fail
      go_ret
      exact ⟨rfl, (Gr.refl _).alloc _⟩
    · refine retE ?_
      go_enter Tryd.func8, Tryd.ntmps8
      go_wp2_with fail
      go_ret
      exact ⟨rfl, Gr.refl _⟩
  by_cases h7 : n = 7
  · subst h7
    refine ⟨(⟨#[112, 111, 108, 108, 100]⟩ : ByteArray), fun w => ?_, fun w => ?_⟩
    · refine retE ?_
      go_enter Tryd.func7, Tryd.ntmps7
      go_wp2_with fail
      go_ret
      exact ⟨rfl, (Gr.refl _).alloc _⟩
    · have H17 : Calls Tryd.prog 17 #[.int .i64 7] w (RetE (.string (⟨#[112, 111, 108, 108, 100]⟩ : ByteArray)) w) := by
        refine retE ?_
        go_enter Tryd.func17, Tryd.ntmps17
        go_wp2_with fail
        go_ret
        exact ⟨rfl, Gr.refl _⟩
      have H17 := hid H17
      refine retE ?_
      go_enter Tryd.func8, Tryd.ntmps8
      go_wp2_with (go_at_call 17; refine H17.out.mono ?_; rintro e _ ⟨rfl, y1, rfl⟩)
      go_ret
      exact ⟨rfl, y1.gr⟩
  by_cases h8 : n = 8
  · subst h8
    refine ⟨(⟨#[100, 101, 99, 105, 100, 101]⟩ : ByteArray), fun w => ?_, fun w => ?_⟩
    · refine retE ?_
      go_enter Tryd.func7, Tryd.ntmps7
      go_wp2_with fail
      go_ret
      exact ⟨rfl, (Gr.refl _).alloc _⟩
    · have H17 : Calls Tryd.prog 17 #[.int .i64 8] w (RetE (.string (⟨#[100, 101, 99, 105, 100, 101]⟩ : ByteArray)) w) := by
        refine retE ?_
        go_enter Tryd.func17, Tryd.ntmps17
        go_wp2_with fail
        go_ret
        exact ⟨rfl, Gr.refl _⟩
      have H17 := hid H17
      refine retE ?_
      go_enter Tryd.func8, Tryd.ntmps8
      go_wp2_with (go_at_call 17; refine H17.out.mono ?_; rintro e _ ⟨rfl, y1, rfl⟩)
      go_ret
      exact ⟨rfl, y1.gr⟩
  by_cases h9 : n = 9
  · subst h9
    refine ⟨(⟨#[112, 111, 108, 108, 97]⟩ : ByteArray), fun w => ?_, fun w => ?_⟩
    · refine retE ?_
      go_enter Tryd.func7, Tryd.ntmps7
      go_wp2_with fail
      go_ret
      exact ⟨rfl, (Gr.refl _).alloc _⟩
    · have H17 : Calls Tryd.prog 17 #[.int .i64 9] w (RetE (.string (⟨#[112, 111, 108, 108, 97]⟩ : ByteArray)) w) := by
        refine retE ?_
        go_enter Tryd.func17, Tryd.ntmps17
        go_wp2_with fail
        go_ret
        exact ⟨rfl, Gr.refl _⟩
      have H17 := hid H17
      refine retE ?_
      go_enter Tryd.func8, Tryd.ntmps8
      go_wp2_with (go_at_call 17; refine H17.out.mono ?_; rintro e _ ⟨rfl, y1, rfl⟩)
      go_ret
      exact ⟨rfl, y1.gr⟩
  by_cases h10 : n = 10
  · subst h10
    refine ⟨(⟨#[119, 111, 114, 107, 101, 100]⟩ : ByteArray), fun w => ?_, fun w => ?_⟩
    · refine retE ?_
      go_enter Tryd.func7, Tryd.ntmps7
      go_wp2_with fail
      go_ret
      exact ⟨rfl, (Gr.refl _).alloc _⟩
    · have H17 : Calls Tryd.prog 17 #[.int .i64 10] w (RetE (.string (⟨#[119, 111, 114, 107, 101, 100]⟩ : ByteArray)) w) := by
        refine retE ?_
        go_enter Tryd.func17, Tryd.ntmps17
        go_wp2_with fail
        go_ret
        exact ⟨rfl, Gr.refl _⟩
      have H17 := hid H17
      refine retE ?_
      go_enter Tryd.func8, Tryd.ntmps8
      go_wp2_with (go_at_call 17; refine H17.out.mono ?_; rintro e _ ⟨rfl, y1, rfl⟩)
      go_ret
      exact ⟨rfl, y1.gr⟩
  by_cases h11 : n = 11
  · subst h11
    refine ⟨(⟨#[98, 114, 111, 107, 101]⟩ : ByteArray), fun w => ?_, fun w => ?_⟩
    · refine retE ?_
      go_enter Tryd.func7, Tryd.ntmps7
      go_wp2_with fail
      go_ret
      exact ⟨rfl, (Gr.refl _).alloc _⟩
    · have H17 : Calls Tryd.prog 17 #[.int .i64 11] w (RetE (.string (⟨#[98, 114, 111, 107, 101]⟩ : ByteArray)) w) := by
        refine retE ?_
        go_enter Tryd.func17, Tryd.ntmps17
        go_wp2_with fail
        go_ret
        exact ⟨rfl, Gr.refl _⟩
      have H17 := hid H17
      refine retE ?_
      go_enter Tryd.func8, Tryd.ntmps8
      go_wp2_with (go_at_call 17; refine H17.out.mono ?_; rintro e _ ⟨rfl, y1, rfl⟩)
      go_ret
      exact ⟨rfl, y1.gr⟩
  have b1 : (n == 1) = false := by rw [beq_eq_false_iff_ne]; exact h1
  have b2 : (n == 2) = false := by rw [beq_eq_false_iff_ne]; exact h2
  have b3 : (n == 3) = false := by rw [beq_eq_false_iff_ne]; exact h3
  have b4 : (n == 4) = false := by rw [beq_eq_false_iff_ne]; exact h4
  have b5 : (n == 5) = false := by rw [beq_eq_false_iff_ne]; exact h5
  have b6 : (n == 6) = false := by rw [beq_eq_false_iff_ne]; exact h6
  have b7 : (n == 7) = false := by rw [beq_eq_false_iff_ne]; exact h7
  have b8 : (n == 8) = false := by rw [beq_eq_false_iff_ne]; exact h8
  have b9 : (n == 9) = false := by rw [beq_eq_false_iff_ne]; exact h9
  have b10 : (n == 10) = false := by rw [beq_eq_false_iff_ne]; exact h10
  have b11 : (n == 11) = false := by rw [beq_eq_false_iff_ne]; exact h11
  have hout : n < 1 ∨ ¬ n < 1 ∧ 11 < n := by omega
  refine ⟨(⟨#[]⟩ : ByteArray), fun w => ?_, fun w => ?_⟩
  · refine retE ?_
    rcases hout with ha | ⟨ha, hb⟩
    · go_enter Tryd.func7, Tryd.ntmps7
      go_wp2_with fail
      go_ret
      exact ⟨rfl, Gr.refl _⟩
    · go_enter Tryd.func7, Tryd.ntmps7
      go_wp2_with fail
      go_ret
      exact ⟨rfl, Gr.refl _⟩
  · have H17 : Calls Tryd.prog 17 #[.int .i64 n] w (RetE (.string (⟨#[]⟩ : ByteArray)) w) := by
      refine retE ?_
      go_enter Tryd.func17, Tryd.ntmps17
      go_wp2_with fail
      go_ret
      exact ⟨rfl, Gr.refl _⟩
    have H17 := hid H17
    refine retE ?_
    go_enter Tryd.func8, Tryd.ntmps8
    go_wp2_with (go_at_call 17; refine H17.out.mono ?_; rintro e _ ⟨rfl, y1, rfl⟩)
    go_ret
    exact ⟨rfl, y1.gr⟩
end Go.Proofs.YtdgkgmlnjolloaaDoor
