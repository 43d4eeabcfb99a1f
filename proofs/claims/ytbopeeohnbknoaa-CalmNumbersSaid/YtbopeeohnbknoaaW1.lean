import Derived.Test.YtbopeeohnbknoaaRows
import Derived.Test.YtbopeeohnbknoaaKit
import Derived.Test.YtbopeeohnbknoaaPl

namespace Go.Proofs.Ytbopeeohnbknoaa
open Go.RowKit Go.Ext Go.BigFrame
attribute [local go_sem] Ext.cell Ext.frozen Ext.lt Ext.le s1 s2 s3 s4 s5 s6 t1 t2 t3 t4 t5 t6

set_option maxHeartbeats 400000 in
theorem elect_any (x0 x1 x2 x3 x4 x6 x7 x8 x9 : Value) (n : Int) (w : World) (h0 : 0 ≤ n) (h1 : n ≤ 2097152) :
    Calls Try.prog 6 #[.agg #[x0, x1, x2, x3, x4, .int .i64 n, x6, x7, x8, x9]] w (RetE (.int .i64 (elc n)) w) := by
  refine retE ?_
  go_enter Try.func6, Try.ntmps6
  go_wp2
  go_ret
  exact ⟨by unfold elc; rfl, (Gr.refl _).alloc _⟩

set_option maxHeartbeats 400000 in
theorem clamp_any (v : Int) (w : World) :
    Calls Try.prog 8 #[.int .i64 v] w (RetE (.int .i64 (clp v)) w) := by
  refine retE_same ?_
  by_cases h0 : v < 0
  · go_enter Try.func8, Try.ntmps8
    go_wp2
    go_ret
    exact ⟨by simp [clp, h0], rfl⟩
  by_cases h1 : 1048576 < v
  · go_enter Try.func8, Try.ntmps8
    go_wp2
    go_ret
    exact ⟨by simp [clp, h0, h1], rfl⟩
  · have H : Hid (clp v = v) := by unfold clp; rw [if_neg h0, if_neg h1]; rfl
    go_enter Try.func8, Try.ntmps8
    go_wp2
    go_ret
    exact ⟨by rw [H.out]; rfl, rfl⟩

/-- What the sum is at a round's head. -/
def BRel (a b c : Int) (s i : Value) : Prop :=
  (i = .int .i64 0 ∧ s = .int .i64 0) ∨ (i = .int .i64 1 ∧ s = .int .i64 (clp a)) ∨ (i = .int .i64 2 ∧ s = .int .i64 (clp a + clp b)) ∨ (i = .int .i64 3 ∧ s = .int .i64 (clp a + clp b + clp c))

set_option maxHeartbeats 1000000 in
theorem bound_any (x0 x1 x3 x4 x6 x7 x8 x9 : Value) (n g a b c : Int) (w : World) (h0 : 0 ≤ n) (h1 : n ≤ 2097152) (g0 : 0 ≤ g) (g1 : g ≤ 2097152) :
    Calls Try.prog 7 #[.agg #[x0, x1, .int .i64 g, x3, x4, .int .i64 n, x6, x7, x8, x9], .agg #[.int .i64 a, .int .i64 b, .int .i64 c]] w (RetE (.int .i64 (bnd n g a b c)) w) := by
  refine retE ?_
  go_enter Try.func7, Try.ntmps7
  have ha := clp_bd a
  have hb := clp_bd b
  have hc := clp_bd c
  go_wp2_with fail
  go_loop [5, 7, 16] (fun s _ i => BRel a b c s i)
    (fun _ _ i => (3 - intOf i).toNat)
  case atStart => exact .inl ⟨rfl, rfl⟩
  case round =>
    have ea := clp_eq a
    have eb := clp_eq b
    have ec := clp_eq c
    rcases hrel with ⟨rfl, rfl⟩ | ⟨rfl, rfl⟩ | ⟨rfl, rfl⟩ | ⟨rfl, rfl⟩
    · go_wp2_with fail
      go_round
      case rel => exact .inr (.inl ⟨rfl, by first | rfl | (rw [ea])⟩)
      case measure => simp [intOf]
    · go_wp2_with fail
      go_round
      case rel => exact .inr (.inr (.inl ⟨rfl, by first | rfl | (rw [eb])⟩))
      case measure => simp [intOf]
    · go_wp2_with fail
      go_round
      case rel => exact .inr (.inr (.inr ⟨rfl, by first | rfl | (rw [ec])⟩))
      case measure => simp [intOf]
    · clear ea eb ec
      have e0 : 10 ≤ elc n ∧ elc n ≤ 41943050 := by unfold elc; omega
      have E := hid (show elc n + 10 * g + 2 * (clp a + clp b + clp c) + 20 = bnd n g a b c from rfl)
      go_wp2_with fail
      refine wp_region_ext (by kernel_rfl) (by kernel_rfl) ?_
      repeat (go_big_quiet_step ((go_at_call 6; exact calls_ext _ (elect_any _ _ _ _ _ _ _ _ _ _ _ h0 h1))))
      refine wpQuiet_nil ?_
      rintro _ ⟨x, rfl⟩
      go_wp2_with fail
      go_ret
      exact ⟨by rw [← E.out]; rfl, ((((Gr.refl _).alloc _).alloc _).alloc _).ext x⟩
end Go.Proofs.Ytbopeeohnbknoaa
