import Derived.Test.YtbopeeohnbknoaaW4
namespace Go.Proofs.Ytbopeeohnbknoaa
open Go.RowKit Go.Ext Go.BigFrame
attribute [local go_sem] Ext.cell Ext.frozen Ext.lt Ext.le s1 s2 s3 s4 s5 s6 t1 t2 t3 t4 t5 t6

set_option maxHeartbeats 2000000 in
theorem grows_any (hi more groups by' a b c : Int) (w : World) (ha : -9223372036854775808 ≤ a) (hb : -9223372036854775808 ≤ b) :
    Calls Try.prog 4 #[.int .i64 hi, .int .i64 more, .int .i64 groups, .agg #[.int .i64 a, .int .i64 b, .int .i64 c], .int .i64 by'] w fun e w' => e = .returned (.bool true) ∧ Gr w w' := by
  by_cases hall : 0 ≤ hi ∧ hi ≤ 1048576 ∧ 0 ≤ more ∧ more ≤ 1048576 ∧ 0 ≤ groups ∧ groups ≤ 1048576 ∧ 0 ≤ by' ∧ by' ≤ 1048576 ∧ a ≤ 1099511627776 ∧ b ≤ 1099511627776 ∧ c ≤ 1099511627776
  · obtain ⟨h1, h2, h3, h4, h5, h6, h7, h8, h9, h10, h11⟩ := hall
    have m1 : decide (bnd hi groups a b c ≤ bnd (hi + more) (groups + by') (a + by') (b + more) c) = true := decide_eq_true (bnd_grows _ _ _ _ _ _ _ _ _ h3 h7 h7 h3)
    have m2 : decide (elc hi ≤ bnd hi groups a b c) = true := decide_eq_true (bnd_elc _ _ _ _ _ h5)
    have m3 : decide (elc hi ≤ elc (hi + more)) = true := decide_eq_true (elc_grows _ _ h3)
    have m4 : decide (10 ≤ elc hi) = true := decide_eq_true (elc_least _ h1)
    go_enter Try.func4, Try.ntmps4
    go_wp2_with (go_at_call 5; refine (known_any _).mono ?_; rintro e _ ⟨rfl, y1, rfl⟩; have hs1 := y1.lt_alloc)
    refine wp_region_ext (by kernel_rfl) (by kernel_rfl) ?_
    repeat (go_big_quiet_step (first | (go_at_call 6; exact calls_ext _ (elect_any _ _ _ _ _ _ _ _ _ _ _ (by omega) (by omega))) | (go_at_call 7; exact calls_ext _ (bound_any _ _ _ _ _ _ _ _ _ _ _ _ _ _ (by omega) (by omega) (by omega) (by omega)))))
    refine wpQuiet_nil ?_
    rintro _ ⟨x, rfl⟩
    go_wp2_with fail
    go_ret
    exact ⟨rfl, by repeat (first | exact Gr.refl _ | refine Gr.ext ?_ _ | refine Gr.alloc ?_ _)⟩
  · go_enter Try.func4, Try.ntmps4
    go_wp2_with (go_at_call 5; refine (known_any _).mono ?_; rintro e _ ⟨rfl, y1, rfl⟩; have hs1 := y1.lt_alloc)
    all_goals go_ret
    all_goals exact ⟨rfl, by repeat (first | exact Gr.refl _ | refine Gr.ext ?_ _ | refine Gr.alloc ?_ _)⟩
end Go.Proofs.Ytbopeeohnbknoaa
