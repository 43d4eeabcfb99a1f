import Derived.Test.YtbopeeohnbknoaaW4
namespace Go.Proofs.Ytbopeeohnbknoaa
open Go.RowKit Go.Ext Go.BigFrame
attribute [local go_sem] Ext.cell Ext.frozen Ext.lt Ext.le s1 s2 s3 s4 s5 s6 t1 t2 t3 t4 t5 t6

theorem IntsAt.gr {w w' : World} {A : Option Addr} {n : Nat} {zs : List Int} (h : IntsAt w A n zs) (g : Gr w w') : IntsAt w' A n zs :=
  ⟨h.1, h.2.1, fun hn => by
    obtain ⟨b, off, rfl, hc⟩ := h.2.2 hn
    exact ⟨b, off, rfl, fun j hj => (g.cell (World.block_lt_of_cell? w _ (hc j hj))).trans (hc j hj)⟩⟩

set_option maxRecDepth 100000 in
set_option maxHeartbeats 2000000 in
theorem numbers_any (hi groups a b c : Int) (A B : Option Addr) (n m c1 c2 : Nat) (zs ys : List Int) (is : Bool) (w : World) (hA : IntsAt w A n zs) (hB : IntsAt w B m ys) :
    Calls Try.prog 3 #[.int .i64 hi, .int .i64 groups, .agg #[.int .i64 a, .int .i64 b, .int .i64 c], .slice A n c1, .slice B m c2, .bool is] w fun e w' => e = .returned (.bool true) ∧ Gr w w' := by
  by_cases hall : 0 ≤ hi ∧ hi ≤ 1048576 ∧ 0 ≤ groups ∧ groups ≤ 1048576 ∧ n ≤ 200 ∧ m ≤ 200
  · obtain ⟨h1, h2, h3, h4, h5, h6⟩ := hall
    have hA' := hid hA
    have hB' := hid hB
    clear hA hB
    have b1 := clp_bd a
    have b2 := clp_bd b
    have b3 := clp_bd c
    have m1 : elc hi = 20 * hi + 10 := rfl
    have m2 : bnd hi groups a b c = 20 * hi + 10 + 10 * groups + 2 * (clp a + clp b + clp c) + 20 := rfl
    go_enter Try.func3, Try.ntmps3
    go_wp2_with (go_at_call 5; refine (known_any _).mono ?_; rintro e _ ⟨rfl, y1, rfl⟩; have hs1 := y1.lt_alloc)
    refine wp_region_ext (by kernel_rfl) (by kernel_rfl) ?_
    repeat (go_big_quiet_step (first | (go_at_call 6; exact calls_ext _ (elect_any _ _ _ _ _ _ _ _ _ _ _ (by omega) (by omega))) | (go_at_call 7; exact calls_ext _ (bound_any _ _ _ _ _ _ _ _ _ _ _ _ _ _ (by omega) (by omega) (by omega) (by omega))) | (go_at_call 8; exact calls_ext _ (clamp_any _ _))))
    refine wpQuiet_nil ?_
    rintro _ ⟨x, rfl⟩
    go_wp2_with fail
    refine (calls_ext _ (most_int A n c1 zs _ (hA'.out.gr (((((Gr.refl w).alloc _).ext y1).alloc _).ext x)))).mono ?_
    rintro e _ ⟨rfl, y2, rfl⟩
    go_wp2_with fail
    refine (calls_ext _ (most_int64 B m c2 ys _ (hB'.out.gr (((((Gr.refl w).alloc _).ext y1).alloc _).ext y2)))).mono ?_
    rintro e _ ⟨rfl, y3, rfl⟩
    go_wp2_with (first | (go_at_call 11; (with_reducible refine (calls_ext _ (quiet_held _ _)).mono ?_); rintro e _ ⟨rfl, y4, rfl⟩) | (go_at_call 11; (with_reducible refine (calls_ext _ (quiet_nil _)).mono ?_); rintro e _ ⟨rfl, y5, rfl⟩) | (go_at_call 11; (with_reducible refine (calls_ext _ (quiet_load _ _)).mono ?_); rintro e _ ⟨rfl, y6, rfl⟩))
    clear m1 m2 b1 b2 b3
    go_loop [19, 20] (fun h i => ∃ k : Nat, k ≤ n ∧ i = .int .i64 k ∧ h = .bool (hasB zs (mx zs n) k)) (fun _ i => n - (intOf i).toNat)
    case atStart => exact ⟨0, Nat.zero_le _, rfl, rfl⟩
    case round =>
      obtain ⟨k, hk, rfl, rfl⟩ := hrel
      by_cases hlt : k < n
      · obtain ⟨b', off, rfl, hc⟩ := (hA'.out.gr (((((Gr.refl w).alloc _).ext y1).alloc _).ext y6)).2.2 (by omega)
        have hck := hc k hlt
        clear hc
        have hle : decide (mx zs n < zs.getD k 0) = false := decide_eq_false (by have := mx_ge zs n k hlt; omega)
        have E := hid (show hasB zs (mx zs n) (k + 1) = (hasB zs (mx zs n) k || (zs.getD k 0 == mx zs n)) from rfl)
        generalize hv : zs.getD k 0 = v at *
        have HV := hid hv
        clear hv
        generalize hb : hasB zs (mx zs n) k = h at *
        have HB := hid hb
        clear hb
        cases h
        all_goals
          go_wp2_with fail
          go_round
          case rel => exact ⟨k + 1, by omega, by go_num, by rw [E.out]; simp⟩
          case measure => simp [intOf]; omega
      · have : k = n := by omega
        subst this
        have hh := hasB_all zs k
        go_wp2_with fail
        clear hh
        go_loop [21] (fun i => ∃ j : Nat, j ≤ m ∧ i = .int .i64 j) (fun i => m - (intOf i).toNat)
        case atStart => exact ⟨0, Nat.zero_le _, rfl⟩
        case round =>
          obtain ⟨j, hj, rfl⟩ := hrel
          by_cases hlt : j < m
          · obtain ⟨b', off, rfl, hc⟩ := (hB'.out.gr (((((Gr.refl w).alloc _).ext y1).alloc _).ext y6)).2.2 (by omega)
            have hck := hc j hlt
            clear hc
            have hle : decide (mx ys m < ys.getD j 0) = false := decide_eq_false (by have := mx_ge ys m j hlt; omega)
            generalize hv : ys.getD j 0 = v at *
            have HV := hid hv
            clear hv
            go_wp2_with fail
            go_round
            case rel => exact ⟨j + 1, by omega, by go_num⟩
            case measure => simp [intOf]; omega
          · have e : j = m := by omega
            subst e
            by_cases hk0 : k = 0
            · subst hk0
              have z1 : mx zs 0 = 0 := rfl
              by_cases hj0 : j = 0
              · subst hj0
                have z2 : mx ys 0 = 0 := rfl
                go_wp2_with fail
                go_ret
                exact ⟨rfl, ((((Gr.refl w).alloc _).ext y1).alloc _).ext y6⟩
              · have d2 : decide (0 < j) = true := decide_eq_true (by omega)
                go_wp2_with fail
                go_ret
                exact ⟨rfl, ((((Gr.refl w).alloc _).ext y1).alloc _).ext y6⟩
            · have d1 : decide (0 < k) = true := decide_eq_true (by omega)
              by_cases hj0 : j = 0
              · subst hj0
                have z2 : mx ys 0 = 0 := rfl
                go_wp2_with fail
                go_ret
                exact ⟨rfl, ((((Gr.refl w).alloc _).ext y1).alloc _).ext y6⟩
              · have d2 : decide (0 < j) = true := decide_eq_true (by omega)
                go_wp2_with fail
                go_ret
                exact ⟨rfl, ((((Gr.refl w).alloc _).ext y1).alloc _).ext y6⟩
  · go_enter Try.func3, Try.ntmps3
    go_wp2_with (go_at_call 5; refine (known_any _).mono ?_; rintro e _ ⟨rfl, y1, rfl⟩; have hs1 := y1.lt_alloc)
    all_goals go_ret
    all_goals exact ⟨rfl, by repeat (first | exact Gr.refl _ | refine Gr.ext ?_ _ | refine Gr.alloc ?_ _)⟩
end Go.Proofs.Ytbopeeohnbknoaa
