import Derived.Test.YtikmniokbliolaaU
import Derived.Test.YtikmniokbliolaaQ
namespace Go.Proofs.Ytikmniokbliolaa
open Go.RowKit Go.Ext Go.BigFrame
attribute [local go_sem] Ext.cell Ext.frozen Ext.lt Ext.le s1 s2 s3 s4 s5 s6 t1 t2 t3 t4 t5 t6
attribute [local go_sem ↓] Go.wp_at_zero Go.wp_at_succ

theorem of6 (a b c d e f : Int) (w : World) : Calls Try.prog 17 #[.agg #[.int .i64 a, .int .i64 b, .int .i64 c, .int .i64 d, .int .i64 e, .int .i64 f]] w (RetE (.agg #[.int .i64 a, .int .i64 b, .int .i64 c, .int .i64 d, .int .i64 e, .int .i64 f]) w) := by
  refine retE ?_
  go_enter Try.func17, Try.ntmps17
  go_wp2_with fail
  refine bodyPost_ret (v := .agg #[.int .i64 a, .int .i64 b, .int .i64 c, .int .i64 d, .int .i64 e, .int .i64 f]) (by simp [results, Try.results17, go_sem]) rfl ⟨rfl, ?_⟩
  exact ((Gr.refl w).alloc _).alloc _

set_option maxHeartbeats 1000000 in
theorem lessR6 (a b c d e f a' b' c' d' e' f' : Int) (w : World) : Calls Try.prog 16 #[.agg #[.int .i64 a, .int .i64 b, .int .i64 c, .int .i64 d, .int .i64 e, .int .i64 f], .agg #[.int .i64 a', .int .i64 b', .int .i64 c', .int .i64 d', .int .i64 e', .int .i64 f']] w
    (RetE (.bool (decide (cmpI (a, b, c, d, e, f) (a', b', c', d', e', f') < 0))) w) := by
  refine retE ?_
  obtain ⟨xs, hxs⟩ : ∃ xs, xs = [a, b, c, d, e, f] := ⟨_, rfl⟩
  obtain ⟨ys, hys⟩ : ∃ ys, ys = [a', b', c', d', e', f'] := ⟨_, rfl⟩
  have HC := hid (show cmpL xs ys = cmpI (a, b, c, d, e, f) (a', b', c', d', e', f') by rw [hxs, hys]; rfl)
  obtain ⟨r, hr⟩ : ∃ r, cmpI (a, b, c, d, e, f) (a', b', c', d', e', f') = r := ⟨_, rfl⟩
  rw [hr] at HC ⊢
  clear hr
  have hxl : xs.length = 6 := by rw [hxs]; rfl
  have hyl : ys.length = 6 := by rw [hys]; rfl
  have HXL := hid hxl
  have HYL := hid hyl
  have HXS := hid hxs
  have HYS := hid hys
  clear hxs hys hxl hyl
  go_enter Try.func16, Try.ntmps16
  go_wp2_with fail
  have hX := hid (show ∀ j, j < 6 → (((((w.alloc (.cells #[.int .i64 a, .int .i64 b, .int .i64 c, .int .i64 d, .int .i64 e, .int .i64 f] 40)).alloc (.cells #[.int .i64 a', .int .i64 b', .int .i64 c', .int .i64 d', .int .i64 e', .int .i64 f'] 40)).alloc (.cells #[.int .i64 a, .int .i64 b, .int .i64 c, .int .i64 d, .int .i64 e, .int .i64 f] 3)).alloc (.cells #[.int .i64 a', .int .i64 b', .int .i64 c', .int .i64 d', .int .i64 e', .int .i64 f'] 3))).cell? ⟨w.heap.size + 1 + 1, j, none⟩ = some (.int .i64 (xs.getD j 0)) from fun j hj => by
    have : j = 0 ∨ j = 1 ∨ j = 2 ∨ j = 3 ∨ j = 4 ∨ j = 5 := by omega
    rw [HXS.out]
    rcases this with rfl | rfl | rfl | rfl | rfl | rfl <;> (simp only [List.getD, List.getElem?_cons_zero, List.getElem?_cons_succ, Option.getD_some]; go_simp))
  have hY := hid (show ∀ j, j < 6 → (((((w.alloc (.cells #[.int .i64 a, .int .i64 b, .int .i64 c, .int .i64 d, .int .i64 e, .int .i64 f] 40)).alloc (.cells #[.int .i64 a', .int .i64 b', .int .i64 c', .int .i64 d', .int .i64 e', .int .i64 f'] 40)).alloc (.cells #[.int .i64 a, .int .i64 b, .int .i64 c, .int .i64 d, .int .i64 e, .int .i64 f] 3)).alloc (.cells #[.int .i64 a', .int .i64 b', .int .i64 c', .int .i64 d', .int .i64 e', .int .i64 f'] 3))).cell? ⟨w.heap.size + 1 + 1 + 1, j, none⟩ = some (.int .i64 (ys.getD j 0)) from fun j hj => by
    have : j = 0 ∨ j = 1 ∨ j = 2 ∨ j = 3 ∨ j = 4 ∨ j = 5 := by omega
    rw [HYS.out]
    rcases this with rfl | rfl | rfl | rfl | rfl | rfl <;> (simp only [List.getD, List.getElem?_cons_zero, List.getElem?_cons_succ, Option.getD_some]; go_simp))
  have G4 := hid (((((Gr.refl w).alloc (.cells #[.int .i64 a, .int .i64 b, .int .i64 c, .int .i64 d, .int .i64 e, .int .i64 f] 40)).alloc (.cells #[.int .i64 a', .int .i64 b', .int .i64 c', .int .i64 d', .int .i64 e', .int .i64 f'] 40)).alloc (.cells #[.int .i64 a, .int .i64 b, .int .i64 c, .int .i64 d, .int .i64 e, .int .i64 f] 3)).alloc (.cells #[.int .i64 a', .int .i64 b', .int .i64 c', .int .i64 d', .int .i64 e', .int .i64 f'] 3))
  have hsz : ((((w.alloc (.cells #[.int .i64 a, .int .i64 b, .int .i64 c, .int .i64 d, .int .i64 e, .int .i64 f] 40)).alloc (.cells #[.int .i64 a', .int .i64 b', .int .i64 c', .int .i64 d', .int .i64 e', .int .i64 f'] 40)).alloc (.cells #[.int .i64 a, .int .i64 b, .int .i64 c, .int .i64 d, .int .i64 e, .int .i64 f] 3)).alloc (.cells #[.int .i64 a', .int .i64 b', .int .i64 c', .int .i64 d', .int .i64 e', .int .i64 f'] 3)).heap.size = w.heap.size + 1 + 1 + 1 + 1 := by simp
  have HSZ := hid hsz
  clear hsz
  generalize hW : ((((w.alloc (.cells #[.int .i64 a, .int .i64 b, .int .i64 c, .int .i64 d, .int .i64 e, .int .i64 f] 40)).alloc (.cells #[.int .i64 a', .int .i64 b', .int .i64 c', .int .i64 d', .int .i64 e', .int .i64 f'] 40)).alloc (.cells #[.int .i64 a, .int .i64 b, .int .i64 c, .int .i64 d, .int .i64 e, .int .i64 f] 3)).alloc (.cells #[.int .i64 a', .int .i64 b', .int .i64 c', .int .i64 d', .int .i64 e', .int .i64 f'] 3)) = W4 at *
  have HW := hid hW
  clear hW
  go_loopw [7] (fun i wr => ∃ k : Nat, k ≤ 6 ∧ i = .int .i64 k ∧ cmpL (xs.drop k) (ys.drop k) = r ∧ Gr W4 wr) (fun i _ => 6 - (intOf i).toNat)
  case atStart => exact ⟨0, by omega, rfl, HC.out, Gr.refl _⟩
  case round =>
    obtain ⟨k, hk, rfl, hc, hg⟩ := hrel
    have HK := hid hc
    have HG := hid hg
    clear hc hg
    have hs4 := HG.out.size
    rw [HSZ.out] at hs4
    by_cases hlt : k < 6
    · have d0 := (HG.out.cell (p := ⟨w.heap.size + 1 + 1, k, none⟩) (by rw [HSZ.out]; show w.heap.size + 1 + 1 < _; omega)).trans (hX.out k hlt)
      have d1 := (HG.out.cell (p := ⟨w.heap.size + 1 + 1 + 1, k, none⟩) (by rw [HSZ.out]; show w.heap.size + 1 + 1 + 1 < _; omega)).trans (hY.out k hlt)
      have q0 : w.heap.size + 1 + 1 < wr.heap.size := by omega
      have q1 : w.heap.size + 1 + 1 + 1 < wr.heap.size := by omega
      have HS := hid (cmpL_step xs ys k (by rw [HXL.out]; exact hlt) (by rw [HYL.out]; exact hlt))
      generalize xs.getD k 0 = x at *
      generalize ys.getD k 0 = y at *
      have hki : (k : Int) < 6 := by omega
      by_cases hxy : x = y
      · subst hxy
        go_wp2_with fail
        refine wp_region_ext (by kernel_rfl) (by kernel_rfl) ?_
        repeat (go_big_quiet_step (fail))
        refine wpQuiet_nil ?_
        rintro _ ⟨z, rfl⟩
        go_wp2_with fail
        go_roundw
        case rel => exact ⟨k + 1, by omega, by go_num, by rw [← HK.out, HS.out, if_pos (by simp [cmp1])], HG.out.ext z⟩
        case measure => simp [intOf]; omega
      · have hne : (x == y) = false := by simpa using hxy
        have hr : r = cmp1 x y := by
          rw [← HK.out, HS.out, if_neg]
          unfold cmp1
          split
          · omega
          · split <;> omega
        have HR := hid (show decide (x < y) = decide (r < 0) by
          rw [hr]
          unfold cmp1
          by_cases h1 : x < y
          · simp [h1]
          · rw [if_neg h1]
            split <;> simp [h1])
        clear hr
        go_wp2_with fail
        refine wp_region_ext (by kernel_rfl) (by kernel_rfl) ?_
        repeat (go_big_quiet_step (fail))
        refine wpQuiet_nil ?_
        rintro _ ⟨z, rfl⟩
        go_wp2_with fail
        refine wp_region_ext (by kernel_rfl) (by kernel_rfl) ?_
        repeat (go_big_quiet_step (fail))
        refine wpQuiet_nil ?_
        rintro _ ⟨z2, rfl⟩
        go_wp2_with fail
        go_ret
        exact ⟨by rw [← HR.out]; rfl, ((G4.out.trans HG.out).ext z).ext z2⟩
    · have hke : k = 6 := by omega
      subst hke
      have e := HK.out
      rw [List.drop_eq_nil_of_le (by rw [HXL.out]; omega), List.drop_eq_nil_of_le (by rw [HYL.out]; omega)] at e
      have hr0 : decide (r < 0) = false := by rw [← e]; rfl
      have HR0 := hid hr0
      clear e hr0
      go_wp2_with fail
      go_ret
      exact ⟨by rw [HR0.out]; rfl, G4.out.trans HG.out⟩
end Go.Proofs.Ytikmniokbliolaa
