import Derived.Test.YtikmniokbliolaaO
namespace Go.Proofs.Ytikmniokbliolaa
open Go.RowKit Go.Ext Go.BigFrame
attribute [local go_sem] Ext.cell Ext.frozen Ext.lt Ext.le s1 s2 s3 s4 s5 s6 t1 t2 t3 t4 t5 t6
attribute [local go_sem ↓] Go.wp_at_zero Go.wp_at_succ

theorem numbers6 (a b c d e f : Int) (w : World) : Calls Try.prog 33 #[.agg #[.int .i64 a, .int .i64 b, .int .i64 c, .int .i64 d, .int .i64 e, .int .i64 f]] w (RetP (fun w' v => Ints w' v [a, b, c, d, e, f]) w) := numbers_any (a, b, c, d, e, f) w

set_option maxHeartbeats 1000000 in
theorem closure6 (a b c d e f a' b' c' d' e' f' : Int) (w : World) : Calls Try.prog 40 #[.agg #[.int .i64 a, .int .i64 b, .int .i64 c, .int .i64 d, .int .i64 e, .int .i64 f], .agg #[.int .i64 a', .int .i64 b', .int .i64 c', .int .i64 d', .int .i64 e', .int .i64 f']] w
    (RetE (.int .i64 (cmpI (a, b, c, d, e, f) (a', b', c', d', e', f'))) w) := by
  refine retE ?_
  have HC := hid (show cmpL [a, b, c, d, e, f] [a', b', c', d', e', f'] = cmpI (a, b, c, d, e, f) (a', b', c', d', e', f') from rfl)
  obtain ⟨r, hr⟩ : ∃ r, cmpI (a, b, c, d, e, f) (a', b', c', d', e', f') = r := ⟨_, rfl⟩
  rw [hr] at HC ⊢
  clear hr
  go_enter Try.func40, Try.ntmps40
  go_wp2_with fail
  have G0 := hid (((Gr.refl w).alloc (.cells #[.int .i64 a, .int .i64 b, .int .i64 c, .int .i64 d, .int .i64 e, .int .i64 f] 33)).alloc (.cells #[.int .i64 a', .int .i64 b', .int .i64 c', .int .i64 d', .int .i64 e', .int .i64 f'] 33))
  go_region_held3 (fun w' => (w'.cell? ⟨w.heap.size, 0, none⟩ = some (.int .i64 a) ∧ w'.cell? ⟨w.heap.size, 1, none⟩ = some (.int .i64 b) ∧ w'.cell? ⟨w.heap.size, 2, none⟩ = some (.int .i64 c) ∧ w'.cell? ⟨w.heap.size, 3, none⟩ = some (.int .i64 d) ∧ w'.cell? ⟨w.heap.size, 4, none⟩ = some (.int .i64 e) ∧ w'.cell? ⟨w.heap.size, 5, none⟩ = some (.int .i64 f)) ∧ w'.cell? ⟨w.heap.size + 1, 0, none⟩ = some (.int .i64 a') ∧ w'.cell? ⟨w.heap.size + 1, 1, none⟩ = some (.int .i64 b') ∧ w'.cell? ⟨w.heap.size + 1, 2, none⟩ = some (.int .i64 c') ∧ w'.cell? ⟨w.heap.size + 1, 3, none⟩ = some (.int .i64 d') ∧ w'.cell? ⟨w.heap.size + 1, 4, none⟩ = some (.int .i64 e') ∧ w'.cell? ⟨w.heap.size + 1, 5, none⟩ = some (.int .i64 f'))
    (first | go_keep | (refine ⟨⟨?_, ?_, ?_, ?_, ?_, ?_⟩, ?_, ?_, ?_, ?_, ?_, ?_⟩ <;> go_simp; done))
    (first
      | (go_at_call 33
         refine (numbers6 _ _ _ _ _ _ _).mono ?_
         rintro e _ ⟨v1, y1, rfl, rfl, h1⟩
         have H1 := hid h1
         clear h1)
      | (go_at_call 32
         refine (compare_any [a, b, c, d, e, f] [a', b', c', d', e', f'] _ _ _ (Ints.gr (Hid.out (by assumption)) (Ext.gr _)) (Hid.out (by assumption))).mono ?_
         rintro e _ ⟨rfl, rfl⟩))
  go_wp2_with fail
  go_ret
  exact ⟨by rw [← HC.out]; rfl, (G0.out.drew.ext _).ext _⟩
end Go.Proofs.Ytikmniokbliolaa
