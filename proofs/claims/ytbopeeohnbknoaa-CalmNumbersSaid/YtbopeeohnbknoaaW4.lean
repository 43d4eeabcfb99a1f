import Derived.Test.YtbopeeohnbknoaaW3
namespace Go.Proofs.Ytbopeeohnbknoaa
open Go.RowKit Go.Ext Go.BigFrame
attribute [local go_sem] Ext.cell Ext.frozen Ext.lt Ext.le s1 s2 s3 s4 s5 s6 t1 t2 t3 t4 t5 t6

theorem mx3 : mx [3, 9, 4] 3 = 9 := by decide

theorem ints3 (w : World) : IntsAt (w.alloc (.cells #[.int .i64 3, .int .i64 9, .int .i64 4] 3)) (some ⟨w.heap.size, 0, none⟩) 3 [3, 9, 4] := by
  refine ⟨rfl, by omega, fun _ => ⟨_, _, rfl, fun j hj => ?_⟩⟩
  match j, hj with
  | 0, _ => simp [go_sem]
  | 1, _ => simp [go_sem]
  | 2, _ => simp [go_sem]
theorem known_any (w : World) : Calls Try.prog 5 #[] w (RetE (.bool true) w) := by
  refine retE ?_
  have hm := mx3
  have he := elc_known
  have hb := bnd_known
  go_enter Try.func5, Try.ntmps5
  go_wp2_with fail
  refine (shape_any _).mono ?_
  rintro e _ ⟨rfl, y1, rfl⟩
  go_wp2_with fail
  refine (most_int _ _ _ [3, 9, 4] _ ?_).mono ?_
  · have h := ints3 (y1.val.alloc (.cells #[.int .i64 0, .int .i64 3, .int .i64 1, .int .i64 20, .int .i64 3, .int .i64 6, .int .i64 1, .int .i64 10, .int .i64 400, .int .u64 3] 29))
    simpa using h
  rintro e _ ⟨rfl, y2, rfl⟩
  go_wp2_with fail
  refine (calls_ext _ (elect_any _ _ _ _ _ _ _ _ _ 6 _ (by omega) (by omega))).mono ?_
  rintro e _ ⟨rfl, y3, rfl⟩
  go_wp2_with fail
  refine (calls_ext _ (bound_any _ _ _ _ _ _ _ _ 6 1 2 0 0 _ (by omega) (by omega) (by omega) (by omega))).mono ?_
  rintro e _ ⟨rfl, y4, rfl⟩
  go_wp2_with fail
  refine (calls_ext _ (quiet_held _ _)).mono ?_
  rintro e _ ⟨rfl, y5, rfl⟩
  go_wp2_with fail
  refine (calls_ext _ (quiet_int _ _)).mono ?_
  rintro e _ ⟨rfl, y6, rfl⟩
  go_wp2_with fail
  go_ret
  exact ⟨rfl, by repeat (first | exact Gr.refl _ | refine Gr.ext ?_ _ | refine Gr.alloc ?_ _)⟩
end Go.Proofs.Ytbopeeohnbknoaa
