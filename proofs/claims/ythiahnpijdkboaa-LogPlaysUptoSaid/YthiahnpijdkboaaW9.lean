import Derived.Test.YthiahnpijdkboaaW8
namespace Go.Proofs.Ythiahnpijdkboaa
open Go.RowKit Go.Ext Go.BigFrame
attribute [local go_sem] Ext.cell Ext.frozen Ext.lt Ext.le s1 s2 s3 s4 s5 s6 t1 t2 t3 t4 t5 t6
attribute [local go_sem ↓] Go.wp_at_zero Go.wp_at_succ

theorem sl_two (base : Nat) (w : World) : Sl base (w.alloc (.cells #[.int .i64 1, .slice none 0 0, .int .i64 2, .slice none 0 0] 46)) (some ⟨w.heap.size, 0, none⟩) [(1, []), (2, [])] := by
  refine ⟨[.int .i64 1, .slice none 0 0, .int .i64 2, .slice none 0 0], fun _ => ⟨_, _, rfl, fun j u hu => ?_⟩, rfl, fun i hi => ?_⟩
  · rw [cell_of_row _ _ _ _ 46 (0, 0) (heap_alloc_new _ _), Nat.zero_add]
    simpa using hu
  · match i, hi with
    | 0, _ => exact ⟨rfl, _, rfl, Byt.nil _ _ _⟩
    | 1, _ => exact ⟨rfl, _, rfl, Byt.nil _ _ _⟩
theorem sl_one (base : Nat) (w : World) : Sl base (w.alloc (.cells #[.int .i64 3, .slice none 0 0] 46)) (some ⟨w.heap.size, 0, none⟩) [(3, [])] := by
  refine ⟨[.int .i64 3, .slice none 0 0], fun _ => ⟨_, _, rfl, fun j u hu => ?_⟩, rfl, fun i hi => ?_⟩
  · rw [cell_of_row _ _ _ _ 46 (0, 0) (heap_alloc_new _ _), Nat.zero_add]
    simpa using hu
  · match i, hi with
    | 0, _ => exact ⟨rfl, _, rfl, Byt.nil _ _ _⟩

theorem known_last (base g : Nat) (v : Value) (w : World) (h : LogAt base w g 0 0 [(1, []), (3, [])] v) : Calls Try.prog 11 #[.pointer (some ⟨g, 0, none⟩)] w (RetE (.tuple #[.int .i64 2, .int .i64 3]) w) := last_any base g 0 0 _ v w h
theorem known_n4 (base g : Nat) (v : Value) (w : World) (h : LogAt base w g 0 0 [(1, []), (3, [])] v) : Calls Try.prog 12 #[.pointer (some ⟨g, 0, none⟩), .int .i64 1, .int .i64 4] w (RetE (.bool true) w) := newer_any base g 0 0 1 4 _ v w h
theorem known_n3 (base g : Nat) (v : Value) (w : World) (h : LogAt base w g 0 0 [(1, []), (3, [])] v) : Calls Try.prog 12 #[.pointer (some ⟨g, 0, none⟩), .int .i64 1, .int .i64 3] w (RetE (.bool false) w) := newer_any base g 0 0 1 3 _ v w h
theorem gr_mod {S : Nat → Prop} {a w w' : World} (h : Gr a w) (m : Mod S w w') (hS : ∀ k, S k → a.heap.size ≤ k) : Gr a w' :=
  ⟨m.os.trans h.os, m.tape.trans h.tape, m.output.trans h.output, Nat.le_trans h.size m.size, fun k hk => (m.block k (Nat.lt_of_lt_of_le hk h.size) (fun e => by have := hS k e; omega)).trans (h.block k hk)⟩

set_option maxHeartbeats 1000000 in
theorem known_any (w : World) : Calls Try.prog 8 #[] w (RetE (.bool true) w) := by
  refine retE ?_
  have HN := fun (w' : World) (hw : w.heap.size ≤ w'.heap.size) => hid (show Calls Try.prog 10 #[.int .i64 0, .int .i64 0, .slice (some ⟨w'.heap.size, 0, none⟩) 2 2] _ (RetL w.heap.size 0 0 [(1, []), (2, [])] _) from new_ok w.heap.size 0 0 (some ⟨w'.heap.size, 0, none⟩) 2 [(1, []), (2, [])] _ (sl_two w.heap.size w') (by decide) ⟨by decide, by decide, by decide, by decide⟩ (by decide) (by simp; omega))
  have HM := fun (g : Nat) (v : Value) (w' : World) (h : LogAt w.heap.size w' g 0 0 [(1, []), (2, [])] v) => hid (show Calls Try.prog 17 #[.pointer (some ⟨g, 0, none⟩), .int .i64 1, .slice (some ⟨w'.heap.size, 0, none⟩) 1 1] _ (RetM w.heap.size g 0 0 2 [(1, []), (3, [])] [(3, [])] _) from merge_miss w.heap.size g 0 1 0 0 1 [(1, []), (2, [])] v (some ⟨w'.heap.size, 0, none⟩) 1 [(3, [])] _ (h.gr ((Gr.refl _).alloc _)) (sl_one w.heap.size w') (by decide) (by decide) (by decide) (by decide) (fun j hj => absurd hj (by omega)) (by decide) (by decide) (by decide) (by decide) (fun b off e => by injection e with e; injection e with e; have := h.lt; omega) (by decide) (by have := h.lt; have := h.lo; simp; omega))
  go_enter Try.func8, Try.ntmps8
  go_wp2_with (first | (go_at_call 10; (with_reducible refine (HN _ (Nat.le_refl _)).out.mono ?_); rintro e _ ⟨g, v, y, rfl, rfl, hl, hg⟩; have HL := hid hl; clear hl) | (go_at_call 17; (with_reducible refine (HM g v _ HL.out).out.mono ?_); rintro e w3 ⟨v3, v4, rfl, hl3, ho3, hm3⟩; obtain ⟨g4, c4, rfl, hc4⟩ := ho3.some (by decide); have HL3 := hid hl3; have HM3 := hid hm3; clear hl3 ho3 hm3) | (go_at_call 11; (with_reducible refine (known_last w.heap.size g v3 w3 HL3.out).mono ?_); rintro e _ ⟨rfl, y5, rfl⟩) | (go_at_call 12; (with_reducible refine (calls_gr y5.gr (known_n4 w.heap.size g v3 y5.val (HL3.out.gr y5.gr))).mono ?_); rintro e _ ⟨rfl, y6, rfl⟩) | (go_at_call 12; (with_reducible refine (calls_gr y6.gr (known_n3 w.heap.size g v3 y6.val (HL3.out.gr y6.gr))).mono ?_); rintro e _ ⟨rfl, y7, rfl⟩))
  go_ret
  have g1 : Gr w w3 := gr_mod (((Gr.refl w).alloc _ |>.trans y.gr).alloc _) HM3.out (by rintro k rfl; have := HL3.out.lo; exact this)
  exact ⟨rfl, g1.trans y7.gr⟩
end Go.Proofs.Ythiahnpijdkboaa
