import Derived.Test.YtkgmienjioplaaaW3
import Derived.Deep.OwnRows
namespace Go.Proofs.Ytkgmienjioplaaa
open Go.RowKit Go.Ext Go.BigFrame
attribute [local go_sem] Ext.cell Ext.frozen Ext.lt Ext.le s1 s2 s3 s4 s5 s6 t1 t2 t3 t4 t5 t6
attribute [local go_sem ↓] Go.wp_at_zero Go.wp_at_succ

/-- The sectors' bytes. -/
def KB (w : World) (kb : Nat) (K : List UInt8) : Prop := w.heap[kb]? = some (.cells (bc K).toArray 5 (0, 0))

/-- A disk was made. -/
def RetN (S sz : Nat) (w : World) (e : Ending) (w' : World) : Prop :=
  ∃ g kb, e = .returned (.tuple #[.pointer (some ⟨g, 0, none⟩), .int .i64 0]) ∧ DB w' g kb false 0 (.slice none 0 0) sz (S * sz) (.slice none 0 0) 0 ∧ KB w' kb (List.replicate (S * sz) 0) ∧ w.heap.size ≤ g ∧ w.heap.size ≤ kb ∧ kb ≠ g ∧ Gr w w'

theorem made_bc (n : Nat) : madeCells #[.int .u8 0] n = (bc (List.replicate n 0)).toArray := by
  apply Array.ext
  · simp [size_madeCells, bc]
  · intro i h1 h2
    simp [madeCells, bc, Nat.mod_one]
theorem mk_any (w : World) (n : Nat) (hn : n ≤ 16777216) : (Instr.makeSlice 22 (.int .i64 n) (.int .i64 n)).run Try.prog w = .ok (.slice (some ⟨w.heap.size, 0, none⟩) n n) (w.alloc (.cells (bc (List.replicate n 0)).toArray 5)) := by
  have := run_make_row' (P := Try.prog) (w := w) 22 5 (.int .u8 0) 1 Try.underlying22 info5 rfl .i64 .i64 n (by omega) (by omega)
  rwa [made_bc] at this

set_option maxHeartbeats 1000000 in
theorem new_ok (S sz : Nat) (w : World) (h1 : 1 ≤ S) (h2 : S ≤ 16384) (h3 : 64 ≤ sz) (h4 : sz ≤ 1024) :
    Calls Try.prog 9 #[.int .i64 S, .int .i64 sz] w (RetN S sz w) := by
  obtain ⟨n, hn⟩ : ∃ n, S * sz = n := ⟨_, rfl⟩
  have hm : (S : Int) * (sz : Int) = (n : Int) := by rw [← hn, Int.natCast_mul]
  have hb : n ≤ 16777216 := by rw [← hn]; exact Nat.mul_le_mul h2 h4
  have HN := hid hn
  clear hn
  have mk := fun (w : World) => mk_any w n hb
  go_enter Try.func9, Try.ntmps9
  go_wp2_with fail
  go_ret2
  have hkb : (w.alloc (.cells (bc (List.replicate n 0)).toArray 5)).heap.size = w.heap.size + 1 := by simp
  refine ⟨w.heap.size + 1, w.heap.size, rfl, ?_, ?_, by omega, Nat.le_refl _, by omega, ((Gr.refl w).alloc _).alloc _⟩
  · have := heap_alloc_new (w.alloc (.cells (bc (List.replicate n 0)).toArray 5)) (.cells #[.bool false, .int .i64 0, .slice none 0 0, .int .i64 sz, .slice (some ⟨w.heap.size, 0, none⟩) n n, .slice none 0 0, .int .i64 0] 35)
    rw [hkb] at this
    rw [HN.out]
    exact this
  · rw [HN.out]
    exact (((Gr.refl _).alloc _).block w.heap.size (by simp)).trans (heap_alloc_new w _)

set_option maxHeartbeats 1000000 in
theorem new_bad (S sz : Int) (w : World) (h : S < 1 ∨ 16384 < S ∨ sz < 64 ∨ 1024 < sz) :
    Calls Try.prog 9 #[.int .i64 S, .int .i64 sz] w (RetE (.tuple #[.pointer none, .int .i64 1]) w) := by
  refine retE ?_
  by_cases h1 : S < 1
  · go_enter Try.func9, Try.ntmps9
    go_wp2_with fail
    go_ret2
    exact ⟨rfl, Gr.refl _⟩
  by_cases h2 : 16384 < S
  · go_enter Try.func9, Try.ntmps9
    go_wp2_with fail
    go_ret2
    exact ⟨rfl, Gr.refl _⟩
  by_cases h3 : sz < 64
  · go_enter Try.func9, Try.ntmps9
    go_wp2_with fail
    go_ret2
    exact ⟨rfl, Gr.refl _⟩
  have h4 : 1024 < sz := by omega
  go_enter Try.func9, Try.ntmps9
  go_wp2_with fail
  go_ret2
  exact ⟨rfl, Gr.refl _⟩

/-! ### What Sync and Cut keep -/
theorem sync1_any (i : Int) (w : World) : Calls Try.prog 36 #[.int .i64 i] w (RetE (.bool true) w) := by
  refine retE ?_
  go_enter Try.func36, Try.ntmps36
  go_wp2_with fail
  go_ret
  exact ⟨rfl, Gr.refl _⟩
end Go.Proofs.Ytkgmienjioplaaa
