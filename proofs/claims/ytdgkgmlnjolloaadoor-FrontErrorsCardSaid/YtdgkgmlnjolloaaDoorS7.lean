import Derived.Test.YtdgkgmlnjolloaaDoorS4
import Derived.Test.YtdgkgmlnjolloaaDoorS6
namespace Go.Proofs.YtdgkgmlnjolloaaDoor
open Go.RowKit Go.Ext Go.BigFrame
attribute [local go_sem] Ext.cell Ext.frozen Ext.lt Ext.le s1 s2 s3 s4 s5 s6 t1 t2 t3 t4 t5 t6
attribute [local go_sem ↓] Go.wp_at_zero Go.wp_at_succ

/-- The listed variable's cell. -/
def Et (w : World) : Prop := w.cell? ⟨0, 0, none⟩ = some (.iface 63 (.agg #[.pointer (some ⟨1, 25, none⟩)]))
theorem Et.gr {w w' : World} (h : Et w) (g : Gr w w') : Et w' := (g.cell (p := ⟨0, 0, none⟩) (World.block_lt_of_cell? w _ h)).trans h
def RetV (v : Value) (w : World) (e : Ending) (w' : World) : Prop := e = .returned v ∧ Gr w w'

theorem c_set (w : World) (k : Nat) (n : Int) (h : w.heap[k]? = some (.cells #[.int .i64 0] 29 (0, 0))) : (w.setCell ⟨k, 0, none⟩ (.int .i64 n)).cell? ⟨k, 0, none⟩ = some (.int .i64 n) := by
  rw [setCell_eq_setRow w k 0 #[.int .i64 0] 29 (0, 0) _ h]
  have := setRow_heap w k #[.int .i64 0] ((#[.int .i64 0] : Array Value).setIfInBounds 0 (.int .i64 n)) 29 (0, 0) h
  have e : (#[.int .i64 0] : Array Value).setIfInBounds 0 (.int .i64 n) = #[.int .i64 n] := rfl
  rw [e] at this ⊢
  simp [World.cell?, this]
theorem fz1 {W : World} {B t : Nat} {v : Value} (h : W.heap[B]? = some (.cells #[v] t (0, 0))) : W.frozen? ⟨B, 0, none⟩ = false := by simp [World.frozen?, h]

set_option maxRecDepth 100000 in
theorem number_any (ws : List ByteArray) (b : Option Int) (v : Value) (w : World) (h : Ch w ws b v) (he : Et w) : Calls Tryd.prog 19 #[v] w (RetE (.tuple #[.int .i64 (b.getD 0), .bool b.isSome]) w) := by
  have G1 : Gr w (w.alloc (.cells #[.int .i64 0] 29)) := (Gr.refl w).alloc _
  have HA := hid (as_any ws b v ⟨w.heap.size, 0, none⟩ (.int .i64 0) _ (h.gr G1) (he.gr G1) (by rw [World.cell?_alloc_at _ _ _ _ (by simp)]; rfl) (fz1 (heap_alloc_new w _)))
  have HG1 := hid G1
  refine retE ?_
  clear h he G1
  cases b with
  | none =>
    go_enter Tryd.func19, Tryd.ntmps19
    go_wp2_with (go_at_call 14
                 refine HA.out.mono ?_
                 rintro e w7 ⟨rfl, w1, hg, hw7⟩
                 obtain rfl : w7 = w1 := hw7
                 have HG := hid hg
                 have c0 : w7.cell? ⟨w.heap.size, 0, none⟩ = some (.int .i64 0) := (hg.cell (p := ⟨w.heap.size, 0, none⟩) (by simp)).trans (by rw [World.cell?_alloc_at _ _ _ _ (by simp)]; rfl)
                 have hl1 : w.heap.size < w7.heap.size := Nat.lt_of_lt_of_le (by simp) hg.size
                 clear hg)
    go_ret2
    exact ⟨rfl, HG1.out.trans HG.out⟩
  | some n =>
    go_enter Tryd.func19, Tryd.ntmps19
    go_wp2_with (go_at_call 14
                 refine HA.out.mono ?_
                 rintro e w7 ⟨rfl, w1, hg, rfl⟩
                 have HG := hid hg
                 have hl1 : w.heap.size < w1.heap.size := Nat.lt_of_lt_of_le (by simp) hg.size
                 have hb1 : w1.heap[w.heap.size]? = some (.cells #[.int .i64 0] 29 (0, 0)) := (hg.block w.heap.size (by simp)).trans (heap_alloc_new w _)
                 have c0 : (w1.setCell ⟨w.heap.size, 0, none⟩ (.int .i64 n)).cell? ⟨w.heap.size, 0, none⟩ = some (.int .i64 n) := by
                   have := c_set w1 w.heap.size n hb1
                   exact this
                 have hG2 := hid (show Gr w (w1.setCell ⟨w.heap.size, 0, none⟩ (.int .i64 n)) from Gr.set (HG1.out.trans hg) (by simp) _)
                 simp only [asW]
                 clear hg hb1)
    go_ret2
    exact ⟨rfl, hG2.out⟩

/-- What is to be done behind it; its code. -/
def sortB (b : Option Int) : Int := sortF (b.getD (-1))
def codeB (b : Option Int) : Int := codeF (b.getD (-1))
theorem sort_nil (w : World) : Calls Tryd.prog 10 #[.nilIface] w (RetE (.int .i64 0) w) := by
  refine retE ?_
  go_enter Tryd.func10, Tryd.ntmps10
  go_wp2_with fail
  go_ret
  exact ⟨rfl, Gr.refl _⟩
set_option maxRecDepth 100000 in
set_option maxHeartbeats 2000000 in
theorem sort_any (ws : List ByteArray) (b : Option Int) (v : Value) (w : World) (h : Ch w ws b v) (he : Et w) : Calls Tryd.prog 10 #[v] w (RetE (.int .i64 (sortB b)) w) := by
  have HN := hid (number_any ws b v w h he)
  have HI := hid (fun W (y : Gr w W) => isTop_any ws b v 24 W (h.gr y))
  obtain ⟨tt, xx, rfl⟩ := h.shape
  clear h he
  refine retE ?_
  cases b with
  | none =>
    go_enter Tryd.func10, Tryd.ntmps10
    go_wp2_with (go_at_call 19; refine HN.out.mono ?_; rintro e _ ⟨rfl, y1, rfl⟩)
    go_ret
    exact ⟨rfl, y1.gr⟩
  | some n =>
    unfold sortB
    simp only [Option.getD_some] at *
    by_cases h0 : n = 0
    · subst h0
      rw [show sortF 0 = 0 by decide]
      have q1 : decide (some (0 : Int) = some 24) = false := by decide
      rw [q1] at HI
      go_enter Tryd.func10, Tryd.ntmps10
      go_wp2_with (first | (go_at_call 19; refine HN.out.mono ?_; rintro e _ ⟨rfl, y1, rfl⟩) | (go_at_call 15; refine (HI.out _ y1.gr).mono ?_; rintro e _ ⟨rfl, rfl⟩))
      go_ret
      exact ⟨rfl, y1.gr⟩
    by_cases h1 : n = 26
    · subst h1
      rw [show sortF 26 = 2 by decide]
      have q1 : decide (some (26 : Int) = some 24) = false := by decide
      rw [q1] at HI
      go_enter Tryd.func10, Tryd.ntmps10
      go_wp2_with (first | (go_at_call 19; refine HN.out.mono ?_; rintro e _ ⟨rfl, y1, rfl⟩) | (go_at_call 15; refine (HI.out _ y1.gr).mono ?_; rintro e _ ⟨rfl, rfl⟩))
      go_ret
      exact ⟨rfl, y1.gr⟩
    by_cases h2 : n = 25
    · subst h2
      rw [show sortF 25 = 2 by decide]
      have q1 : decide (some (25 : Int) = some 24) = false := by decide
      rw [q1] at HI
      go_enter Tryd.func10, Tryd.ntmps10
      go_wp2_with (first | (go_at_call 19; refine HN.out.mono ?_; rintro e _ ⟨rfl, y1, rfl⟩) | (go_at_call 15; refine (HI.out _ y1.gr).mono ?_; rintro e _ ⟨rfl, rfl⟩))
      go_ret
      exact ⟨rfl, y1.gr⟩
    by_cases h3 : n = 27
    · subst h3
      rw [show sortF 27 = 1 by decide]
      have q1 : decide (some (27 : Int) = some 24) = false := by decide
      rw [q1] at HI
      go_enter Tryd.func10, Tryd.ntmps10
      go_wp2_with (first | (go_at_call 19; refine HN.out.mono ?_; rintro e _ ⟨rfl, y1, rfl⟩) | (go_at_call 15; refine (HI.out _ y1.gr).mono ?_; rintro e _ ⟨rfl, rfl⟩))
      go_ret
      exact ⟨rfl, y1.gr⟩
    by_cases h4 : n = 5
    · subst h4
      rw [show sortF 5 = 1 by decide]
      have q1 : decide (some (5 : Int) = some 24) = false := by decide
      rw [q1] at HI
      go_enter Tryd.func10, Tryd.ntmps10
      go_wp2_with (first | (go_at_call 19; refine HN.out.mono ?_; rintro e _ ⟨rfl, y1, rfl⟩) | (go_at_call 15; refine (HI.out _ y1.gr).mono ?_; rintro e _ ⟨rfl, rfl⟩))
      go_ret
      exact ⟨rfl, y1.gr⟩
    by_cases h5 : n = 4
    · subst h5
      rw [show sortF 4 = 1 by decide]
      have q1 : decide (some (4 : Int) = some 24) = false := by decide
      rw [q1] at HI
      go_enter Tryd.func10, Tryd.ntmps10
      go_wp2_with (first | (go_at_call 19; refine HN.out.mono ?_; rintro e _ ⟨rfl, y1, rfl⟩) | (go_at_call 15; refine (HI.out _ y1.gr).mono ?_; rintro e _ ⟨rfl, rfl⟩))
      go_ret
      exact ⟨rfl, y1.gr⟩
    by_cases h6 : n = 6
    · subst h6
      rw [show sortF 6 = 1 by decide]
      have q1 : decide (some (6 : Int) = some 24) = false := by decide
      rw [q1] at HI
      go_enter Tryd.func10, Tryd.ntmps10
      go_wp2_with (first | (go_at_call 19; refine HN.out.mono ?_; rintro e _ ⟨rfl, y1, rfl⟩) | (go_at_call 15; refine (HI.out _ y1.gr).mono ?_; rintro e _ ⟨rfl, rfl⟩))
      go_ret
      exact ⟨rfl, y1.gr⟩
    by_cases h7 : n = 24
    · subst h7
      rw [show sortF 24 = 3 by decide]
      have q1 : decide (some (24 : Int) = some 24) = true := by decide
      rw [q1] at HI
      go_enter Tryd.func10, Tryd.ntmps10
      go_wp2_with (first | (go_at_call 19; refine HN.out.mono ?_; rintro e _ ⟨rfl, y1, rfl⟩) | (go_at_call 15; refine (HI.out _ y1.gr).mono ?_; rintro e _ ⟨rfl, rfl⟩))
      go_ret
      exact ⟨rfl, y1.gr⟩
    have b0 : (n == 0) = false := by rw [beq_eq_false_iff_ne]; exact h0
    have b1 : (n == 26) = false := by rw [beq_eq_false_iff_ne]; exact h1
    have b2 : (n == 25) = false := by rw [beq_eq_false_iff_ne]; exact h2
    have b3 : (n == 27) = false := by rw [beq_eq_false_iff_ne]; exact h3
    have b4 : (n == 5) = false := by rw [beq_eq_false_iff_ne]; exact h4
    have b5 : (n == 4) = false := by rw [beq_eq_false_iff_ne]; exact h5
    have b6 : (n == 6) = false := by rw [beq_eq_false_iff_ne]; exact h6
    have b7 : (n == 24) = false := by rw [beq_eq_false_iff_ne]; exact h7
    have hF : sortF n = 4 := by unfold sortF; simp [h0, h1, h2, h3, h4, h5, h6, h7]
    rw [hF]
    have q1 : decide (some n = some 24) = false := by simp [h7]
    rw [q1] at HI
    clear hF q1
    go_enter Tryd.func10, Tryd.ntmps10
    go_wp2_with (first | (go_at_call 19; refine HN.out.mono ?_; rintro e _ ⟨rfl, y1, rfl⟩) | (go_at_call 15; refine (HI.out _ y1.gr).mono ?_; rintro e _ ⟨rfl, rfl⟩))
    go_ret
    exact ⟨rfl, y1.gr⟩
end Go.Proofs.YtdgkgmlnjolloaaDoor
