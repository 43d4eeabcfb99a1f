import Derived.Test.YtlencagfkajcnaaN5
import Derived.Shelf.Abstract
namespace Go.Proofs.Ytlencagfkajcnaa
open Go.RowKit Go.Ext Go.BigFrame Go.Maps
attribute [local go_sem] Ext.cell Ext.frozen Ext.lt Ext.le s1 s2 s3 s4 s5 s6 t1 t2 t3 t4 t5 t6
attribute [local go_sem ↓] Go.wp_at_zero Go.wp_at_succ

/-- Is it between the two? -/
def gC (a b : Int) (x : It) : Bool := decide (pr x.1 x.2.1 = pr a b)

set_option maxHeartbeats 1000000 in
theorem goneC (a b f t k : Int) (A : Option Addr) (l c : Nat) (B1 B2 : Nat) (w : World) (h1 : w.cell? ⟨B1, 0, none⟩ = some (.int .i64 a)) (h2 : w.cell? ⟨B2, 0, none⟩ = some (.int .i64 b)) :
    Calls Try.prog 31 #[.agg #[.int .i64 f, .int .i64 t, .int .i64 k, .slice A l c], .pointer (some ⟨B1, 0, none⟩), .pointer (some ⟨B2, 0, none⟩)] w (RetE (.bool (gC a b (f, t, k, A, l, c))) w) := by
  have l1 := World.block_lt_of_cell? w _ h1
  have l2 := World.block_lt_of_cell? w _ h2
  simp only at l1 l2
  refine retE ?_
  unfold gC
  simp only
  have HP := hid (fun W => pair_any f t W)
  have HQ := hid (fun W => pair_any a b W)
  generalize pr f t = p at *
  generalize pr a b = q at *
  obtain ⟨p1, p2⟩ := p
  obtain ⟨q1, q2⟩ := q
  simp only [pv] at HP HQ
  have hee := fun (W : World) => eq66 p1 p2 q1 q2 W
  generalize decide ((p1, p2) = (q1, q2)) = r at *
  go_enter Try.func31, Try.ntmps31
  go_wp2_with fail
  refine wp_region_ext (by kernel_rfl) (by kernel_rfl) ?_
  repeat (go_big_quiet_step (first | (go_at_call 29; first | (with_reducible exact calls_ext _ (HP.out _)) | (with_reducible exact calls_ext _ (HQ.out _)))))
  refine wpQuiet_nil ?_
  rintro _ ⟨x, rfl⟩
  go_wp2_with fail
  go_ret
  exact ⟨rfl, (((Gr.refl w).alloc _).ext x)⟩

/-- Is it for the node? -/
def gK (a : Int) (x : It) : Bool := x.2.1 == a
theorem goneK (a f t k : Int) (A : Option Addr) (l c : Nat) (B1 : Nat) (w : World) (h1 : w.cell? ⟨B1, 0, none⟩ = some (.int .i64 a)) :
    Calls Try.prog 32 #[.agg #[.int .i64 f, .int .i64 t, .int .i64 k, .slice A l c], .pointer (some ⟨B1, 0, none⟩)] w (RetE (.bool (gK a (f, t, k, A, l, c))) w) := by
  have l1 := World.block_lt_of_cell? w _ h1
  simp only at l1
  refine retE ?_
  unfold gK
  simp only
  go_enter Try.func32, Try.ntmps32
  go_wp2_with fail
  go_ret
  exact ⟨rfl, (Gr.refl w).alloc _⟩
end Go.Proofs.Ytlencagfkajcnaa
