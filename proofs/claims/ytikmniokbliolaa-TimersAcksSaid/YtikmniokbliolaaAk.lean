import Derived.Test.YtikmniokbliolaaK
namespace Go.Proofs.Ytikmniokbliolaa
open Go.RowKit Go.Ext Go.BigFrame
attribute [local go_sem] Ext.cell Ext.frozen Ext.lt Ext.le s1 s2 s3 s4 s5 s6 t1 t2 t3 t4 t5 t6
attribute [local go_sem ↓] Go.wp_at_zero Go.wp_at_succ

/-- The law TimersAcks. -/
theorem acks_any (a : Int) (l : List Int) (v : Value) (w : World) (hv : Ints w v l) (hl : ∀ x ∈ l, I64 x) :
    Calls Try.prog 3 #[.int .i64 a, v] w (RetE (.bool true) w) := by
  refine retE ?_
  have HV := hid hv
  obtain ⟨A, c, rfl, hl0, _⟩ := hv
  by_cases hlen : 250 < l.length
  · have hle : (250 : Int) < (l.length : Int) := by omega
    go_enter Try.func3, Try.ntmps3
    go_wp2_with (go_at_call 8; refine (known_any _).mono ?_; rintro e _ ⟨rfl, y1, rfl⟩)
    go_ret
    exact ⟨rfl, y1.gr⟩
  · have hle : ¬ (250 : Int) < (l.length : Int) := by omega
    have HB := hid (fun W (g : Gr w W) => block_any a l _ W (HV.out.gr g) hl (by omega))
    have HR := hid (fun W (g : Gr w W) => blockR_any a l _ W (HV.out.gr g) (by omega))
    go_enter Try.func3, Try.ntmps3
    go_wp2_with (first
      | (go_at_call 8; refine (known_any _).mono ?_; rintro e _ ⟨rfl, y1, rfl⟩)
      | (go_at_call 9; refine (HB.out _ y1.gr).mono ?_; rintro e _ ⟨r, y2, rfl, rfl, hr⟩; have HR1 := hid hr; clear hr)
      | (go_at_call 10; refine (HR.out _ (y1.gr.ext y2)).mono ?_; rintro e _ ⟨r2, y3, rfl, rfl, hr2⟩; obtain rfl := HR1.out.eq hr2))
    go_ret
    exact ⟨by simp, (y1.gr.ext y2).ext y3⟩
end Go.Proofs.Ytikmniokbliolaa
