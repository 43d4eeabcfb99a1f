import Derived.Test.YtdgkgmlnjolloaaDoorS3
namespace Go.Proofs.YtdgkgmlnjolloaaDoor
open Go.RowKit Go.Ext Go.BigFrame Go.Extern.Stop Go.Stop Go.Extern
attribute [local go_sem] Ext.cell Ext.frozen Ext.lt Ext.le s1 s2 s3 s4 s5 s6 t1 t2 t3 t4 t5 t6
attribute [local go_sem ↓] Go.wp_at_zero Go.wp_at_succ

theorem V.cmp29b (w : World) : ((ReflectliteType.method fun t => do Rtype.noPackHeld "Comparable" t; (fun a : TypeInfo => Value.bool a.comparable) <$> typeInfo t) #[.agg #[.pointer (some ⟨1, 29, none⟩)]]).run Tryd.prog w = .ok (.bool true) w := by kernel_rfl

set_option maxRecDepth 100000 in
set_option maxHeartbeats 2000000 in
/-- errors.Is at a number. -/
theorem isTop_any (ws : List ByteArray) (b : Option Int) (v : Value) (m : Int) (w : World) (h : Ch w ws b v) : Calls Tryd.prog 15 #[v, .iface 29 (.int .i64 m)] w (fun e w' => e = .returned (.bool (decide (b = some m))) ∧ w = w') := by
  have h24 := @run_callFunc_extern Tryd.prog 24 _ ReflectliteType.typeOf Tryd.func24 (by kernel_rfl) (by kernel_rfl) (by kernel_rfl) (by kernel_rfl)
  have h53 := @run_callFunc_extern Tryd.prog 53 _ (ReflectliteType.method fun t => do Rtype.noPackHeld "Comparable" t; pure (.bool (← typeInfo t).comparable)) Tryd.func53 (by kernel_rfl) (by kernel_rfl) (by kernel_rfl) (by kernel_rfl)
  have tO := V.typeOf29
  have mC := V.mComparable
  have c29 := V.cmp29b
  obtain ⟨t, x, rfl⟩ := h.shape
  have HI := hid (is_any ws b _ m w h)
  clear h
  go_enter Tryd.func15, Tryd.ntmps15
  go_wp2_with (go_at_call 25; refine HI.out.mono ?_; rintro e _ ⟨rfl, rfl⟩)
  go_ret
  exact ⟨rfl, rfl⟩

end Go.Proofs.YtdgkgmlnjolloaaDoor
