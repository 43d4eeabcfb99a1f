import Derived.Test.YtdgkgmlnjolloaaDoorS5
namespace Go.Proofs.YtdgkgmlnjolloaaDoor
open Go.RowKit Go.Ext Go.BigFrame Go.Extern.Stop Go.Stop Go.Extern
attribute [local go_sem] Ext.cell Ext.frozen Ext.lt Ext.le s1 s2 s3 s4 s5 s6 t1 t2 t3 t4 t5 t6
attribute [local go_sem ↓] Go.wp_at_zero Go.wp_at_succ

set_option maxRecDepth 100000 in
set_option maxHeartbeats 4000000 in
theorem as_any (ws : List ByteArray) (b : Option Int) (v : Value) (t : Addr) (old : Value) (w : World) (h : Ch w ws b v) (hg : w.cell? ⟨0, 0, none⟩ = some (.iface 63 (.agg #[.pointer (some ⟨1, 25, none⟩)]))) (ht0 : w.cell? t = some old) (hf0 : w.frozen? t = false) :
    Calls Tryd.prog 14 #[v, .iface 36 (.pointer (some t))] w (fun e w' => e = .returned (.bool b.isSome) ∧ ∃ w1, Gr w w1 ∧ w' = asW t b w1) := by
  have h20 := @run_callFunc_extern Tryd.prog 20 _ (fun args => ReflectliteValue.unpack (args.getD 0 (.tuple #[]))) Tryd.func20 (by kernel_rfl) (by kernel_rfl) (by kernel_rfl) (by kernel_rfl)
  have h21 := @run_callFunc_extern Tryd.prog 21 _ (ReflectliteValue.methodAny (ReflectliteValue.valueError "reflectlite.Value.Type" 0) (fun t _ _ _ => ReflectliteType.toType t)) Tryd.func21 (by kernel_rfl) (by kernel_rfl) (by kernel_rfl) (by kernel_rfl)
  have h22 := @run_callFunc_extern Tryd.prog 22 _ (ReflectliteValue.method (ReflectliteValue.valueError "reflectlite.Value.IsNil" 0) ReflectliteValue.isNil) Tryd.func22 (by kernel_rfl) (by kernel_rfl) (by kernel_rfl) (by kernel_rfl)
  have h42 := @run_callFunc_extern Tryd.prog 42 _ (ReflectliteType.abiMethod fun t => do pure (.int .u8 (← Rtype.kind t))) Tryd.func42 (by kernel_rfl) (by kernel_rfl) (by kernel_rfl) (by kernel_rfl)
  have h54 := @run_callFunc_extern Tryd.prog 54 _ (ReflectliteType.method ReflectliteType.elem) Tryd.func54 (by kernel_rfl) (by kernel_rfl) (by kernel_rfl) (by kernel_rfl)
  have h55 := @run_callFunc_extern Tryd.prog 55 _ (ReflectliteType.relation "Implements" ReflectliteType.implements_) Tryd.func55 (by kernel_rfl) (by kernel_rfl) (by kernel_rfl) (by kernel_rfl)
  have h24 := @run_callFunc_extern Tryd.prog 24 _ ReflectliteType.typeOf Tryd.func24 (by kernel_rfl) (by kernel_rfl) (by kernel_rfl) (by kernel_rfl)
  have h52 := @run_callFunc_extern Tryd.prog 52 _ (ReflectliteType.relation "AssignableTo" ReflectliteType.assignableTo) Tryd.func52 (by kernel_rfl) (by kernel_rfl) (by kernel_rfl) (by kernel_rfl)
  have h26 := @run_callFunc_extern Tryd.prog 26 _ (ReflectliteValue.method (ReflectliteValue.valueError "reflectlite.Value.Elem" 0) ReflectliteValue.elem) Tryd.func26 (by kernel_rfl) (by kernel_rfl) (by kernel_rfl) (by kernel_rfl)
  have h27 := @run_callFunc_extern Tryd.prog 27 _ ReflectliteValue.set Tryd.func27 (by kernel_rfl) (by kernel_rfl) (by kernel_rfl) (by kernel_rfl)
  have tO := V.typeOf29
  have tP := V.typeOf59
  have tQ := V.typeOf41
  have mA := V.mAssignableTo
  have a29 := V.assignable29
  have a59 := V.assignable59
  have a41 := V.assignable41
  have v29 := V.valueOf29
  have f6 := V.valueOf36
  have f7 := V.type36
  have mK := V.mKind
  have mE := V.mElem
  have mI := V.mImplements
  have k36 := V.kind36
  have k29 := V.kind29
  have e36 := V.elem36
  have i29 := V.implements29
  have l1 := V.lacks67_59
  have l3 := V.lacks67_41
  have l4 := V.has70_59
  have l6 := V.lacks70_41
  have l8 := V.lacks72_41
  have mU := V.mUnwrap
  obtain ⟨tt, xx, rfl⟩ := h.shape
  have hlt : 0 < w.heap.size := by
    rcases Nat.eq_zero_or_pos w.heap.size with h0 | h
    · simp [World.cell?, h0] at hg
    · exact h
  have htl : t.block < w.heap.size := World.block_lt_of_cell? w _ ht0
  have G2 : Gr w ((w.alloc (.cells #[.pointer (some t)] 36)).alloc (.cells #[.pointer (some ⟨1, 36, none⟩), .pointer (some ⟨w.heap.size, 0, none⟩), .int .u64 150] 48)) := ((Gr.refl w).alloc _).alloc _
  have n8 := V.isNil36 ⟨w.heap.size, 0, none⟩ t ((w.alloc (.cells #[.pointer (some t)] 36)).alloc (.cells #[.pointer (some ⟨1, 36, none⟩), .pointer (some ⟨w.heap.size, 0, none⟩), .int .u64 150] 48)) (by simp)
  have hg2 := (G2.cell (p := ⟨0, 0, none⟩) hlt).trans hg
  have HIN := hid (as_in ws b _ t ⟨w.heap.size, 0, none⟩ old _ (h.gr G2) (by rw [World.cell?_alloc_lt _ _ ⟨w.heap.size, 0, none⟩ (by simp)]; simp) ((G2.cell (p := t) htl).trans ht0) (by rw [World.frozen?_alloc_old _ _ t (by simp; omega), World.frozen?_alloc_old _ _ t (Nat.ne_of_lt htl)]; exact hf0))
  have HG2 := hid G2
  clear h G2
  go_enter Tryd.func14, Tryd.ntmps14
  go_wp2_with (go_at_call 23; refine HIN.out.mono ?_; rintro e w7 ⟨rfl, w1, hg1, rfl⟩; have HGW := hid hg1; clear hg1)
  go_ret
  exact ⟨rfl, w1, HG2.out.trans HGW.out, rfl⟩
end Go.Proofs.YtdgkgmlnjolloaaDoor
