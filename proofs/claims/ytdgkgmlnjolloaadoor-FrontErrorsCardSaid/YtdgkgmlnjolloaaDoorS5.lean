import Derived.Test.YtdgkgmlnjolloaaDoorS3
namespace Go.Proofs.YtdgkgmlnjolloaaDoor
open Go.RowKit Go.Ext Go.BigFrame Go.Extern.Stop Go.Stop Go.Extern
attribute [local go_sem] Ext.cell Ext.frozen Ext.lt Ext.le s1 s2 s3 s4 s5 s6 t1 t2 t3 t4 t5 t6
attribute [local go_sem ↓] Go.wp_at_zero Go.wp_at_succ


/-- What errors.As leaves. -/
def asW (t : Addr) (b : Option Int) (w1 : World) : World := match b with | some n => w1.setCell t (.int .i64 n) | none => w1
set_option maxRecDepth 100000 in
set_option maxHeartbeats 4000000 in
theorem as_in (ws : List ByteArray) (b : Option Int) (v : Value) (t q : Addr) (old : Value) (w : World) (h : Ch w ws b v) (hq : w.cell? q = some (.pointer (some t))) (ht0 : w.cell? t = some old) (hf0 : w.frozen? t = false) :
    Calls Tryd.prog 23 #[v, .iface 36 (.pointer (some t)), .agg #[.pointer (some ⟨1, 36, none⟩), .pointer (some q), .int .u64 150], .iface 63 (.agg #[.pointer (some ⟨1, 29, none⟩)])] w (fun e w' => e = .returned (.bool b.isSome) ∧ ∃ w1, Gr w w1 ∧ w' = asW t b w1) := by
  have h20 := @run_callFunc_extern Tryd.prog 20 _ (fun args => ReflectliteValue.unpack (args.getD 0 (.tuple #[]))) Tryd.func20 (by kernel_rfl) (by kernel_rfl) (by kernel_rfl) (by kernel_rfl)
  have h24 := @run_callFunc_extern Tryd.prog 24 _ ReflectliteType.typeOf Tryd.func24 (by kernel_rfl) (by kernel_rfl) (by kernel_rfl) (by kernel_rfl)
  have h52 := @run_callFunc_extern Tryd.prog 52 _ (ReflectliteType.relation "AssignableTo" ReflectliteType.assignableTo) Tryd.func52 (by kernel_rfl) (by kernel_rfl) (by kernel_rfl) (by kernel_rfl)
  have h26 := @run_callFunc_extern Tryd.prog 26 _ (ReflectliteValue.method (ReflectliteValue.valueError "reflectlite.Value.Elem" 0) ReflectliteValue.elem) Tryd.func26 (by kernel_rfl) (by kernel_rfl) (by kernel_rfl) (by kernel_rfl)
  have h27 := @run_callFunc_extern Tryd.prog 27 _ ReflectliteValue.set Tryd.func27 (by kernel_rfl) (by kernel_rfl) (by kernel_rfl) (by kernel_rfl)
  have tO := V.typeOf29
  have tP := V.typeOf59
  have tQ := V.typeOf41
  have mA := V.mAssignableTo
  have a29 := V.assignable29
  have a59 := V.assignable59
  have a41 := V.assignable41
  have v29 := V.valueOf29
  have l1 := V.lacks67_59
  have l3 := V.lacks67_41
  have l4 := V.has70_59
  have l6 := V.lacks70_41
  have l8 := V.lacks72_41
  have mU := V.mUnwrap
  have htl : t.block < w.heap.size := World.block_lt_of_cell? w _ ht0
  have hql : q.block < w.heap.size := World.block_lt_of_cell? w _ hq
  have G1 : Gr w (w.alloc (.cells #[.pointer (some ⟨1, 36, none⟩), .pointer (some q), .int .u64 150] 48)) := (Gr.refl w).alloc _
  have hq1 := (G1.cell (p := q) hql).trans hq
  have ht1 := (G1.cell (p := t) htl).trans ht0
  have hf1 : (w.alloc (.cells #[.pointer (some ⟨1, 36, none⟩), .pointer (some q), .int .u64 150] 48)).frozen? t = false := by rw [World.frozen?_alloc_old _ _ t (Nat.ne_of_lt htl)]; exact hf0
  have htl1 : t.block < (w.alloc (.cells #[.pointer (some ⟨1, 36, none⟩), .pointer (some q), .int .u64 150] 48)).heap.size := Nat.lt_of_lt_of_le htl G1.size
  have H := hid (h.gr G1)
  have HG1 := hid G1
  obtain ⟨k0, k1, k2⟩ : (w.alloc (.cells #[.pointer (some ⟨1, 36, none⟩), .pointer (some q), .int .u64 150] 48)).cell? ⟨w.heap.size, 0, none⟩ = some (.pointer (some ⟨1, 36, none⟩)) ∧ (w.alloc (.cells #[.pointer (some ⟨1, 36, none⟩), .pointer (some q), .int .u64 150] 48)).cell? ⟨w.heap.size, 1, none⟩ = some (.pointer (some q)) ∧ (w.alloc (.cells #[.pointer (some ⟨1, 36, none⟩), .pointer (some q), .int .u64 150] 48)).cell? ⟨w.heap.size, 2, none⟩ = some (.int .u64 150) := by
    refine ⟨?_, ?_, ?_⟩ <;> (rw [World.cell?_alloc_at _ _ _ _ (by simp)]; rfl)
  have hwl : w.heap.size < (w.alloc (.cells #[.pointer (some ⟨1, 36, none⟩), .pointer (some q), .int .u64 150] 48)).heap.size := by simp
  clear h G1
  go_enter Tryd.func23, Tryd.ntmps23
  go_wp2_with fail
  generalize w.alloc (.cells #[.pointer (some ⟨1, 36, none⟩), .pointer (some q), .int .u64 150] 48) = W1 at *
  have el := fun (n : Int) => V.elemV36 q t W1 hq1
  have el2 := V.elemV36 q t W1 hq1
  have st := fun (n : Int) => V.set29 t ⟨W1.heap.size, 0, none⟩ n old (W1.alloc (.cells #[.int .i64 n] 29)) (by simp) (((((Gr.refl W1).alloc (.cells #[.int .i64 n] 29))).cell (p := t) htl1).trans ht1) (by rw [World.frozen?_alloc_old _ _ t (Nat.ne_of_lt htl1)]; exact hf1)
  go_loopg [0] ws.length (fun k v wr => ∃ r, k = r.length ∧ Ch wr r b v ∧ W1 = wr)
  case atStart => exact ⟨ws, rfl, H.out, rfl⟩
  case round =>
    obtain ⟨r, rfl, hc, rfl⟩ := hrel
    cases r with
    | nil =>
      cases b with
      | none =>
        simp only [Ch, bv] at hc
        subst hc
        go_wp2_with fail
        go_ret
        exact ⟨rfl, W1, HG1.out, rfl⟩
      | some n =>
        simp only [Ch, bv] at hc
        subst hc
        have st2 := st n
        go_wp2_with fail
        go_ret
        exact ⟨rfl, _, HG1.out.alloc _, rfl⟩
    | cons x r =>
      obtain ⟨k, u, rfl, hb, hc⟩ := hc
      obtain ⟨t', y, rfl⟩ := hc.shape
      have HU := hid (unwrap_any k x _ W1 hb)
      have HC := hid hc
      clear hc hb
      go_wp2_with (go_at_call 50; refine HU.out.mono ?_; rintro e _ ⟨rfl, rfl⟩)
      go_roundg r.length
      case measure => simp
      case rel => exact ⟨r, rfl, HC.out, rfl⟩
end Go.Proofs.YtdgkgmlnjolloaaDoor
