import Derived.Test.YtdgkgmlnjolloaaDoorS1
import Derived.WalkKit
import Derived.LaidEql
import Derived.Stop.Asserts
import Derived.RowKitTokens
import Derived.Deep.LoopGhost
namespace Go.Proofs.YtdgkgmlnjolloaaDoor
open Go.RowKit Go.Ext Go.BigFrame Go.Extern.Stop Go.Stop Go.Extern
attribute [local go_sem] Ext.cell Ext.frozen Ext.lt Ext.le s1 s2 s3 s4 s5 s6 t1 t2 t3 t4 t5 t6
attribute [local go_sem ↓] Go.wp_at_zero Go.wp_at_succ

/-! ### An error: words around a number, or a text -/
/-- What is within: a number, or (none) a text. -/
def bv : Option Int → Value
  | some n => .iface 29 (.int .i64 n)
  | none => .iface 41 (.string ⟨#[120]⟩)
/-- The value is an error of these words. -/
def Ch (w : World) : List ByteArray → Option Int → Value → Prop
  | [], b, v => v = bv b
  | x :: r, b, v => ∃ k u, v = .iface 59 (.pointer (some ⟨k, 0, none⟩)) ∧ w.heap[k]? = some (.cells #[.string x, u] 61 (0, 0)) ∧ Ch w r b u
theorem Ch.gr {w w' : World} (g : Gr w w') : ∀ {r : List ByteArray} {b : Option Int} {v : Value}, Ch w r b v → Ch w' r b v
  | [], _, _, h => h
  | _ :: _, _, _, ⟨k, u, e, hb, h⟩ => ⟨k, u, e, (g.block k (Array.getElem?_eq_some_iff.1 hb).1).trans hb, Ch.gr g h⟩
theorem Ch.shape {w : World} : ∀ {r : List ByteArray} {b : Option Int} {v : Value}, Ch w r b v → ∃ t x, v = .iface t x
  | [], some _, _, h => ⟨_, _, h⟩
  | [], none, _, h => ⟨_, _, h⟩
  | _ :: _, _, _, ⟨_, _, e, _⟩ => ⟨_, _, e⟩

theorem unwrap_any (k : Nat) (x : ByteArray) (u : Value) (w : World) (h : w.heap[k]? = some (.cells #[.string x, u] 61 (0, 0))) : Calls Tryd.prog 50 #[.pointer (some ⟨k, 0, none⟩)] w (fun e w' => e = .returned u ∧ w = w') := by
  have c0 : w.cell? ⟨k, 0, none⟩ = some (.string x) := by simp [World.cell?, h]
  have c1 : w.cell? ⟨k, 1, none⟩ = some u := by simp [World.cell?, h]
  have hlt : k < w.heap.size := (Array.getElem?_eq_some_iff.1 h).1
  clear h
  go_enter Tryd.func50, Tryd.ntmps50
  go_wp2_with fail
  go_ret
  exact ⟨rfl, rfl⟩

theorem V.lacks75_59 (v : Value) (w : World) : (Instr.typeAssert (.iface 59 v) 25 75 true).run Tryd.prog w = .ok (.tuple #[.nilIface, .bool false]) w := run_typeAssert_lacksB Tryd.underlying75 (by kernel_rfl) (by kernel_rfl) v 25 w
theorem V.lacks75_29 (v : Value) (w : World) : (Instr.typeAssert (.iface 29 v) 25 75 true).run Tryd.prog w = .ok (.tuple #[.nilIface, .bool false]) w := run_typeAssert_lacksB Tryd.underlying75 (by kernel_rfl) (by kernel_rfl) v 25 w
theorem V.lacks75_41 (v : Value) (w : World) : (Instr.typeAssert (.iface 41 v) 25 75 true).run Tryd.prog w = .ok (.tuple #[.nilIface, .bool false]) w := run_typeAssert_lacksB Tryd.underlying75 (by kernel_rfl) (by kernel_rfl) v 25 w
theorem V.lacks67_59 (v : Value) (w : World) : (Instr.typeAssert (.iface 59 v) 25 67 true).run Tryd.prog w = .ok (.tuple #[.nilIface, .bool false]) w := run_typeAssert_lacksB Tryd.underlying67 (by kernel_rfl) (by kernel_rfl) v 25 w
theorem V.lacks67_41 (v : Value) (w : World) : (Instr.typeAssert (.iface 41 v) 25 67 true).run Tryd.prog w = .ok (.tuple #[.nilIface, .bool false]) w := run_typeAssert_lacksB Tryd.underlying67 (by kernel_rfl) (by kernel_rfl) v 25 w
theorem V.has70_59 (v : Value) (w : World) : (Instr.typeAssert (.iface 59 v) 25 70 true).run Tryd.prog w = .ok (.tuple #[.iface 59 v, .bool true]) w := run_typeAssert_hasB Tryd.underlying70 (by kernel_rfl) v 25 w
theorem V.lacks70_29 (v : Value) (w : World) : (Instr.typeAssert (.iface 29 v) 25 70 true).run Tryd.prog w = .ok (.tuple #[.nilIface, .bool false]) w := run_typeAssert_lacksB Tryd.underlying70 (by kernel_rfl) (by kernel_rfl) v 25 w
theorem V.lacks70_41 (v : Value) (w : World) : (Instr.typeAssert (.iface 41 v) 25 70 true).run Tryd.prog w = .ok (.tuple #[.nilIface, .bool false]) w := run_typeAssert_lacksB Tryd.underlying70 (by kernel_rfl) (by kernel_rfl) v 25 w
theorem V.lacks72_29 (v : Value) (w : World) : (Instr.typeAssert (.iface 29 v) 25 72 true).run Tryd.prog w = .ok (.tuple #[.nilIface, .bool false]) w := run_typeAssert_lacksB Tryd.underlying72 (by kernel_rfl) (by kernel_rfl) v 25 w
theorem V.lacks72_41 (v : Value) (w : World) : (Instr.typeAssert (.iface 41 v) 25 72 true).run Tryd.prog w = .ok (.tuple #[.nilIface, .bool false]) w := run_typeAssert_lacksB Tryd.underlying72 (by kernel_rfl) (by kernel_rfl) v 25 w

theorem V.eq29 (n m : Int) (W : World) : (binOp .eql 25 (.iface 29 (.int .i64 n)) (.iface 29 (.int .i64 m))).run Tryd.prog W = .ok (.bool (n == m)) W := by
  have h : ∀ d : Nat, (Op.equalIn (d + 2) 25 (.iface 29 (.int .i64 n)) (.iface 29 (.int .i64 m))).run Tryd.prog W = .ok (n == m) W := fun d => by
    simp [Op.equalIn, run_underlying Tryd.underlying25, run_underlying Tryd.underlying29, show Tryd.t29.comparable = true by kernel_rfl]
  simp only [binOp]
  simp [Op.equal, Op.maxDepth, h 9998]
theorem V.mUnwrap (p : Value) (w : World) : (Go.method 207 59 p "Unwrap").run Tryd.prog w = .ok (50, p) w := by kernel_rfl
theorem V.mError59 (p : Value) (w : World) : (Go.method 207 59 p "Error").run Tryd.prog w = .ok (49, p) w := by kernel_rfl
theorem V.mError29 (p : Value) (w : World) : (Go.method 207 29 p "Error").run Tryd.prog w = .ok (9, p) w := by kernel_rfl
theorem V.mError41 (p : Value) (w : World) : (Go.method 207 41 p "Error").run Tryd.prog w = .ok (45, p) w := by kernel_rfl

set_option maxRecDepth 100000 in
set_option maxHeartbeats 2000000 in
theorem is_any (ws : List ByteArray) (b : Option Int) (v : Value) (m : Int) (w : World) (h : Ch w ws b v) : Calls Tryd.prog 25 #[v, .iface 29 (.int .i64 m), .bool true] w (fun e w' => e = .returned (.bool (decide (b = some m))) ∧ w = w') := by
  have e59 := fun (x y : Value) (W : World) => run_eql_iface_types (P := Tryd.prog) 59 29 x y Tryd.underlying25 (by decide) W
  have e41 := fun (x y : Value) (W : World) => run_eql_iface_types (P := Tryd.prog) 41 29 x y Tryd.underlying25 (by decide) W
  have l1 := V.lacks75_59
  have l2 := V.lacks75_29
  have l3 := V.lacks75_41
  have l4 := V.has70_59
  have l5 := V.lacks70_29
  have l6 := V.lacks70_41
  have l7 := V.lacks72_29
  have l8 := V.lacks72_41
  have e29 := V.eq29
  have mU := V.mUnwrap
  have H := hid h
  clear h
  go_enter Tryd.func25, Tryd.ntmps25
  go_wp2_with fail
  go_loopg [0] ws.length (fun k v wr => ∃ r, k = r.length ∧ Ch wr r b v ∧ w = wr)
  case atStart => exact ⟨ws, rfl, H.out, rfl⟩
  case round =>
    obtain ⟨r, rfl, hc, rfl⟩ := hrel
    cases r with
    | nil =>
      cases b with
      | none =>
        simp only [Ch, bv] at hc
        subst hc
        go_wp2_with fail
        go_ret
        exact ⟨rfl, rfl⟩
      | some n =>
        simp only [Ch, bv] at hc
        subst hc
        by_cases e : n = m
        · have eb : (n == m) = true := by simp [e]
          go_wp2_with fail
          go_ret
          exact ⟨by simp [e], rfl⟩
        · have eb : (n == m) = false := by rw [beq_eq_false_iff_ne]; exact e
          go_wp2_with fail
          go_ret
          exact ⟨by simp [e], rfl⟩
    | cons x r =>
      obtain ⟨k, u, rfl, hb, hc⟩ := hc
      obtain ⟨t, y, rfl⟩ := hc.shape
      have HU := hid (unwrap_any k x _ w hb)
      have HC := hid hc
      clear hc hb
      go_wp2_with (go_at_call 50; refine HU.out.mono ?_; rintro e _ ⟨rfl, rfl⟩)
      go_roundg r.length
      case measure => simp
      case rel => exact ⟨r, rfl, HC.out, rfl⟩
end Go.Proofs.YtdgkgmlnjolloaaDoor
