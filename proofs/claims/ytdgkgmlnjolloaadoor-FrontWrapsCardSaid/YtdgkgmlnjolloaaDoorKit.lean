import Derived.WalkKit
import Derived.WalkSpells
import Derived.WalkLawsBesides
import Derived.BigQuiet
namespace Go.Ext
open Go.RowKit

/-- A fact kept from the walk. -/
theorem hid {p : Prop} (h : p) : Hid p := h

/-- 'w' has grown from 'w0': what was there is as it was. -/
def Gr (w0 w : World) : Prop := Below w0.heap.size w0 w

theorem Gr.below {w0 w : World} (h : Gr w0 w) : Below w0.heap.size w0 w := h
theorem Gr.size {w0 w : World} (h : Gr w0 w) : w0.heap.size ≤ w.heap.size := h.below.size
theorem Gr.refl (w : World) : Gr w w := Below.refl _ _
theorem Gr.trans {a b c : World} (h : Gr a b) (k : Gr b c) : Gr a c := Below.trans h (Below.mono k h.size)
theorem Gr.alloc {a w : World} (h : Gr a w) (o : Obj) : Gr a (w.alloc o) := Below.alloc h h.size o
theorem Gr.drew {a w : World} (h : Gr a w) : Gr a w.drew := Below.drew h
theorem Gr.drewN {a w : World} (h : Gr a w) (n : Nat) : Gr a (w.drewN n) := ⟨h.os, h.tape, h.output, h.size, h.block⟩
theorem Gr.set {a w : World} (h : Gr a w) {p : Addr} (hp : a.heap.size ≤ p.block) (u : Value) : Gr a (w.setCell p u) := Below.setCell h hp u
theorem Gr.cell {a w : World} (h : Gr a w) {p : Addr} (hp : p.block < a.heap.size) : w.cell? p = a.cell? p := Below.cell h hp
theorem Gr.frozen {a w : World} (h : Gr a w) {p : Addr} (hp : p.block < a.heap.size) : w.frozen? p = a.frozen? p := Below.frozen h hp

/-- A world that has what 'w' has, and perhaps more blocks. -/
structure Ext (w : World) where
  val : World
  gr : Gr w val

instance {w : World} : Nonempty (Ext w) := ⟨⟨w, Gr.refl _⟩⟩

theorem Ext.cell {w : World} (x : Ext w) (a : Addr) (h : a.block < w.heap.size) : x.val.cell? a = w.cell? a := x.gr.cell h
theorem Ext.frozen {w : World} (x : Ext w) (a : Addr) (h : a.block < w.heap.size) : x.val.frozen? a = w.frozen? a := x.gr.frozen h
theorem Ext.lt {w : World} (x : Ext w) (b : Nat) (h : b < w.heap.size) : (b < x.val.heap.size) = True := eq_true (Nat.lt_of_lt_of_le h x.gr.size)
theorem Ext.le {w : World} (x : Ext w) (b : Nat) (h : b ≤ w.heap.size) : (b ≤ x.val.heap.size) = True := eq_true (Nat.le_trans h x.gr.size)
theorem Gr.ext {a w : World} (h : Gr a w) (x : Ext w) : Gr a x.val := h.trans x.gr

theorem Ext.lt_alloc {w : World} {o : Obj} (y : Ext (w.alloc o)) : w.heap.size < y.val.heap.size := Nat.lt_of_lt_of_le (by simp) y.gr.size

/-- It returns v, and has made blocks at most. -/
def RetE (v : Value) (w : World) (e : Ending) (w' : World) : Prop := e = .returned v ∧ ∃ y : Ext w, w' = y.val

theorem retE {P : Program} {f : FuncId} {args : Array Value} {w : World} {v : Value} (h : Calls P f args w fun e w' => e = .returned v ∧ Gr w w') : Calls P f args w (RetE v w) :=
  h.mono fun _ w' ⟨he, hg⟩ => ⟨he, ⟨w', hg⟩, rfl⟩
theorem retE_same {P : Program} {f : FuncId} {args : Array Value} {w : World} {v : Value} (h : Calls P f args w fun e w' => e = .returned v ∧ w = w') : Calls P f args w (RetE v w) :=
  retE (h.mono fun _ _ ⟨he, hg⟩ => ⟨he, hg ▸ Gr.refl _⟩)

/-- ONE WALK, in the order of the text, for a region whose operations read and whose callees only make new blocks. -/
theorem wp_region_ext {P : Program} {id : Nat} {Q : Exit → Act → World → Prop} {a : Act} {w : World} {l : List Oper} (hm : P.follows .mixedOrders = true) (hB : Region.lexB .any l.toArray = true)
    (h : wpQuiet P l.toArray (fun w' => ∃ x : Ext w, w' = x.val) (fun a' => ∀ w', (∃ x : Ext w, w' = x.val) → Q .normal a' w') l a) : (Code.region id l.toArray true).wp P Q a w :=
  wp_region_quiet (C := fun w' => ∃ x : Ext w, w' = x.val) hm hB ⟨⟨w.drew, (Gr.refl _).drew⟩, rfl⟩ (by simpa using h)

/-- A contract that only makes blocks, met inside such a region. -/
theorem calls_ext {P : Program} {f : FuncId} {args : Array Value} {w : World} {v : Value} (x : Ext w)
    (h : Calls P f args x.val (RetE v x.val)) : Calls P f args x.val fun e w'' => e = .returned v ∧ ∃ y : Ext w, w'' = y.val :=
  h.mono fun _ _ ⟨he, y, hy⟩ => ⟨he, ⟨y.val, x.gr.trans y.gr⟩, hy⟩
/-- .. told of an earlier world. -/
theorem calls_gr {P : Program} {f : FuncId} {args : Array Value} {w0 w : World} {v : Value} (hg : Gr w0 w)
    (h : Calls P f args w (RetE v w)) : Calls P f args w fun e w'' => e = .returned v ∧ ∃ y : Ext w0, w'' = y.val :=
  h.mono fun _ _ ⟨he, y, hy⟩ => ⟨he, ⟨y.val, hg.trans y.gr⟩, hy⟩

/-! Sizes, at one look each. -/
theorem s1 (n : Nat) : (n < n + 1) = True := eq_true (by omega)
theorem s2 (n : Nat) : (n < n + 1 + 1) = True := eq_true (by omega)
theorem s3 (n : Nat) : (n < n + 1 + 1 + 1) = True := eq_true (by omega)
theorem s4 (n : Nat) : (n < n + 1 + 1 + 1 + 1) = True := eq_true (by omega)
theorem s5 (n : Nat) : (n < n + 1 + 1 + 1 + 1 + 1) = True := eq_true (by omega)
theorem s6 (n : Nat) : (n < n + 1 + 1 + 1 + 1 + 1 + 1) = True := eq_true (by omega)
theorem t1 (b n : Nat) (h : b < n) : (b < n + 1) = True := eq_true (by omega)
theorem t2 (b n : Nat) (h : b < n) : (b < n + 1 + 1) = True := eq_true (by omega)
theorem t3 (b n : Nat) (h : b < n) : (b < n + 1 + 1 + 1) = True := eq_true (by omega)
theorem t4 (b n : Nat) (h : b < n) : (b < n + 1 + 1 + 1 + 1) = True := eq_true (by omega)
theorem t5 (b n : Nat) (h : b < n) : (b < n + 1 + 1 + 1 + 1 + 1) = True := eq_true (by omega)
theorem t6 (b n : Nat) (h : b < n) : (b < n + 1 + 1 + 1 + 1 + 1 + 1) = True := eq_true (by omega)
end Go.Ext
