import Derived.Test.YtlencagfkajcnaaN2
import Derived.Deep.Onto
namespace Go.Proofs.Ytlencagfkajcnaa
open Go.RowKit Go.Ext Go.BigFrame Go.Maps
attribute [local go_sem] Ext.cell Ext.frozen Ext.lt Ext.le s1 s2 s3 s4 s5 s6 t1 t2 t3 t4 t5 t6
attribute [local go_sem ↓] Go.wp_at_zero Go.wp_at_succ

theorem heap4 {W : World} {B t : Nat} {v0 v1 v2 v3 : Value} (h : W.heap[B]? = some (.cells #[v0, v1, v2, v3] t (0, 0))) :
    W.cell? ⟨B, 0, none⟩ = some v0 ∧ W.cell? ⟨B, 1, none⟩ = some v1 ∧ W.cell? ⟨B, 2, none⟩ = some v2 ∧ W.cell? ⟨B, 3, none⟩ = some v3 ∧
    W.frozen? ⟨B, 0, none⟩ = false ∧ W.frozen? ⟨B, 1, none⟩ = false ∧ W.frozen? ⟨B, 2, none⟩ = false ∧ W.frozen? ⟨B, 3, none⟩ = false := by
  refine ⟨?_, ?_, ?_, ?_, ?_, ?_, ?_, ?_⟩ <;> simp [World.cell?, World.frozen?, h]
theorem set1_heap {w : World} {B j : Nat} {t : TypeId} {cs : Array Value} (h : w.heap[B]? = some (.cells cs t (0, 0))) (v : Value) : (w.setCell ⟨B, j, none⟩ v).heap[B]? = some (.cells (cs.setIfInBounds j v) t (0, 0)) := by
  rw [setCell_eq_setRow w B j cs t (0, 0) v h]
  exact setRow_heap w B _ _ t _ h
theorem set4_heap {w : World} {B : Nat} {t : TypeId} {u0 u1 u2 u3 : Value} (h : w.heap[B]? = some (.cells #[u0, u1, u2, u3] t (0, 0))) (v0 v1 v2 v3 : Value) :
    ((((w.setCell ⟨B, 0, none⟩ v0).setCell ⟨B, 1, none⟩ v1).setCell ⟨B, 2, none⟩ v2).setCell ⟨B, 3, none⟩ v3).heap[B]? = some (.cells #[v0, v1, v2, v3] t (0, 0)) := by
  have h3 := set1_heap (set1_heap (set1_heap (set1_heap h (j := 0) v0) (j := 1) v1) (j := 2) v2) (j := 3) v3
  simpa using h3
theorem set4 (w : World) (B : Nat) (u0 u1 u2 u3 : Value) : Mod (fun k => k = B) w ((((w.setCell ⟨B, 0, none⟩ u0).setCell ⟨B, 1, none⟩ u1).setCell ⟨B, 2, none⟩ u2).setCell ⟨B, 3, none⟩ u3) :=
  (((((Gr.refl w).mod (fun k => k = B)).set (p := ⟨B, 0, none⟩) (fun _ => rfl) u0).set (p := ⟨B, 1, none⟩) (fun _ => rfl) u1).set (p := ⟨B, 2, none⟩) (fun _ => rfl) u2).set (p := ⟨B, 3, none⟩) (fun _ => rfl) u3
theorem gr4 {a w : World} (g : Gr a w) (B : Nat) (hB : a.heap.size ≤ B) (u0 u1 u2 u3 : Value) : Gr a ((((w.setCell ⟨B, 0, none⟩ u0).setCell ⟨B, 1, none⟩ u1).setCell ⟨B, 2, none⟩ u2).setCell ⟨B, 3, none⟩ u3) :=
  (((g.set (p := ⟨B, 0, none⟩) hB u0).set (p := ⟨B, 1, none⟩) hB u1).set (p := ⟨B, 2, none⟩) hB u2).set (p := ⟨B, 3, none⟩) hB u3

/-- A twin: new bytes. -/
theorem twin_any (f t n : Int) (A : Option Addr) (l c : Nat) (bs : List UInt8) (w : World) (hd : Bys w (.slice A l c) bs) :
    Calls Try.prog 26 #[.agg #[.int .i64 f, .int .i64 t, .int .i64 n, .slice A l c]] w (fun e w' => ∃ A' c', e = .returned (.agg #[.int .i64 f, .int .i64 t, .int .i64 n, .slice A' bs.length c']) ∧ Gr w w' ∧ w'.ownsRow w.heap.size 5 1 (.slice A' bs.length c') bs.length (bc bs)) := by
  have HC := hid (fun W (y : Gr w W) => clone_any (.slice A l c) bs W (hd.gr y))
  clear hd
  go_enter Try.func26, Try.ntmps26
  go_wp2_with (go_at_call 22
               refine (HC.out _ (((Gr.refl w).alloc _).alloc _)).mono ?_
               rintro en _ ⟨v, y, rfl, rfl, ho⟩
               obtain ⟨A', c', rfl⟩ := own_shape ho
               have HO := hid ho
               have HB0 := hid ((y.gr.block w.heap.size (by simp; omega)).trans ((((Gr.refl (w.alloc (.cells #[.int .i64 f, .int .i64 t, .int .i64 n, .slice A l c] 33))).alloc (.cells #[.int .i64 0, .int .i64 0, .int .i64 0, .slice none 0 0] 33)).block w.heap.size (by simp)).trans (heap_alloc_new w _)))
               obtain ⟨b0, b1, b2, b3, f0, f1, f2, f3⟩ := heap4 HB0.out
               have k0 : w.heap.size < y.val.heap.size := (Array.getElem?_eq_some_iff.1 HB0.out).1
               clear ho)
  have h26 : y.val.heap[w.heap.size + 1]? = some (.cells #[.int .i64 0, .int .i64 0, .int .i64 0, .slice none 0 0] 33 (0, 0)) := (y.gr.block (w.heap.size + 1) (by simp)).trans (by
    have := heap_alloc_new (w.alloc (.cells #[.int .i64 f, .int .i64 t, .int .i64 n, .slice A l c] 33)) (.cells #[.int .i64 0, .int .i64 0, .int .i64 0, .slice none 0 0] 33)
    rw [show (w.alloc (.cells #[.int .i64 f, .int .i64 t, .int .i64 n, .slice A l c] 33)).heap.size = w.heap.size + 1 by simp] at this
    exact this)
  have G1 := hid (show Gr w y.val from ((((Gr.refl w).alloc _).alloc _).ext y))
  have ho : y.val.ownsRow (w.heap.size + 1 + 1) 5 1 (.slice A' bs.length c') bs.length (bc bs) := by
    have := HO.out
    simpa using this
  have hob : ∀ k, (Value.slice A' bs.length c').ownBlock = some k → k ≠ w.heap.size ∧ k ≠ w.heap.size + 1 := fun k e => by
    have := (ho.lt k e).1
    constructor <;> omega
  have M1 := ((Gr.refl y.val).mod (fun k => k = w.heap.size)).set (p := ⟨w.heap.size, 3, none⟩) (fun _ => rfl) (.slice A' bs.length c')
  have h27 := (M1.block (w.heap.size + 1) (Array.getElem?_eq_some_iff.1 h26).1 (by omega)).trans h26
  obtain ⟨r0, r1, r2, r3, _⟩ := heap4 (set4_heap h27 (.int .i64 f) (.int .i64 t) (.int .i64 n) (.slice A' bs.length c'))
  refine bodyPost_ret (v := .agg #[.int .i64 f, .int .i64 t, .int .i64 n, .slice A' bs.length c']) (by simp [results, Try.results26, go_sem, r0, r1, r2, r3]) rfl ⟨A', c', rfl, ?_, ?_⟩
  · exact gr4 (G1.out.set (p := ⟨w.heap.size, 3, none⟩) (Nat.le_refl _) _) (w.heap.size + 1) (by omega) _ _ _ _
  · have h2 := own_mod ho M1 (fun k e e2 => (hob k e).1 e2)
    have h3 := own_mod h2 (set4 _ (w.heap.size + 1) (.int .i64 f) (.int .i64 t) (.int .i64 n) (.slice A' bs.length c')) (fun k e e2 => (hob k e).2 e2)
    exact h3.mono (by omega)
end Go.Proofs.Ytlencagfkajcnaa
