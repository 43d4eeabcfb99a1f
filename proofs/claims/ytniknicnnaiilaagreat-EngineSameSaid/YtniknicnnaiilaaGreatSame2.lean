/- Lemmas: what the functions of the engine answer, and which blocks they write. -/
import Derived.Test.YtniknicnnaiilaaGreatSame1
section
namespace Go.Proofs.YtniknicnnaiilaaGreat
set_option maxRecDepth 100000
open Go.RowKit Go.Ext Go.BigFrame Go.Maps Go.MapKept
attribute [local go_sem] Ext.cell Ext.frozen Ext.lt Ext.le s1 s2 s3 s4 s5 s6 t1 t2 t3 t4 t5 t6
attribute [local go_sem ↓] Go.wp_at_zero Go.wp_at_succ
open Go.ChangeShapes Go.WideShapes Go.ChangeAt Go.Joins Go.Deep
section
variable {H : Type} {enc : TypeId × Value → H}
theorem ans_read {W : World} {b0 : Nat} {v : Value} {d : DataW H} {p : List MemPlace} (hv : Value.okWide Tryz.prog W .any b0 31 v) (h : DataW.Trod enc Tryz.prog W 0 (fun _ => true) true 31 v d p) (hz : ∀ n ∈ d.weights Tryz.prog 31, n ≤ reachBytes) :
    ∃ (a : Ans) (da ea : Value), v = ansV a da ea ∧ Bys W da a.data ∧ RecsM evR W (fun _ => False) ea a.events := by
  obtain ⟨cs, rfl, hsz⟩ := okWide_struct Tryz.underlying31 hv
  obtain ⟨fuel, hf⟩ := h
  have h10 : cs.size = 10 := hsz.trans (by kernel_rfl)
  rcases cs with ⟨cs⟩
  simp only [List.size_toArray] at h10
  obtain ⟨c0, c1, c2, c3, c4, c5, c6, c7, c8, c9, rfl⟩ : ∃ c0 c1 c2 c3 c4 c5 c6 c7 c8 c9, cs = [c0, c1, c2, c3, c4, c5, c6, c7, c8, c9] := by
    rcases cs with _ | ⟨c0, _ | ⟨c1, _ | ⟨c2, _ | ⟨c3, _ | ⟨c4, _ | ⟨c5, _ | ⟨c6, _ | ⟨c7, _ | ⟨c8, _ | ⟨c9, _ | ⟨c10, cs⟩⟩⟩⟩⟩⟩⟩⟩⟩⟩⟩ <;> simp at h10
    exact ⟨_, _, _, _, _, _, _, _, _, _, rfl⟩
  simp only [Value.cells] at hf
  obtain ⟨ys, n', hn', hy, hlen, hyl, hfl⟩ := DataW.trod_struct Tryz.underlying31 hf
  have k26 : Tryz.prog.cellsOf 26 = 1 := by kernel_rfl
  have k3 : Tryz.prog.cellsOf 3 = 1 := by kernel_rfl
  have k4 : Tryz.prog.cellsOf 4 = 1 := by kernel_rfl
  have k28 : Tryz.prog.cellsOf 28 = 4 := by kernel_rfl
  have k22 : Tryz.prog.cellsOf 22 = 1 := by kernel_rfl
  have k29 : Tryz.prog.cellsOf 29 = 1 := by kernel_rfl
  obtain ⟨y0, y1, y2, y3, y4, y5, y6, rfl⟩ : ∃ y0 y1 y2 y3 y4 y5 y6, ys = [y0, y1, y2, y3, y4, y5, y6] := by
    simp at hyl
    rcases ys with _ | ⟨y0, _ | ⟨y1, _ | ⟨y2, _ | ⟨y3, _ | ⟨y4, _ | ⟨y5, _ | ⟨y6, _ | ⟨y7, ys⟩⟩⟩⟩⟩⟩⟩⟩ <;> simp at hyl
    exact ⟨_, _, _, _, _, _, _, rfl⟩
  have t0 := hfl 0 _ rfl
  have t1 := hfl 1 _ rfl
  have t2 := hfl 2 _ rfl
  have t3 := hfl 3 _ rfl
  have t4 := hfl 4 _ rfl
  have t5 := hfl 5 _ rfl
  have t6 := hfl 6 _ rfl
  simp only [List.getElem_toArray, List.getElem_cons_zero, List.getElem_cons_succ] at t0 t1 t2 t3 t4 t5 t6
  rw [k26] at t0
  rw [k3] at t1
  rw [k3] at t2
  rw [k4] at t3
  rw [k28] at t4
  rw [k22] at t5
  rw [k29] at t6
  simp at t0 t1 t2 t3 t4 t5 t6
  obtain ⟨z0, e0, _, _⟩ := DataW.trod_int Tryz.underlying26 t0
  obtain ⟨z1, e1, _, _⟩ := DataW.trod_int Tryz.underlying3 t1
  obtain ⟨z2, e2, _, _⟩ := DataW.trod_int Tryz.underlying3 t2
  obtain ⟨z3, e3, _⟩ := DataW.trod_bool Tryz.underlying4 t3
  injection e0 with e0
  injection e1 with e1
  injection e2 with e2
  injection e3 with e3
  subst e0 e1 e2 e3
  obtain ⟨us, n2, _, hu, _, hul, hfu⟩ := DataW.trod_struct Tryz.underlying28 t4
  obtain ⟨u0, u1, u2, u3, rfl⟩ : ∃ u0 u1 u2 u3, us = [u0, u1, u2, u3] := by
    simp at hul
    rcases us with _ | ⟨u0, _ | ⟨u1, _ | ⟨u2, _ | ⟨u3, _ | ⟨u4, us⟩⟩⟩⟩⟩ <;> simp at hul
    exact ⟨_, _, _, _, rfl⟩
  have q0 := hfu 0 _ rfl
  have q1 := hfu 1 _ rfl
  have q2 := hfu 2 _ rfl
  have q3 := hfu 3 _ rfl
  simp only [List.getElem_toArray, List.getElem_cons_zero, List.getElem_cons_succ] at q0 q1 q2 q3
  rw [k3] at q0
  rw [k3] at q1
  rw [k3] at q2
  rw [k3] at q3
  simp at q0 q1 q2 q3
  obtain ⟨x0, f0, _, _⟩ := DataW.trod_int Tryz.underlying3 q0
  obtain ⟨x1, f1, _, _⟩ := DataW.trod_int Tryz.underlying3 q1
  obtain ⟨x2, f2, _, _⟩ := DataW.trod_int Tryz.underlying3 q2
  obtain ⟨x3, f3, _, _⟩ := DataW.trod_int Tryz.underlying3 q3
  injection f0 with f0
  injection f1 with f1
  injection f2 with f2
  injection f3 with f3
  subst f0 f1 f2 f3
  injection hy with hy _
  rw [hy] at hz
  simp only [DataW.weights, Tryz.underlying31] at hz
  obtain ⟨bs, hbs⟩ := bys_trod t5 (fun q hq => hz q (DataW.weights_mem_each (j := 5) (t := 22) (d := y5.1) rfl rfl q hq))
  obtain ⟨l, hl⟩ := evs_trod t6 (fun q hq => hz q (DataW.weights_mem_each (j := 6) (t := 29) (d := y6.1) rfl rfl q hq))
  exact ⟨⟨z0, z1, z2, z3, ⟨x0, x1, x2, x3⟩, bs, l⟩, _, _, rfl, hbs, hl⟩
end
end Go.Proofs.YtniknicnnaiilaaGreat
end
