import Derived.Test.YtdgkgmlnjolloaaDoorS2
namespace Go.Proofs.YtdgkgmlnjolloaaDoor
open Go.RowKit Go.Ext Go.BigFrame
attribute [local go_sem] Ext.cell Ext.frozen Ext.lt Ext.le s1 s2 s3 s4 s5 s6 t1 t2 t3 t4 t5 t6
attribute [local go_sem ↓] Go.wp_at_zero Go.wp_at_succ

/-! ### What it says -/
/-- The number's own word. -/
noncomputable def eb : Option Int → ByteArray
  | some n => Classical.choose (errno_any n)
  | none => ⟨#[120]⟩
def colon : ByteArray := ⟨#[58, 32]⟩
noncomputable def txt (b : Option Int) : List ByteArray → ByteArray
  | [] => eb b
  | x :: r => (x ++ colon) ++ txt b r
theorem errno_eb (n : Int) (w : World) : Calls Tryd.prog 9 #[.int .i64 n] w (RetE (.string (eb (some n))) w) := (Classical.choose_spec (errno_any n)).2 w
theorem eb_size (b : Option Int) : (eb b).size ≤ 7 := by
  cases b with
  | none => decide
  | some n => exact (Classical.choose_spec (errno_any n)).1
theorem plain_any (s : ByteArray) (w : World) : Calls Tryd.prog 45 #[.string s] w (RetE (.string s) w) := by
  refine retE ?_
  go_enter Tryd.func45, Tryd.ntmps45
  go_wp2_with fail
  go_ret
  exact ⟨rfl, Gr.refl _⟩

theorem txt_cons_size (b : Option Int) (x : ByteArray) (r : List ByteArray) : (txt b (x :: r)).size = x.size + 2 + (txt b r).size := by
  simp only [txt, ByteArray.size_append]
  rfl
set_option maxRecDepth 100000 in
set_option maxHeartbeats 2000000 in
theorem said_any (b : Option Int) : ∀ (r : List ByteArray) (x : ByteArray) (k : Nat) (u : Value) (w : World) (_ : w.heap[k]? = some (.cells #[.string x, u] 61 (0, 0))) (_ : Ch w r b u) (_ : (txt b (x :: r)).size ≤ 1000000),
    Calls Tryd.prog 49 #[.pointer (some ⟨k, 0, none⟩)] w (RetE (.string (txt b (x :: r))) w) := by
  have m1 := V.mError59
  have m2 := V.mError29
  have m3 := V.mError41
  intro r
  induction r with
  | nil =>
    intro x k u w hb hc hl
    rw [txt_cons_size] at hl
    have c0 : w.cell? ⟨k, 0, none⟩ = some (.string x) := by simp [World.cell?, hb]
    have c1 : w.cell? ⟨k, 1, none⟩ = some u := by simp [World.cell?, hb]
    have hlt : k < w.heap.size := (Array.getElem?_eq_some_iff.1 hb).1
    have a1 : ∀ W, (Op.stringOp .add x ⟨#[58, 32]⟩).run Tryd.prog W = .ok (.string (x ++ colon)) W := fun W => run_string_add_sum W _ _ (by have : (⟨#[58, 32]⟩ : ByteArray).size = 2 := rfl; omega)
    cases b with
    | none =>
      have a2 : ∀ W, (Op.stringOp .add (x ++ colon) ⟨#[120]⟩).run Tryd.prog W = .ok (.string ((x ++ colon) ++ ⟨#[120]⟩)) W := fun W => run_string_add_sum W _ _ (by rw [ByteArray.size_append]; have : colon.size = 2 := rfl; have : (⟨#[120]⟩ : ByteArray).size = 1 := rfl; omega)
      simp only [Ch, bv] at hc
      subst hc
      refine retE ?_
      clear hb hl
      go_enter Tryd.func49, Tryd.ntmps49
      go_wp2_with fail
      refine wp_region_ext (by kernel_rfl) (by kernel_rfl) ?_
      repeat (go_big_quiet_step ((go_at_call 45; exact calls_ext _ (plain_any _ _))))
      refine wpQuiet_nil ?_
      rintro _ ⟨x, rfl⟩
      go_wp2_with fail
      go_ret
      exact ⟨rfl, x.gr⟩
    | some n =>
      have HE := hid (fun W => errno_eb n W)
      have hs := eb_size (some n)
      simp only [Ch, bv] at hc
      subst hc
      simp only [txt] at hl ⊢
      generalize eb (some n) = e at *
      have a2 : ∀ W, (Op.stringOp .add (x ++ colon) e).run Tryd.prog W = .ok (.string ((x ++ colon) ++ e)) W := fun W => run_string_add_sum W _ _ (by rw [ByteArray.size_append]; have : colon.size = 2 := rfl; omega)
      refine retE ?_
      clear hb hl hs
      go_enter Tryd.func49, Tryd.ntmps49
      go_wp2_with fail
      refine wp_region_ext (by kernel_rfl) (by kernel_rfl) ?_
      repeat (go_big_quiet_step ((go_at_call 9; exact calls_ext _ (HE.out _))))
      refine wpQuiet_nil ?_
      rintro _ ⟨x, rfl⟩
      go_wp2_with fail
      go_ret
      exact ⟨rfl, x.gr⟩
  | cons y r ih =>
    intro x k u w hb hc hl
    rw [txt_cons_size] at hl
    rw [txt]
    obtain ⟨k2, u2, rfl, hb2, hc2⟩ := hc
    have HI := hid (fun W (g : Gr w W) => ih y k2 u2 W ((g.block k2 (Array.getElem?_eq_some_iff.1 hb2).1).trans hb2) (hc2.gr g) (by omega))
    clear ih
    have c0 : w.cell? ⟨k, 0, none⟩ = some (.string x) := by simp [World.cell?, hb]
    have c1 : w.cell? ⟨k, 1, none⟩ = some (.iface 59 (.pointer (some ⟨k2, 0, none⟩))) := by simp [World.cell?, hb]
    have hlt : k < w.heap.size := (Array.getElem?_eq_some_iff.1 hb).1
    generalize txt b (y :: r) = e at *
    have a1 : ∀ W, (Op.stringOp .add x ⟨#[58, 32]⟩).run Tryd.prog W = .ok (.string (x ++ colon)) W := fun W => run_string_add_sum W _ _ (by have : (⟨#[58, 32]⟩ : ByteArray).size = 2 := rfl; omega)
    have a2 : ∀ W, (Op.stringOp .add (x ++ colon) e).run Tryd.prog W = .ok (.string ((x ++ colon) ++ e)) W := fun W => run_string_add_sum W _ _ (by rw [ByteArray.size_append]; have : colon.size = 2 := rfl; omega)
    refine retE ?_
    clear hb hl hb2 hc2
    go_enter Tryd.func49, Tryd.ntmps49
    go_wp2_with fail
    refine wp_region_ext (by kernel_rfl) (by kernel_rfl) ?_
    repeat (go_big_quiet_step ((go_at_call 49; rename_i x; exact calls_ext _ (HI.out _ (Ext.gr _)))))
    refine wpQuiet_nil ?_
    rintro _ ⟨x, rfl⟩
    go_wp2_with fail
    go_ret
    exact ⟨rfl, x.gr⟩

/-- What 'Error' of such an error answers. -/
theorem method_any {ws : List ByteArray} {b : Option Int} {v : Value} {w : World} (h : Ch w ws b v) : ∃ t x f, (f = 45 ∨ f = 9 ∨ f = 49) ∧ v = .iface t x ∧ (∀ W, (Go.method 207 t x "Error").run Tryd.prog W = .ok (f, x) W) ∧ ((txt b ws).size ≤ 1000000 → ∀ W, Gr w W → Calls Tryd.prog f #[x] W (RetE (.string (txt b ws)) W)) := by
  cases ws with
  | nil =>
    cases b with
    | none => exact ⟨41, _, 45, .inl rfl, h, V.mError41 _, fun _ W _ => plain_any _ W⟩
    | some n => exact ⟨29, _, 9, .inr (.inl rfl), h, V.mError29 _, fun _ W _ => errno_eb n W⟩
  | cons x r =>
    obtain ⟨k, u, rfl, hb, hc⟩ := h
    exact ⟨59, _, 49, .inr (.inr rfl), rfl, V.mError59 _, fun hl W g => said_any b r x k u W ((g.block k (Array.getElem?_eq_some_iff.1 hb).1).trans hb) (hc.gr g) hl⟩
end Go.Proofs.YtdgkgmlnjolloaaDoor
