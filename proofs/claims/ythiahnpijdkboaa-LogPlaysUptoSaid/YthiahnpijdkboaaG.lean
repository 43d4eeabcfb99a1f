import Derived.Test.YthiahnpijdkboaaW8
namespace Go.Proofs.Ythiahnpijdkboaa
open Go.RowKit Go.Ext Go.BigFrame
attribute [local go_sem] Ext.cell Ext.frozen Ext.lt Ext.le s1 s2 s3 s4 s5 s6 t1 t2 t3 t4 t5 t6
attribute [local go_sem ↓] Go.wp_at_zero Go.wp_at_succ

/-- The entries from a place on, up to another one. -/
def getL (idx : Int) (L : List Ent) (a b : Int) : List Ent :=
  (L.take (min b (idx + 1 + L.length) - (idx + 1)).toNat).drop (max a (idx + 1) - (idx + 1)).toNat

theorem rd_take {w : World} {A : Option Addr} {xs : List Value} {n : Nat} (h : Rd w A xs) : Rd w A (xs.take n) := fun hn => by
  obtain ⟨b, off, rfl, hc⟩ := h (by rintro rfl; simp at hn)
  refine ⟨b, off, rfl, fun j u hu => hc j u ?_⟩
  rw [List.getElem?_take] at hu
  split at hu
  · exact hu
  · cases hu

set_option maxHeartbeats 2000000 in
theorem get_any (base g : Nat) (idx term a b : Int) (L : List Ent) (v : Value) (w : World) (h : LogAt base w g idx term L v) (hb : base ≤ w.heap.size) :
    Calls Try.prog 18 #[.pointer (some ⟨g, 0, none⟩), .int .i64 a, .int .i64 b] w (RetP (fun w' v => OwnE base w.heap.size w' v (getL idx L a b)) w) := by
  have b2 := h.i0
  have b3 := h.i1
  have b4 := h.len
  have b6 := h.lt
  have H := hid h
  clear h
  obtain ⟨Av, cv, rfl, hsv, hcv⟩ := H.out.slice
  have HSV := hid hsv
  clear hsv
  have g2 : w.cell? ⟨g, 2, none⟩ = some (.slice Av L.length cv) := by have := H.out.cell 2; simpa using this
  have CF := fun (w' : World) (hg : Gr w w') => hid (first_any base g idx term L (.slice Av L.length cv) w' (H.out.gr hg))
  have nil : ∀ (y : Ext w), getL idx L a b = [] → RetP (fun w' v => OwnE base w.heap.size w' v (getL idx L a b)) w (.returned (.slice none 0 0)) y.val := by
    intro y e
    rw [e]
    exact ⟨.slice none 0 0, y, rfl, rfl, [], World.ownsRow_nil _ _ _ _, ents_nil _ _⟩
  by_cases hle : (if idx + 1 + L.length < b then idx + 1 + (L.length : Int) else b) ≤ (if a < idx + 1 then idx + 1 else a)
  · have e0 : getL idx L a b = [] := by
      unfold getL
      refine List.drop_eq_nil_of_le ?_
      rw [List.length_take]
      split at hle <;> split at hle <;> omega
    have NIL := hid fun y => nil y e0
    clear nil e0
    obtain ⟨F, hF⟩ : ∃ F, (if a < idx + 1 then idx + 1 else a) = F := ⟨_, rfl⟩
    obtain ⟨U, hU⟩ : ∃ U, (if idx + 1 + L.length < b then idx + 1 + (L.length : Int) else b) = U := ⟨_, rfl⟩
    rw [hF, hU] at hle
    go_enter Try.func18, Try.ntmps18
    go_wp2_with fail
    refine wp_region_ext (by kernel_rfl) (by kernel_rfl) ?_
    repeat (go_big_quiet_step (first | (go_at_call 21; rename_i x; exact calls_ext _ (CF _ (Ext.gr _)).out)))
    refine wpQuiet_nil ?_
    rintro _ ⟨x, rfl⟩
    go_wp2_with fail
    go_ret
    exact NIL.out x
  · clear nil
    obtain ⟨p, hp⟩ : ∃ p : Nat, (if a < idx + 1 then idx + 1 else a) = idx + 1 + p := by
      split
      · exact ⟨0, by omega⟩
      · exact ⟨(a - (idx + 1)).toNat, by omega⟩
    obtain ⟨q, hq⟩ : ∃ q : Nat, (if idx + 1 + L.length < b then idx + 1 + (L.length : Int) else b) = idx + 1 + q := by
      split
      · exact ⟨L.length, by omega⟩
      · rw [hp] at hle
        split at hle
        · omega
        · exact ⟨(b - (idx + 1)).toNat, by omega⟩
    have hpq : p < q := by rw [hp, hq] at hle; omega
    have hqn : q ≤ L.length := by split at hq <;> omega
    have e0 : getL idx L a b = (L.take q).drop p := by
      unfold getL
      have e1 : (min b (idx + 1 + L.length) - (idx + 1)).toNat = q := by split at hq <;> omega
      have e2 : (max a (idx + 1) - (idx + 1)).toNat = p := by split at hp <;> omega
      rw [e1, e2]
    rw [e0]
    clear e0 hle
    obtain ⟨xs, h1, h2⟩ := HSV.out
    obtain ⟨blk, off, rfl, hc⟩ := h1 (by rintro rfl; have := h2.1; simp at this; omega)
    have HSQ := hid (show Sl base w (some ⟨blk, off + p * 2, none⟩) ((L.take q).drop p) from Sl.drop ⟨xs.take (q * 2), rd_take h1, h2.take q hqn⟩ p)
    have hdl : ((L.take q).drop p).length = q - p := by simp; omega
    clear h1 h2 hc
    generalize (L.take q).drop p = M at *
    have ew : IntKind.i64.wrap (p : Int) = (p : Int) := IntWalk.i64_in _ (by omega)
    have ew2 : IntKind.i64.wrap (q : Int) = (q : Int) := IntWalk.i64_in _ (by omega)
    have e3 : idx + 1 + (p : Int) - (idx + 1) = (p : Int) := by omega
    have e4 : idx + 1 + (q : Int) - (idx + 1) = (q : Int) := by omega
    go_enter Try.func18, Try.ntmps18
    go_wp2_with fail
    refine wp_region_ext (by kernel_rfl) (by kernel_rfl) ?_
    repeat (go_big_quiet_step (first | (go_at_call 21; rename_i x; exact calls_ext _ (CF _ (Ext.gr _)).out)))
    refine wpQuiet_nil ?_
    rintro _ ⟨x, rfl⟩
    go_wp2_with (first | (go_at_call 21; (with_reducible refine (CF _ x.gr).out.mono ?_); rintro e _ ⟨rfl, y1, rfl⟩) | (go_at_call 21; (with_reducible refine (calls_ext y1 (CF _ (x.gr.trans y1.gr)).out).mono ?_); rintro e _ ⟨rfl, y2, rfl⟩))
    go_at_call 28
    refine (calls_grP (w0 := w) (x.gr.trans y2.gr) (twins_n base (q - p) _ _ M _ hdl.symm (HSQ.out.gr (x.gr.trans y2.gr)) (by omega) (Nat.le_trans hb (x.gr.trans y2.gr).size))).mono ?_
    rintro e _ ⟨v6, y6, rfl, rfl, B6, hB6, ho6⟩
    have HO := hid ho6
    clear ho6
    go_wp2_with fail
    go_ret
    obtain ⟨zs, o1, o2⟩ := HO.out
    exact ⟨v6, y6, rfl, rfl, zs, own_base o1 hB6, o2⟩
end Go.Proofs.Ythiahnpijdkboaa
