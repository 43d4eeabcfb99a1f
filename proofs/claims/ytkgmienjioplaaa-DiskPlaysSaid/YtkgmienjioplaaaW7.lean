import Derived.Test.YtkgmienjioplaaaW6
namespace Go.Proofs.Ytkgmienjioplaaa
open Go.RowKit Go.Ext Go.BigFrame
attribute [local go_sem] Ext.cell Ext.frozen Ext.lt Ext.le s1 s2 s3 s4 s5 s6 t1 t2 t3 t4 t5 t6
attribute [local go_sem ↓] Go.wp_at_zero Go.wp_at_succ

/-- A slice of bools. -/
def Bls (w : World) (A : Option Addr) (ks : List Bool) : Prop := Rd w A (ks.map Value.bool)

set_option maxHeartbeats 1000000 in
theorem cut1_any (kx c j : Nat) (A : Option Addr) (ks : List Bool) (W : World) (hx : W.cell? ⟨kx, 0, none⟩ = some (.slice A ks.length c)) (hr : Bls W A ks) :
    Calls Try.prog 33 #[.int .i64 j, .pointer (some ⟨kx, 0, none⟩)] W (RetE (.bool (ks.getD j false)) W) := by
  refine retE ?_
  by_cases h : j < ks.length
  · obtain ⟨b, off, rfl, hc⟩ := hr (by intro e; have := congrArg List.length e; simp at this; rw [this] at h; simp at h)
    have h1 : W.cell? ⟨b, off + j, none⟩ = some (.bool (ks.getD j false)) := hc j _ (by simp [h, List.getD])
    generalize ks.getD j false = r at *
    clear hr hc
    go_enter Try.func33, Try.ntmps33
    go_wp2_with fail
    go_ret
    exact ⟨rfl, Gr.refl _⟩
  · have e : ks.getD j false = false := by simp [List.getD, List.getElem?_eq_none (show ks.length ≤ j by omega)]
    rw [e]
    clear e hr
    go_enter Try.func33, Try.ntmps33
    go_wp2_with fail
    go_ret
    exact ⟨rfl, Gr.refl _⟩

section
variable {base : Nat} {w w' : World} {g kb : Nat} {off : Bool} {armed : Int} {keep : Value} {S sz : Nat} {K : List UInt8} {P : List Ent} {pend : Value} {writes : Int} {n : Nat}

theorem Bls.mod {A : Option Addr} {ks : List Bool} (h : Bls w A ks) (m : Mod (fun b => b = kb) w w') (hA : ks ≠ [] → ∀ b off, A = some ⟨b, off, none⟩ → b ≠ kb) : Bls w' A ks := by
  by_cases hk : ks = []
  · subst hk; exact Rd.nil _ _
  · exact h.keep fun b ⟨off, e⟩ hb => m.block b hb (hA hk b off e)

theorem g_kp {base : Nat} (h : DB w g kb off armed keep sz n pend writes) (m : Mod (fun b => b = g) w w') (hlo : base ≤ g) : Kp (TK kb) base w w' := m.kp (by
  rintro k rfl ⟨_, h1 | ⟨cs', t, fz, h1, h2⟩⟩
  · omega
  · rw [h] at h1
    injection h1 with h1
    injection h1 with _ ht _
    subst ht
    cases h2)
/-- The disk's own block is another one. -/
theorem DkAt.upd {off' : Bool} {armed' : Int} {keep' : Value} {writes' : Int} (h : DkAt base w g kb off armed keep S sz K P pend writes) (m : Mod (fun b => b = g) w w') (hd : DB w' g kb off' armed' keep' sz (S * sz) pend writes') : DkAt base w' g kb off' armed' keep' S sz K P pend writes' := by
  obtain ⟨ys, h1, h2⟩ := h.row
  refine ⟨hd, (m.block kb (Array.getElem?_eq_some_iff.1 h.kept).1 h.ne).trans h.kept, h.size, h.s1, h.s2, h.z1, h.z2, ⟨ys, ⟨h1.1, ?_⟩, h2.kp (g_kp h.db m h.lg)⟩, h.len, h.sect, h.ne, h.lg, h.lk⟩
  rcases h1.2 with h3 | ⟨g', cap, cur, hv, hb, hh, r⟩
  · exact .inl h3
  · have hdb : w.heap[g]? = _ := h.db
    have hne' : g' ≠ g := fun e => by subst e; rw [hdb] at hh; injection hh with hh; injection hh with _ ht _; cases ht
    exact .inr ⟨g', cap, cur, hv, hb, (m.block g' (Array.getElem?_eq_some_iff.1 hh).1 hne').trans hh, r⟩

set_option maxHeartbeats 2000000 in
theorem cut_any (A : Option Addr) (c : Nat) (ks : List Bool) (h : DkAt base w g kb off armed keep S sz K P pend writes) (hb : Bls w A ks) (hA : ks ≠ [] → ∀ b off, A = some ⟨b, off, none⟩ → b ≠ kb) :
    Calls Try.prog 11 #[.pointer (some ⟨g, 0, none⟩), .slice A ks.length c] w (RetY base g kb true 0 (.slice none 0 0) S sz (layF sz (fun j => ks.getD j false) K P P.length) writes (.tuple #[]) w) := by
  have hkb : kb < w.heap.size := (Array.getElem?_eq_some_iff.1 h.kept).1
  have H := hid h
  have HB := hid hb
  have hx : ∀ W, Mod (fun b => b = kb) (w.alloc (.cells #[.slice A ks.length c] 23)) W → W.cell? ⟨w.heap.size, 0, none⟩ = some (.slice A ks.length c) := fun W m => by
    have h1 : W.heap[w.heap.size]? = _ := (m.block w.heap.size (by simp) (by omega)).trans (heap_alloc_new w _)
    rw [cell_of_row W w.heap.size 0 _ 23 (0, 0) h1]
    rfl
  have L := hid (lay_dk 33 #[.pointer (some ⟨w.heap.size, 0, none⟩)] (fun j => ks.getD j false) (h.gr ((Gr.refl w).alloc (.cells #[.slice A ks.length c] 23))) callFunc33
    (fun j W _ m => by
      have := cut1_any w.heap.size c j A ks W (hx W m) (Bls.mod (w := w.alloc (.cells #[.slice A ks.length c] 23)) (Rd.gr hb ((Gr.refl w).alloc _)) m hA)
      simpa using this))
  clear h hb hx
  go_enter Try.func11, Try.ntmps11
  go_wp2_with (go_at_call 32; (with_reducible refine L.out.mono ?_); rintro e w2 ⟨rfl, h2, h3⟩; have H2 := hid h2; have H3 := hid h3; have k0 := h2.db.cell 0; have k1 := h2.db.cell 1; have k2 := h2.db.cell 2; have f0 := h2.db.frozen 0; have f1 := h2.db.frozen 1; have f2 := h2.db.frozen 2; simp at k0 k1 k2; clear h2 h3)
  go_end0
  have m : Mod (fun b => b = g) w2 (((w2.setCell ⟨g, 0, none⟩ (.bool true)).setCell ⟨g, 1, none⟩ (.int .i64 0)).setCell ⟨g, 2, none⟩ (.slice none 0 0)) := ((((Gr.refl w2).mod (fun b => b = g)).set (fun _ => rfl) _).set (fun _ => rfl) _).set (fun _ => rfl) _
  exact ⟨rfl, H2.out.upd m (((H2.out.db.set0 true).set1 0).set2 _), (((Gr.refl w).alloc _).mod _).trans (H3.out.trans m (fun _ _ h => .inr h)) (fun _ _ h => h)⟩
end
end Go.Proofs.Ytkgmienjioplaaa
