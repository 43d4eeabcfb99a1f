import Derived.Test.YtkgmienjioplaaaW9
namespace Go.Proofs.Ytkgmienjioplaaa
open Go.RowKit Go.Ext Go.BigFrame
attribute [local go_sem] Ext.cell Ext.frozen Ext.lt Ext.le s1 s2 s3 s4 s5 s6 t1 t2 t3 t4 t5 t6
attribute [local go_sem ↓] Go.wp_at_zero Go.wp_at_succ

section
variable {base : Nat} {w w' : World} {g kb : Nat} {off : Bool} {armed : Int} {keep : Value} {S sz : Nat} {K : List UInt8} {P : List Ent} {pend : Value} {writes : Int} {n : Nat}

/-- The power is on again. -/
theorem on_dk (h : DkAt base w g kb off armed keep S sz K P pend writes) : Calls Try.prog 12 #[.pointer (some ⟨g, 0, none⟩)] w
    (fun e w' => e = .returned (.tuple #[]) ∧ DkAt base w' g kb false armed keep S sz K P pend writes ∧ Kp (TK kb) base w w') :=
  (on_any h.db).mono fun _ _ ⟨h1, h2, h3⟩ => ⟨h1, h.upd h3 h2, g_kp h.db h3 h.lg⟩

/-- The bools that are kept for a cut: their own row. -/
def KeepAt (base : Nat) (w : World) (v : Value) (ks : List Bool) : Prop := w.ownsRow base 4 1 v ks.length (ks.map Value.bool)
theorem KeepAt.gr {v : Value} {ks : List Bool} (h : KeepAt base w v ks) (g : Gr w w') : KeepAt base w' v ks := own_gr h g

theorem KeepAt.mod {v : Value} {ks : List Bool} (hk : KeepAt base w v ks) (h : DB w g kb off armed keep sz n pend writes) (m : Mod (fun b => b = g) w w') : KeepAt base w' v ks := by
  refine ⟨hk.1, ?_⟩
  rcases hk.2 with h3 | ⟨g', cap, cur, hv, hb, hh, r⟩
  · exact .inl h3
  · have hdb : w.heap[g]? = _ := h
    have hne' : g' ≠ g := fun e => by subst e; rw [hdb] at hh; injection hh with hh; injection hh with _ ht _; cases ht
    exact .inr ⟨g', cap, cur, hv, hb, (m.block g' (Array.getElem?_eq_some_iff.1 hh).1 hne').trans hh, r⟩

set_option maxHeartbeats 2000000 in
/-- So many writes are left: then the power goes. -/
theorem arm_any (m : Int) (A : Option Addr) (c : Nat) (ks : List Bool) (h : DkAt base w g kb off armed keep S sz K P pend writes) (hb : Bls w A ks) (hl : ks.length ≤ 140737488351232) (hn : A = none → c = 0) (hbase : base ≤ w.heap.size) :
    Calls Try.prog 20 #[.pointer (some ⟨g, 0, none⟩), .int .i64 m, .slice A ks.length c] w
      (fun e w' => ∃ v, e = .returned (.tuple #[]) ∧ DkAt base w' g kb off (if m < 1 then 1 else m) v S sz K P pend writes ∧ Kp (TK kb) base w w' ∧ KeepAt base w' v ks) := by
  have C := hid (clone37_any A c ks hb hl hn)
  have k1 := h.db.cell 1
  have k2 := h.db.cell 2
  have f1 := h.db.frozen 1
  have f2 := h.db.frozen 2
  have hlt := h.db.lt
  simp at k1 k2
  have H := hid h
  clear h hb
  obtain ⟨a', ha'⟩ : ∃ a' : Int, (if m < 1 then 1 else m) = a' := ⟨_, rfl⟩
  rw [ha']
  go_enter Try.func20, Try.ntmps20
  go_wp2_with (go_at_call 37; (with_reducible refine C.out.mono ?_); rintro e _ ⟨v, y, rfl, rfl, ho⟩; obtain ⟨A6, n6, rfl⟩ : ∃ A6 n6, v = .slice A6 ks.length n6 := (by rcases ho.2 with ⟨rfl, h0⟩ | ⟨g', cap, cur, rfl, _⟩; exact ⟨none, 0, by rw [h0]⟩; exact ⟨_, _, rfl⟩); have HO := hid ho; clear ho)
  go_end0
  have m : Mod (fun b => b = g) y.val ((y.val.setCell ⟨g, 1, none⟩ (.int .i64 a')).setCell ⟨g, 2, none⟩ (.slice A6 ks.length n6)) := (((Gr.refl y.val).mod (fun b => b = g)).set (fun _ => rfl) _).set (fun _ => rfl) _
  have hy := H.out.gr y.gr
  exact ⟨_, rfl, hy.upd m ((hy.db.set1 a').set2 _), y.gr.kp.trans (g_kp hy.db m hy.lg), KeepAt.mod (own_base HO.out hbase) hy.db m⟩
end
end Go.Proofs.Ytkgmienjioplaaa
