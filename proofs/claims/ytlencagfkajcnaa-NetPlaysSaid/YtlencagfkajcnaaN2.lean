import Derived.Test.YtlencagfkajcnaaN1
import Derived.Test.YtlencagfkajcnaaI2
import Derived.Test.YtlencagfkajcnaaD1
import Derived.Laws.ResultCell
namespace Go.Proofs.Ytlencagfkajcnaa
open Go.RowKit Go.Ext Go.BigFrame Go.Maps
attribute [local go_sem] Ext.cell Ext.frozen Ext.lt Ext.le s1 s2 s3 s4 s5 s6 t1 t2 t3 t4 t5 t6
attribute [local go_sem ↓] Go.wp_at_zero Go.wp_at_succ

theorem own_mod {S : Nat → Prop} {w w' : World} {B e size n : Nat} {v : Value} {xs : List Value} (h : w.ownsRow B e size v n xs) (m : Mod S w w') (hS : ∀ k, v.ownBlock = some k → ¬ S k) : w'.ownsRow B e size v n xs := by
  refine ⟨h.1, ?_⟩
  rcases h.2 with h2 | ⟨g', cap, cur, hv, hb, hh, r⟩
  · exact .inl h2
  · exact .inr ⟨g', cap, cur, hv, hb, (m.block g' (Array.getElem?_eq_some_iff.1 hh).1 (hS g' (by rw [hv]; rfl))).trans hh, r⟩
theorem own_gr {w w' : World} {B e size n : Nat} {v : Value} {xs : List Value} (h : w.ownsRow B e size v n xs) (g : Gr w w') : w'.ownsRow B e size v n xs := own_mod h (g.mod fun _ => False) fun _ _ h => h
theorem own_shape {w : World} {B e s : Nat} {v : Value} {n : Nat} {xs : List Value} (h : w.ownsRow B e s v n xs) : ∃ A c, v = .slice A n c := by
  rcases h.2 with ⟨rfl, h0⟩ | ⟨g, cap, cur, rfl, _⟩
  · exact ⟨none, 0, by rw [h0]⟩
  · exact ⟨_, _, rfl⟩

theorem info5 : (Try.prog.info? 5).map (fun i => (i.zero, i.size, i.bytes)) = some (some (.int .u8 0), 1, 1) := by kernel_rfl

/-- The slice reads as these bytes; a nil slice has no room. -/
def Bys (w : World) (v : Value) (bs : List UInt8) : Prop := ∃ A c, v = .slice A bs.length c ∧ bs.length ≤ 140737488351232 ∧ Rd w A (bc bs) ∧ (A = none → c = 0)
theorem Bys.gr {w w' : World} {v : Value} {bs : List UInt8} (h : Bys w v bs) (g : Gr w w') : Bys w' v bs := by
  obtain ⟨A, c, e, h1, h2, h3⟩ := h
  exact ⟨A, c, e, h1, h2.gr g, h3⟩

set_option maxHeartbeats 1000000 in
theorem clone_any (d : Value) (bs : List UInt8) (w : World) (hd : Bys w d bs) :
    Calls Try.prog 22 #[d] w (RetP (fun w' v => w'.ownsRow w.heap.size 5 1 v bs.length (bc bs)) w) := by
  obtain ⟨A, c, rfl, hl, hr, hnc⟩ := hd
  obtain ⟨i0, hi0, hz0, hz1, hz2⟩ := info_parts info5
  have he := fun (w : World) (n c n' c' : Nat) (a : Option Addr) => Lib.run_eql_slice_nil (P := Try.prog) w 22 5 a n c n' c' Try.underlying22
  rcases A with _ | ad
  · have : bs = [] := by
      by_cases hb : bs = []
      · exact hb
      · obtain ⟨b, off, e, _⟩ := hr (by simpa [bc] using hb); cases e
    subst this
    have hc0 := hnc rfl
    subst hc0
    go_enter Try.func22, Try.ntmps22
    go_wp2_with fail
    go_ret
    exact ⟨.slice none 0 0, ⟨w, Gr.refl _⟩, rfl, rfl, World.ownsRow_nil _ _ _ _⟩
  · have hr1 := hid (hr.gr ((Gr.refl w).alloc (.cells #[] 5)))
    clear hr hnc
    go_enter Try.func22, Try.ntmps22
    go_wp2_with (at_builtin; refine wpList_append_own _ rfl _ _ 22 rfl w.heap.size 5 i0 _ 1 1 Try.underlying22 hi0 hz0 hz1 hz2 rfl (by decide) (.slice (some ⟨w.heap.size, 0, none⟩) 0 0) 0 [] rfl (World.ownsRow_made w #[] 0 (Nat.le_refl _) (by decide) rfl) ad bs.length c (bc bs) rfl (by simp [bc_length]) hr1.out.add (bc_one bs) (by unfold maxLen; omega) (by omega) (by simp) ?_; intro v1 w1 hown1 hg1 _)
    go_ret
    have hgr : Gr w w1 := gr_grown ((Gr.refl w).alloc _) hg1 (by intro k hk; simp [Value.ownBlock] at hk; omega)
    have ho : w1.ownsRow w.heap.size 5 1 v1 bs.length (bc bs) := by simpa using hown1
    exact ⟨v1, ⟨w1, hgr⟩, rfl, rfl, ho⟩
end Go.Proofs.Ytlencagfkajcnaa
