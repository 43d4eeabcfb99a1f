import Derived.Test.YtkgmienjioplaaaW8
namespace Go.Proofs.Ytkgmienjioplaaa
open Go.RowKit Go.Ext Go.BigFrame
attribute [local go_sem] Ext.cell Ext.frozen Ext.lt Ext.le s1 s2 s3 s4 s5 s6 t1 t2 t3 t4 t5 t6
attribute [local go_sem ↓] Go.wp_at_zero Go.wp_at_succ

theorem info4 : (Try.prog.info? 4).map (fun i => (i.zero, i.size, i.bytes)) = some (some (.bool false), 1, 1) := by kernel_rfl

section
variable {base : Nat} {w w' : World} {g kb : Nat} {off : Bool} {armed : Int} {keep : Value} {S sz : Nat} {K : List UInt8} {P : List Ent} {pend : Value} {writes : Int} {n : Nat}

theorem kept_rd (h : DkAt base w g kb off armed keep S sz K P pend writes) : Bts w (.slice (some ⟨kb, 0, none⟩) (S * sz) (S * sz)) K := by
  refine ⟨some ⟨kb, 0, none⟩, S * sz, by rw [h.size], by have := h.max; rw [h.size]; omega, fun _ => ⟨kb, 0, rfl, fun j u hu => ?_⟩, fun e => by cases e⟩
  rw [Nat.zero_add, cell_of_row w kb j _ 5 (0, 0) h.kept]
  simpa using hu

set_option maxHeartbeats 1000000 in
theorem bytes_any (h : DkAt base w g kb off armed keep S sz K P pend writes) : Calls Try.prog 16 #[.pointer (some ⟨g, 0, none⟩)] w (RetP (fun w' v => Byt (TK kb) base w' v K ∧ w'.ownsRow w.heap.size 5 1 v K.length (bc K)) w) := by
  have c4 := h.db.cell 4
  have hlt := h.db.lt
  simp at c4
  have C := hid (clone_any base kb _ K w (kept_rd h) (Array.getElem?_eq_some_iff.1 h.kept).1)
  clear h
  go_enter Try.func16, Try.ntmps16
  go_wp2_with (go_at_call 31; (with_reducible refine C.out.mono ?_); rintro e _ ⟨v, y, rfl, rfl, hp⟩; have HP := hid hp; clear hp)
  go_ret
  exact ⟨v, y, rfl, rfl, HP.out⟩

set_option maxHeartbeats 1000000 in
/-- A clone of bools, which the disk keeps for its cut. -/
theorem clone37_any (A : Option Addr) (c : Nat) (ks : List Bool) (hb : Bls w A ks) (hl : ks.length ≤ 140737488351232) (hn : A = none → c = 0) :
    Calls Try.prog 37 #[.slice A ks.length c] w (RetP (fun w' v => w'.ownsRow w.heap.size 4 1 v ks.length (ks.map Value.bool)) w) := by
  obtain ⟨i0, hi0, hz0, hz1, hz2⟩ := info_parts info4
  have he := fun (w : World) (n c n' c' : Nat) (a : Option Addr) => Lib.run_eql_slice_nil (P := Try.prog) w 23 4 a n c n' c' Try.underlying23
  rcases A with _ | ad
  · have : ks = [] := by
      by_cases hk : ks = []
      · exact hk
      · obtain ⟨b, off, e, _⟩ := hb (by simpa using hk); cases e
    subst this
    have hc0 := hn rfl
    subst hc0
    go_enter Try.func37, Try.ntmps37
    go_wp2_with fail
    go_ret
    exact ⟨.slice none 0 0, ⟨w, Gr.refl _⟩, rfl, rfl, World.ownsRow_nil _ _ _ _⟩
  · have hr1 := hid (Rd.gr hb ((Gr.refl w).alloc (.cells #[] 4)))
    clear hb hn
    have h1c : ∀ u ∈ ks.map Value.bool, u.oneCell' = true := by
      intro u hu
      simp only [List.mem_map] at hu
      obtain ⟨b, _, rfl⟩ := hu
      rfl
    go_enter Try.func37, Try.ntmps37
    go_wp2_with (at_builtin; refine wpList_append_own _ rfl _ _ 23 rfl w.heap.size 4 i0 _ 1 1 Try.underlying23 hi0 hz0 hz1 hz2 rfl (by decide) (.slice (some ⟨w.heap.size, 0, none⟩) 0 0) 0 [] rfl (World.ownsRow_made w #[] 0 (Nat.le_refl _) (by decide) rfl) ad ks.length c (ks.map Value.bool) rfl (by simp) hr1.out.add h1c (by unfold maxLen; omega) (by omega) (by simp) ?_; intro v1 w1 hown1 hg1 _)
    go_ret
    have hgr : Gr w w1 := gr_grown ((Gr.refl w).alloc _) hg1 (by intro k hk; simp [Value.ownBlock] at hk; omega)
    have ho : w1.ownsRow w.heap.size 4 1 v1 ks.length (ks.map Value.bool) := by simpa using hown1
    exact ⟨v1, ⟨w1, hgr⟩, rfl, rfl, ho⟩
end
end Go.Proofs.Ytkgmienjioplaaa
