import Derived.Test.YtkgmienjioplaaaRows
import Derived.Test.YtkgmienjioplaaaMem
namespace Go.Proofs.Ytkgmienjioplaaa
open Go.RowKit Go.Ext Go.BigFrame
attribute [local go_sem] Ext.cell Ext.frozen Ext.lt Ext.le s1 s2 s3 s4 s5 s6 t1 t2 t3 t4 t5 t6
attribute [local go_sem ↓] Go.wp_at_zero Go.wp_at_succ

/-- Bytes stay, but those of the disk's own sectors, which lie in block kb. -/
def TK (kb : Nat) : Nat → TypeId → Bool := fun b t => t == 5 && b != kb
theorem info5 : (Try.prog.info? 5).map (fun i => (i.zero, i.size, i.bytes)) = some (some (.int .u8 0), 1, 1) := by kernel_rfl

/-- It returned a value of which p holds, in a grown world. -/
def RetP (p : World → Value → Prop) (w : World) (e : Ending) (w' : World) : Prop := ∃ v, ∃ y : Ext w, e = .returned v ∧ w' = y.val ∧ p y.val v

theorem byt_own {base B kb : Nat} {w : World} {v : Value} {n : Nat} {bs : List UInt8} (h : w.ownsRow B 5 1 v n (bc bs)) (hk : kb < B) (hn : n = bs.length) (hl : bs.length ≤ 140737488351232) : Byt (TK kb) base w v bs := by
  subst hn
  rcases h.2 with ⟨rfl, h0⟩ | ⟨g, cap, cur, rfl, hb, hh, hnc, hcm, hcs, ht⟩
  · have : bs = [] := List.eq_nil_of_length_eq_zero h0
    subst this
    exact Byt.nil _ _ _
  · have hne : (g != kb) = true := by simp; omega
    exact ⟨_, _, rfl, hl, Rd.of_own h, fun _ => ⟨g, 0, rfl, (Array.getElem?_eq_some_iff.1 hh).1, .inr ⟨cur, 5, (0, 0), hh, by unfold TK; rw [hne]; rfl⟩⟩, fun e => by cases e⟩

/-- Bytes that can be read, wherever they lie. -/
def Bts (w : World) (d : Value) (bs : List UInt8) : Prop := ∃ A c, d = .slice A bs.length c ∧ bs.length ≤ 140737488351232 ∧ Rd w A (bc bs) ∧ (A = none → c = 0)
theorem Byt.bts {T : Nat → TypeId → Bool} {base : Nat} {w : World} {d : Value} {bs : List UInt8} (h : Byt T base w d bs) : Bts w d bs := by
  obtain ⟨A, c, e, h1, h2, _, h3⟩ := h
  exact ⟨A, c, e, h1, h2, h3⟩
theorem Bts.gr {w w' : World} {d : Value} {bs : List UInt8} (h : Bts w d bs) (g : Gr w w') : Bts w' d bs := by
  obtain ⟨A, c, e, h1, h2, h3⟩ := h
  exact ⟨A, c, e, h1, h2.gr g, h3⟩

set_option maxHeartbeats 1000000 in
theorem clone_any (base kb : Nat) (d : Value) (bs : List UInt8) (w : World) (hd : Bts w d bs) (hk : kb < w.heap.size) :
    Calls Try.prog 31 #[d] w (RetP (fun w' v => Byt (TK kb) base w' v bs ∧ w'.ownsRow w.heap.size 5 1 v bs.length (bc bs)) w) := by
  obtain ⟨A, c, rfl, hl, hr, hnc⟩ := hd
  obtain ⟨i0, hi0, hz0, hz1, hz2⟩ := info_parts info5
  have he := fun (w : World) (n c n' c' : Nat) (a : Option Addr) => Lib.run_eql_slice_nil (P := Try.prog) w 22 5 a n c n' c' Try.underlying22
  rcases A with _ | ad
  · have : bs = [] := by
      by_cases hb : bs = []
      · exact hb
      · obtain ⟨b, off, e, _⟩ := hr (by simpa [bc] using hb); cases e
    subst this
    have hc0 := hnc rfl
    subst hc0
    go_enter Try.func31, Try.ntmps31
    go_wp2_with fail
    go_ret
    exact ⟨.slice none 0 0, ⟨w, Gr.refl _⟩, rfl, rfl, Byt.nil _ _ _, World.ownsRow_nil _ _ _ _⟩
  · have hr1 := hid (hr.gr ((Gr.refl w).alloc (.cells #[] 5)))
    clear hr hnc
    go_enter Try.func31, Try.ntmps31
    go_wp2_with (at_builtin; refine wpList_append_own _ rfl _ _ 22 rfl w.heap.size 5 i0 _ 1 1 Try.underlying22 hi0 hz0 hz1 hz2 rfl (by decide) (.slice (some ⟨w.heap.size, 0, none⟩) 0 0) 0 [] rfl (World.ownsRow_made w #[] 0 (Nat.le_refl _) (by decide) rfl) ad bs.length c (bc bs) rfl (by simp [bc_length]) hr1.out.add (bc_one bs) (by unfold maxLen; omega) (by omega) (by simp) ?_; intro v1 w1 hown1 hg1 _)
    go_ret
    have hgr : Gr w w1 := gr_grown ((Gr.refl w).alloc _) hg1 (by intro k hk; simp [Value.ownBlock] at hk; omega)
    have ho : w1.ownsRow w.heap.size 5 1 v1 bs.length (bc bs) := by simpa using hown1
    exact ⟨v1, ⟨w1, hgr⟩, rfl, rfl, byt_own ho hk rfl hl, ho⟩
end Go.Proofs.Ytkgmienjioplaaa
