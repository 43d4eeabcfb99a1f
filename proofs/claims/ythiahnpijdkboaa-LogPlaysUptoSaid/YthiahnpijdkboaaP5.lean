import Derived.Test.YthiahnpijdkboaaP4
namespace Go.Proofs.Ythiahnpijdkboaa
open Go.RowKit Go.Ext Go.BigFrame
attribute [local go_sem] Ext.cell Ext.frozen Ext.lt Ext.le s1 s2 s3 s4 s5 s6 t1 t2 t3 t4 t5 t6
attribute [local go_sem ↓] Go.wp_at_zero Go.wp_at_succ

theorem OwnR.some {base B : Nat} {w : World} {v : Value} {L : List Ent} (h : OwnR base B w v L) (hL : 0 < L.length) : ∃ g c, v = .slice (some ⟨g, 0, none⟩) L.length c ∧ L.length ≤ c := by
  obtain ⟨ys, h1, _⟩ := h
  rcases h1.2 with ⟨rfl, h0⟩ | ⟨g, cap, cur, rfl, _, _, hc, _⟩
  · omega
  · exact ⟨g, cap, rfl, hc⟩
theorem own_someR {w : World} {B n : Nat} {v : Value} {xs : List Value} (h : w.ownsRow B 68 2 v n xs) (hn : 0 < n) : ∃ g c, v = .slice (some ⟨g, 0, none⟩) n c := by
  rcases h.2 with ⟨rfl, h0⟩ | ⟨g, cap, cur, rfl, _⟩
  · omega
  · exact ⟨g, cap, rfl⟩
theorem mod_grown {w w' : World} {row : Option Nat} (h : w.grownBy w' row) : Mod (fun b => some b = row) w w' := ⟨h.os, h.tape, h.output, h.size, fun k hk hn => h.block k hk hn⟩
/-- An own row's block is no block of another type. -/
theorem own_ne {w : World} {B n g : Nat} {v : Value} {xs : List Value} {cs : Array Value} (h : w.ownsRow B 68 2 v n xs) (hb : w.heap[g]? = some (.cells cs 60 (0, 0))) : v.ownBlock ≠ some g := by
  intro e
  rcases h.2 with ⟨rfl, _⟩ | ⟨g', cap, cur, rfl, _, hh, _⟩
  · cases e
  · simp only [Value.ownBlock] at e
    injection e with e
    subst e
    rw [hb] at hh
    injection hh with hh
    injection hh with _ ht _
    cases ht
theorem own_set {w : World} {B n g i : Nat} {v u : Value} {xs : List Value} {cs : Array Value} (h : w.ownsRow B 68 2 v n xs) (hb : w.heap[g]? = some (.cells cs 60 (0, 0))) : (w.setCell ⟨g, i, none⟩ u).ownsRow B 68 2 v n xs := by
  have hn := own_ne h hb
  refine ⟨h.1, ?_⟩
  rcases h.2 with h2 | ⟨g', cap, cur, hv, hb', hh, r⟩
  · exact .inl h2
  · refine .inr ⟨g', cap, cur, hv, hb', ?_, r⟩
    rw [← hh]
    exact Below.heap_setCell _ _ _ _ (fun e => by subst hv; subst e; exact hn rfl)
theorem no_imm {base g : Nat} {w : World} {cs : Array Value} (hb : w.heap[g]? = some (.cells cs 60 (0, 0))) (hlo : base ≤ g) : ¬ Imm TB base w g := by
  rintro ⟨_, h1 | ⟨cs', t, fz, h1, h2⟩⟩
  · omega
  · rw [hb] at h1
    injection h1 with h1
    injection h1 with _ ht _
    subst ht
    cases h2
/-- Other entries are the log's, in a row of its own that lies anywhere. -/
theorem RefAt.put {base g : Nat} {idx term : Int} {L M : List Ent} {v v' : Value} {w w2 : World} {xs : List Value} (h : RefAt base w g idx term L v) (hb : w2.heap[g]? = w.heap[g]?) (hm : M.length ≤ 4398046511103)
    (ho : w2.ownsRow base 68 2 v' M.length xs) (he : Ents base w2 xs M) : RefAt base (w2.setCell ⟨g, 2, none⟩ v') g idx term M v' ∧ Kp TB base w2 (w2.setCell ⟨g, 2, none⟩ v') := by
  have hg : w2.heap[g]? = Option.some (.cells #[.int .i64 idx, .int .i64 term, v] 60 (0, 0)) := hb.trans h.blk
  have hk : Kp TB base w2 (w2.setCell ⟨g, 2, none⟩ v') := Kp.set (Kp.refl _ _ _) (no_imm hg h.lo) _
  exact ⟨⟨by rw [heap_set _ _ _ _ _ _ _ hg]; rfl, h.lo, ⟨xs, own_set ho hg, he.kp hk⟩, h.i0, h.i1, hm⟩, hk⟩

def RetAR (base g : Nat) (idx term : Int) (L : List Ent) (v : Value) (w : World) (e : Ending) (w' : World) : Prop :=
  ∃ v', e = .returned (.int .i64 (idx + L.length)) ∧ RefAt base w' g idx term L v' ∧ Mod (fun b => b = g ∨ v.ownBlock = some b) w w'

set_option maxRecDepth 100000 in
set_option maxHeartbeats 4000000 in
theorem addR_any (base g : Nat) (idx term : Int) (L l : List Ent) (v : Value) (A : Option Addr) (c : Nat) (w : World) (h : RefAt base w g idx term L v) (hs : Sl base w A l) (hl0 : 0 < l.length) (hl : L.length + l.length ≤ 4398046511103) (hbase : base ≤ w.heap.size) :
    Calls Try.prog 34 #[.pointer (some ⟨g, 0, none⟩), .slice A l.length c] w (RetAR base g idx term (L ++ l) v w) := by
  have b2 := h.i0
  have b3 := h.i1
  have b4 := h.len
  have b6 := h.lt
  have H := hid h
  have HS := hid hs
  clear h hs
  obtain ⟨Av, cv, rfl, _, hcv⟩ := H.out.row.shape
  obtain ⟨ys, hys1, hys2⟩ := H.out.row
  have HY1 := hid hys1
  have HY2 := hid hys2
  clear hys1 hys2
  have g0 : w.cell? ⟨g, 0, none⟩ = some (.int .i64 idx) := by have := H.out.cell 0; simpa using this
  have g2 : w.cell? ⟨g, 2, none⟩ = some (.slice Av L.length cv) := by have := H.out.cell 2; simpa using this
  have f2 : w.frozen? ⟨g, 2, none⟩ = false := H.out.frozen 2
  have HNE := hid (own_ne HY1.out H.out.blk)
  obtain ⟨i0, hi0, hz0, hz1, hz2⟩ := info_parts info68
  go_enter Try.func34, Try.ntmps34
  go_wp2_with fail
  go_region_law
    (first
      | (go_simp; go_at_call 30
         refine (calls_grPR (w0 := w) ?_ (copied_n base l.length _ _ l _ rfl (HS.out.gr ?_) (by omega) (Nat.le_trans hbase (Gr.size ?_)))).mono ?_
         · repeat (first | exact Gr.refl _ | refine Gr.ext ?_ _ | refine Gr.alloc ?_ _ | refine Gr.drew ?_)
         · repeat (first | exact Gr.refl _ | refine Gr.ext ?_ _ | refine Gr.alloc ?_ _ | refine Gr.drew ?_)
         · repeat (first | exact Gr.refl _ | refine Gr.ext ?_ _ | refine Gr.alloc ?_ _ | refine Gr.drew ?_)
         rintro e _ ⟨v6, y6, rfl, rfl, B6, hB6, ho6⟩
         obtain ⟨g6, c6, rfl, hc6⟩ := ho6.some hl0
         obtain ⟨ys6, hy6, he6⟩ := id ho6
         have HY6 := hid hy6
         have HE6 := hid he6
         have hz6 := y6.gr.size
         clear ho6 hy6 he6)
      | (refine step_append_own (by rfl) (.tmp 9) (.tmp 11) 37 (by rfl) base 68 i0 _ 2 32 Try.underlying37 hi0 hz0 hz1 hz2 (by rfl) (by decide) (.slice Av L.length cv) L.length ys (by rfl) (own_gr HY1.out y6.gr) ⟨g6, 0, none⟩ l.length c6 ys6 (by rfl) HE6.out.1 (Rd.of_own HY6.out).add (ents_one HE6.out) (by unfold maxLen; omega) (by omega) (by omega) ?_
         intro v8 w8 hown8 hgrow8 _
         obtain ⟨g8, c8, rfl⟩ : ∃ g8 c8, v8 = .slice (some ⟨g8, 0, none⟩) (L.length + l.length) c8 := own_someR hown8 (by omega)
         have HO8 := hid hown8
         have HW8 := hid hgrow8
         have HB8 := hid ((hgrow8.block g (Nat.lt_of_lt_of_le b6 hz6) (fun e => HNE.out e.symm)).trans (y6.gr.block g b6))
         have gc0 : w8.cell? ⟨g, 0, none⟩ = some (.int .i64 idx) := by have := cell_of_row w8 g 0 _ 60 (0, 0) (HB8.out.trans H.out.blk); simpa using this
         have gc8 : w8.cell? ⟨g, 2, none⟩ = some (.slice Av L.length cv) := by have := cell_of_row w8 g 2 _ 60 (0, 0) (HB8.out.trans H.out.blk); simpa using this
         have gf8 : w8.frozen? ⟨g, 2, none⟩ = false := by simp [World.frozen?, HB8.out.trans H.out.blk]
         clear hown8 hgrow8))
  all_goals (
    have hz8 := HW8.out.size
    have hg8 : g < w8.heap.size := by omega
    have HK8 : Kp TB base y6.val w8 := Kp.grown (Kp.refl _ _ _) HW8.out (own_not_imm (own_gr HY1.out y6.gr) (Nat.le_refl _) rfl)
    have hput := RefAt.put (M := L ++ l) (w2 := w8) H.out HB8.out (by rw [List.length_append]; exact hl) (by rw [List.length_append]; exact HO8.out) (((HY2.out.kp y6.gr.kp).kp HK8).append (HE6.out.kp HK8))
    have HPUT := hid hput
    have HMOD := hid (((y6.gr.mod (fun b => b = g ∨ (Value.slice Av L.length cv).ownBlock = some b)).trans (mod_grown HW8.out) (fun x _ e => .inr e.symm)).set (p := ⟨g, 2, none⟩) (fun _ => .inl rfl) (.slice (some ⟨g8, 0, none⟩) (L.length + l.length) c8))
    have hal := hid (show idx + ((L ++ l).length : Int) = idx + ((L.length : Int) + (l.length : Int)) by rw [List.length_append]; omega)
    clear hput HK8
    go_wp2_with fail
    refine wp_region_ext (by kernel_rfl) (by kernel_rfl) ?_
    repeat (go_big_quiet_step (fail))
    refine wpQuiet_nil ?_
    rintro _ ⟨x, rfl⟩
    go_wp2_with fail
    go_ret
    exact ⟨_, by rw [hal.out]; rfl, HPUT.out.1.gr x.gr, HMOD.out.gr x.gr⟩)
end Go.Proofs.Ythiahnpijdkboaa
