import Derived.Test.YtikmniokbliolaaD3
namespace Go.Proofs.Ytikmniokbliolaa
open Go.RowKit Go.Ext Go.BigFrame
attribute [local go_sem] Ext.cell Ext.frozen Ext.lt Ext.le s1 s2 s3 s4 s5 s6 t1 t2 t3 t4 t5 t6
attribute [local go_sem ↓] Go.wp_at_zero Go.wp_at_succ

/-- Without those of a run. -/
def dropF (L : List It) (flow run : Int) : List It := keepF (gone flow run) L

set_option maxHeartbeats 1000000 in
theorem drop_any (base g : Nat) (v : Value) (L : List It) (flow run : Int) (w : World) (h : HB base w g v L) (hl : L.length ≤ 1000000) :
    Calls Try.prog 25 #[.pointer (some ⟨g, 0, none⟩), .int .i64 flow, .int .i64 run] w (RetH base g v (dropF L flow run) (.int .i64 ((L.length : Int) - (dropF L flow run).length)) w) := by
  obtain ⟨A, cp, rfl⟩ := h.shape
  have H := hid h
  have c0 := h.c0
  have hlt := h.lt
  have hol := fun k e => (h.row.lt k e).2
  have hKl : (dropF L flow run).length ≤ L.length := List.length_filter_le _ _
  have HD := hid (show dropF L flow run = keepF (gone flow run) L from rfl)
  generalize dropF L flow run = K at *
  clear h
  go_enter Try.func25, Try.ntmps25
  go_wp2_with (go_at_call 35
               refine (delfn_any base flow run (.slice A L.length cp) L w.heap.size (w.heap.size + 1) _ (H.out.gr (((Gr.refl w).alloc (.cells #[.int .i64 flow] 3)).alloc (.cells #[.int .i64 run] 3))).row hl (by go_simp) (by go_simp) (fun e => by have := hol _ e; omega) (fun e => by have := hol _ e; omega)).mono ?_
               rintro e w2 ⟨v2, rfl, hr2, hm2, hw2⟩
               rw [← HD.out] at hr2
               have HR2 := hid hr2
               have HM2 := hid hm2
               have HW2 := hid hw2
               clear hr2 hm2 hw2
               have HC2 := hid (show w2.heap[g]? = some (.cells #[.slice A L.length cp] 64 (0, 0)) from (HM2.out.block g (by simp; omega) H.out.ne).trans (H.out.gr (((Gr.refl w).alloc (.cells #[.int .i64 flow] 3)).alloc (.cells #[.int .i64 run] 3))).cell)
               have k0 : w2.cell? ⟨g, 0, none⟩ = some (.slice A L.length cp) := by simp [World.cell?, HC2.out]
               have f0 : w2.frozen? ⟨g, 0, none⟩ = false := by simp [World.frozen?, HC2.out]
               have hsh : ∃ A2 c2, v2 = .slice A2 K.length c2 := by
                 rcases HR2.out.2 with ⟨rfl, h0⟩ | ⟨g', cap, cur, rfl, _⟩
                 · exact ⟨none, 0, by rw [h0]⟩
                 · exact ⟨_, _, rfl⟩
               obtain ⟨A2, c2, rfl⟩ := hsh)
  go_ret
  refine ⟨_, rfl, HB.set H.out.lo HC2.out HR2.out, ?_, ?_⟩
  · have M := (((((Gr.refl w).alloc (.cells #[.int .i64 flow] 3)).alloc (.cells #[.int .i64 run] 3)).mod (fun k => k = g ∨ some k = (Value.slice A L.length cp).ownBlock)).trans HM2.out (fun _ _ h => .inr h))
    exact M.set (fun _ => .inl rfl) _
  · rcases HW2.out with h | ⟨k, h1, h2⟩
    · exact .inl h
    · refine .inr ⟨k, h1, ?_⟩
      simp at h2
      omega

/-- A slice that reads as items. -/
def Its (w : World) (v : Value) (L : List It) : Prop := ∃ A c, v = .slice A L.length c ∧ Row w A L ∧ (A = none → c = 0)

set_option maxHeartbeats 1000000 in
theorem cloneI_any (A : Option Addr) (c : Nat) (L : List It) (w : World) (hr : Row w A L) (hn : A = none → c = 0) (hl : L.length ≤ 1000000) :
    Calls Try.prog 38 #[.slice A L.length c] w (RetP (fun w' v' => Its w' v' L) w) := by
  obtain ⟨i0, hi0, hz0, hz1, hz2⟩ := info_parts info33
  have he := fun (w : World) (n c n' c' : Nat) (a : Option Addr) => Lib.run_eql_slice_nil (P := Try.prog) w 27 33 a n c n' c' Try.underlying27
  rcases A with _ | ad
  · have hL : L = [] := by
      by_cases h0 : L = []
      · exact h0
      · obtain ⟨_, _, e, _⟩ := hr h0; cases e
    subst hL
    have hc0 := hn rfl
    subst hc0
    go_enter Try.func38, Try.ntmps38
    go_wp2_with fail
    go_ret
    exact ⟨.slice none 0 0, ⟨w, Gr.refl _⟩, rfl, rfl, none, 0, rfl, fun h => absurd rfl h, fun _ => rfl⟩
  · have hnews : ∀ W, Gr w W → ∀ j u, (cs6 L)[j]? = some u → W.cell? (ad.add j) = some u := by
      intro W g j u hu
      have hj := (List.getElem?_eq_some_iff.1 hu).1
      rw [cs6_length] at hj
      obtain ⟨b, off, e, hc⟩ := (hr.gr g) (by rintro rfl; simp at hj)
      injection e with e
      subst e
      have e2 : j = j / 6 * 6 + j % 6 := by omega
      rw [e2, cs6_get L (j / 6) (j % 6) (by omega) (Nat.mod_lt _ (by omega))] at hu
      have := hc (j / 6) (by omega) (j % 6) u hu
      rw [Addr.add_lit, e2, ← Nat.add_assoc]
      exact this
    have HN := hid hnews
    clear hr hn hnews
    go_enter Try.func38, Try.ntmps38
    go_wp2_with (at_builtin; refine wpList_append_own _ rfl _ _ 27 rfl w.heap.size 33 i0 _ 6 48 Try.underlying27 hi0 hz0 hz1 hz2 rfl (by decide) (.slice (some ⟨w.heap.size, 0, none⟩) 0 0) 0 [] rfl (World.ownsRow_made w #[] 0 (Nat.le_refl _) (by decide) rfl) ad L.length c (cs6 L) rfl (cs6_length L) (HN.out _ ((Gr.refl w).alloc _)) (cs6_one L) (by unfold maxLen; omega) (by omega) (by simp) ?_; intro v1 w1 hown1 hg1 _)
    go_ret
    have hgr : Gr w w1 := gr_grown ((Gr.refl w).alloc _) hg1 (by intro k hk; simp [Value.ownBlock] at hk; omega)
    have ho : w1.ownsRow w.heap.size 33 6 v1 L.length (cs6 L) := by simpa using hown1
    refine ⟨v1, ⟨w1, hgr⟩, rfl, rfl, ?_⟩
    rcases id ho.2 with ⟨rfl, h0⟩ | ⟨g, cap, cur, rfl, _⟩
    · have : L = [] := List.eq_nil_of_length_eq_zero h0
      subst this
      exact ⟨none, 0, rfl, fun h => absurd rfl h, fun _ => rfl⟩
    · exact ⟨_, _, rfl, Row.of_own ho, fun e => by cases e⟩

theorem list_any (base g : Nat) (v : Value) (L : List It) (w : World) (h : HB base w g v L) (hl : L.length ≤ 1000000) :
    Calls Try.prog 28 #[.pointer (some ⟨g, 0, none⟩)] w (RetP (fun w' v' => Its w' v' L) w) := by
  obtain ⟨A, cp, rfl⟩ := h.shape
  have c0 := h.c0
  have hlt := h.lt
  have hn : A = none → cp = 0 := by
    rintro rfl
    rcases h.row.2 with ⟨e, _⟩ | ⟨g', cap, cur, e, _⟩
    · injection e with _ _ e
    · cases e
  have HC := hid (cloneI_any A cp L w (h.arow rfl) hn hl)
  clear h
  go_enter Try.func28, Try.ntmps28
  go_wp2_with (go_at_call 38; refine HC.out.mono ?_; rintro e _ ⟨v1, y1, rfl, rfl, h1⟩)
  go_ret
  exact ⟨v1, y1, rfl, rfl, h1⟩
end Go.Proofs.Ytikmniokbliolaa
