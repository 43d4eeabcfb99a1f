import Derived.Test.YtlencagfkajcnaaN7
namespace Go.Proofs.Ytlencagfkajcnaa
open Go.RowKit Go.Ext Go.BigFrame Go.Maps
attribute [local go_sem] Ext.cell Ext.frozen Ext.lt Ext.le s1 s2 s3 s4 s5 s6 t1 t2 t3 t4 t5 t6
attribute [local go_sem ↓] Go.wp_at_zero Go.wp_at_succ

set_option maxRecDepth 100000 in
set_option maxHeartbeats 4000000 in
theorem take_anyM (base g mb n : Nat) (nodes sent k : Int) (v : Value) (L : List It) (S : Int × Int → Bool) (P : List Pk) (w : World) (h : NB base w g nodes sent mb n v L S P) (hl : P.length ≤ 1000000) :
    Calls Try.prog 12 #[.pointer (some ⟨g, 0, none⟩), .int .i64 k] w (fun e w' => RetTake base g nodes sent n S P k w e w' ∧ Mod (fun k => k = g ∨ k = mb ∨ some k = v.ownBlock) w w') := by
  have hlen := h.dat.len
  have H := hid h
  have hlt := h.lt
  obtain ⟨A, cp, rfl⟩ := h.shape
  have hol : ∀ q, (Value.slice A L.length cp).ownBlock = some q → q < w.heap.size := fun q e => (h.row.lt q e).2
  have HOL := hid hol
  have hcp : L.length ≤ cp := by
    rcases h.row.2 with ⟨e, h0⟩ | ⟨_, _, _, e, _, _, hc, _⟩
    · injection e with _ e1 e2; omega
    · injection e with _ _ e2; omega
  have hoe : okN P k = okN L k := by unfold okN; rw [hlen]
  clear hol
  cases hok : okN L k
  · have CM := hid (fun W fv (y : Gr w W) => with_miss g k fv A cp L W ((h.gr y).cs.2.2.1) hok)
    have HOK := hid (hoe.trans hok)
    clear hok hoe h
    have hq : ∀ e w', (e = .returned (.tuple #[.agg #[.int .i64 0, .int .i64 0, .int .i64 0, .slice none 0 0], .int .i64 2]) ∧ Gr w w') → (RetTake base g nodes sent n S P k w e w' ∧ Mod (fun k => k = g ∨ k = mb ∨ some k = (Value.slice A L.length cp).ownBlock) w w') := fun e w' h => ⟨.inl ⟨HOK.out, h.1, ⟨mb, _, L, H.out.gr h.2⟩, MN.of_gr h.2⟩, h.2.mod _⟩
    refine Calls.mono ?_ hq
    clear hq
    go_enter Try.func12, Try.ntmps12
    go_wp2_with (go_at_call 23; refine (CM.out _ _ ((((Gr.refl w).alloc _).alloc _).alloc _)).mono ?_; rintro en _ ⟨rfl, rfl⟩)
    refine bodyPost_ret (v := .tuple #[.agg #[.int .i64 0, .int .i64 0, .int .i64 0, .slice none 0 0], .int .i64 2]) (by simp [results, Try.results12, go_sem]) rfl ⟨rfl, ?_⟩
    repeat (first | exact Gr.refl _ | refine Gr.set ?_ (by simp <;> omega) _ | refine Gr.alloc ?_ _)
  · obtain ⟨i, rfl, hi⟩ := okN_yes hok
    have HOK := hid (hoe.trans hok)
    have hone := h.dat.get i hi
    have h5n := h.no5
    obtain ⟨⟨f, t, q, A', l', c'⟩, hy⟩ : ∃ y, L.getD i z0 = y := ⟨_, rfl⟩
    have CW := hid (fun W (y : Gr w W) (B4 B2 B3 : Nat) (u0 u1 u2 u3 : Value) h4 h2 h3 n4 n2 n3 n2' => with_take base g mb n i B4 B2 B3 nodes sent A cp L S P u0 u1 u2 u3 W (h.gr y) (by omega) hi h4 h2 h3 n4 n2 n3 n2')
    rw [hy] at CW hone
    have HONE := hid hone
    have HI := hid hi
    have HN5 := hid h5n
    have hbn : base ≤ w.heap.size := Nat.le_trans h.lo (Nat.le_of_lt hlt)
    clear hok hoe h hy hone hi h5n
    have hq : ∀ e w', (e = .returned (.tuple #[iv (f, t, q, A', l', c'), .int .i64 0]) ∧ One base w' (f, t, q, A', l', c') (P.getD i p0) ∧ Nt base w' g nodes sent n S (outF P i) ∧ Mod (fun k => k = g ∨ k = mb ∨ some k = (Value.slice A L.length cp).ownBlock) w w') → (RetTake base g nodes sent n S P i w e w' ∧ Mod (fun k => k = g ∨ k = mb ∨ some k = (Value.slice A L.length cp).ownBlock) w w') := fun e w' h => ⟨.inr ⟨HOK.out, i, _, rfl, by rw [← hlen]; exact HI.out, h.1, h.2.1, h.2.2.1, H.out.mn h.2.2.2⟩, h.2.2.2⟩
    refine Calls.mono ?_ hq
    clear hq
    simp only [iv]
    have h3m := three_made w (.cells #[.pointer (some ⟨g, 0, none⟩)] 24) (.cells #[.int .i64 i] 3) (.cells #[.int .i64 0, .int .i64 0, .int .i64 0, .slice none 0 0] 33)
    have H3M := hid h3m
    clear h3m
    go_enter Try.func12, Try.ntmps12
    go_wp2_with (go_at_call 23
                 refine (CW.out _ ((((Gr.refl w).alloc _).alloc _).alloc _) (w.heap.size + 1 + 1) w.heap.size (w.heap.size + 1) _ _ _ _ H3M.out.2.2 (cell1 H3M.out.1) (cell1 H3M.out.2.1) (fun e => by have := HOL.out _ e; omega) (by omega) (by omega) (fun e => by have := HOL.out _ e; omega)).mono ?_
                 rintro en w7 ⟨rfl, h7a, h7b, h7c⟩
                 have H7A := hid h7a
                 have H7B := hid h7b
                 have H7C := hid h7c
                 obtain ⟨r0, r1, r2, r3, s0, s1, s2, s3⟩ := heap4 (show w7.heap[w.heap.size + 1 + 1]? = some (.cells #[.int .i64 f, .int .i64 t, .int .i64 q, .slice A' l' c'] 33 (0, 0)) from h7b)
                 have hl7 : w.heap.size + 1 + 1 < w7.heap.size := (Array.getElem?_eq_some_iff.1 h7b).1
                 clear h7a h7b h7c)
    obtain ⟨v', hnb, hvb⟩ := H7A.out
    have HB7 : w7.heap[w.heap.size + 1 + 1]? = some (.cells #[.int .i64 f, .int .i64 t, .int .i64 q, .slice A' l' c'] 33 (0, 0)) := H7B.out
    have G3 : Gr w (((w.alloc (.cells #[.pointer (some ⟨g, 0, none⟩)] 24)).alloc (.cells #[.int .i64 i] 3)).alloc (.cells #[.int .i64 0, .int .i64 0, .int .i64 0, .slice none 0 0] 33)) := (((Gr.refl w).alloc _).alloc _).alloc _
    have M9 := set4 w7 (w.heap.size + 1 + 1) (.int .i64 f) (.int .i64 t) (.int .i64 q) (.slice A' l' c')
    have n5 := not5 HB7 (by decide)
    have hgb : g ≠ w.heap.size + 1 + 1 := by omega
    have hmb : mb ≠ w.heap.size + 1 + 1 := by have := H.out.mp.lt; omega
    obtain ⟨t0, t1, t2, t3, _⟩ := heap4 (set4_heap HB7 (.int .i64 f) (.int .i64 t) (.int .i64 q) (.slice A' l' c'))
    refine bodyPost_ret (v := .tuple #[.agg #[.int .i64 f, .int .i64 t, .int .i64 q, .slice A' l' c'], .int .i64 0]) (by simp [results, Try.results12, go_sem, t0, t1, t2, t3]) rfl ⟨rfl, ?_, ⟨mb, v', _, hnb.mod M9 hgb (fun k e e2 => hvb (by rw [e, e2])) hmb n5⟩, ?_⟩
    · refine One.mod (One.mod (One.mod HONE.out (G3.mod fun _ => False) (fun _ _ e => e)) H7C.out ?_) M9 n5
      intro k hk
      rintro (rfl | rfl | e)
      · exact not5 (H.out.gr G3).cell (by decide) _ hk rfl
      · exact not5 H3M.out.2.2 (by decide) _ hk rfl
      · exact (H.out.gr G3).no5 k hk e
    · refine ((G3.mod _).trans H7C.out (fun x hx hs => ?_)).trans M9 (fun x hx hs => ?_)
      · rcases hs with rfl | rfl | e
        · exact .inl rfl
        · omega
        · exact .inr (.inr e)
      · omega
end Go.Proofs.Ytlencagfkajcnaa
