import Derived.Test.YtlencagfkajcnaaM6
namespace Go.Proofs.Ytlencagfkajcnaa
open Go.RowKit Go.Ext Go.BigFrame Go.Maps
attribute [local go_sem] Ext.cell Ext.frozen Ext.lt Ext.le s1 s2 s3 s4 s5 s6 t1 t2 t3 t4 t5 t6
attribute [local go_sem ↓] Go.wp_at_zero Go.wp_at_succ

/-- May they be cut? -/
def okC (nodes a b : Int) : Bool := isN nodes a && isN nodes b && !decide (a = b)
def cutS (S : Int × Int → Bool) (a b : Int) : Int × Int → Bool := fun y => decide (y = pr a b) || S y

theorem cut_bad (base g n : Nat) (nodes sent a b : Int) (S : Int × Int → Bool) (P : List Pk) (w : World) (h : Nt base w g nodes sent n S P) (ho : okC nodes a b = false) :
    Calls Try.prog 14 #[.pointer (some ⟨g, 0, none⟩), .int .i64 a, .int .i64 b] w (RetN base g nodes sent n S P (.int .i64 1) w) := by
  have hq : ∀ e w', (e = .returned (.int .i64 1) ∧ Gr w w') → RetN base g nodes sent n S P (.int .i64 1) w e w' := fun e w' hh => ⟨hh.1, h.gr hh.2, MN.of_gr hh.2⟩
  refine Calls.mono ?_ hq
  clear hq
  obtain ⟨mb, v, L, h⟩ := h
  obtain ⟨c0, c1, c2, c3, f2, f3⟩ := h.cs
  have hlt := h.lt
  have HF := hid (fun W (y : Gr w W) => there_any g nodes a W ((y.cell (p := ⟨g, 0, none⟩) hlt).trans c0))
  have HT := hid (fun W (y : Gr w W) => there_any g nodes b W ((y.cell (p := ⟨g, 0, none⟩) hlt).trans c0))
  clear h c0 c1 c2 c3 f2 f3
  unfold okC at ho
  cases ha : isN nodes a
  · rw [ha] at HF
    clear ha ho
    go_enter Try.func14, Try.ntmps14
    go_wp2_with (go_at_call 21; (with_reducible refine (HF.out _ (((Gr.refl w).alloc _).alloc _)).mono ?_); rintro en _ ⟨rfl, y1, rfl⟩)
    go_ret
    exact ⟨rfl, ((((Gr.refl w).alloc _).alloc _).ext y1)⟩
  · rw [ha] at HF ho
    clear ha
    cases hb : isN nodes b
    · rw [hb] at HT
      clear hb ho
      go_enter Try.func14, Try.ntmps14
      go_wp2_with (first
        | (go_at_call 21; (with_reducible refine (HF.out _ (((Gr.refl w).alloc _).alloc _)).mono ?_); rintro en _ ⟨rfl, y1, rfl⟩)
        | (go_at_call 21; (with_reducible refine (HT.out _ ((((Gr.refl w).alloc _).alloc _).ext y1)).mono ?_); rintro en _ ⟨rfl, y2, rfl⟩))
      go_ret
      exact ⟨rfl, (((((Gr.refl w).alloc _).alloc _).ext y1).ext y2)⟩
    · rw [hb] at HT ho
      clear hb
      have hab : a = b := by simpa using ho
      subst hab
      clear ho
      go_enter Try.func14, Try.ntmps14
      go_wp2_with (first
        | (go_at_call 21; (with_reducible refine (HF.out _ (((Gr.refl w).alloc _).alloc _)).mono ?_); rintro en _ ⟨rfl, y1, rfl⟩)
        | (go_at_call 21; (with_reducible refine (HT.out _ ((((Gr.refl w).alloc _).alloc _).ext y1)).mono ?_); rintro en _ ⟨rfl, y2, rfl⟩))
      all_goals (
        go_ret
        exact ⟨rfl, (((((Gr.refl w).alloc _).alloc _).ext y1).ext y2)⟩)

theorem two_made (w : World) (o1 o2 : Obj) : ((w.alloc o1).alloc o2).heap[w.heap.size]? = some o1 ∧ ((w.alloc o1).alloc o2).heap[w.heap.size + 1]? = some o2 := by
  refine ⟨(((Gr.refl _).alloc o2).block w.heap.size (by simp)).trans (heap_alloc_new w o1), ?_⟩
  have := heap_alloc_new (w.alloc o1) o2
  rw [show (w.alloc o1).heap.size = w.heap.size + 1 by simp] at this
  exact this

set_option maxRecDepth 100000 in
set_option maxHeartbeats 1000000 in
theorem cut_goodM (base g mb n : Nat) (nodes sent a b : Int) (v : Value) (L : List It) (S : Int × Int → Bool) (P : List Pk) (w : World) (h : NB base w g nodes sent mb n v L S P) (ho : okC nodes a b = true) (hl : P.length ≤ 1000000) (hn : n ≤ 1000000) :
    Calls Try.prog 14 #[.pointer (some ⟨g, 0, none⟩), .int .i64 a, .int .i64 b] w (fun e w' => RetN base g nodes sent (n + 1) (cutS S a b) (P.filter fun p => !qC a b p) (.int .i64 0) w e w' ∧ Mod (fun k => k = g ∨ k = mb ∨ some k = v.ownBlock) w w') := by
  obtain ⟨c0, c1, c2, c3, f2, f3⟩ := h.cs
  have hlt := h.lt
  have HF := hid (fun W (y : Gr w W) => there_any g nodes a W ((y.cell (p := ⟨g, 0, none⟩) hlt).trans c0))
  have HT := hid (fun W (y : Gr w W) => there_any g nodes b W ((y.cell (p := ⟨g, 0, none⟩) hlt).trans c0))
  have H := hid h
  unfold okC at ho
  simp only [Bool.and_eq_true, Bool.not_eq_true', decide_eq_false_iff_not] at ho
  obtain ⟨⟨ha, hb⟩, hab⟩ := ho
  have hoa := isN_ok h.hn.2 ha
  have hob := isN_ok h.hn.2 hb
  obtain ⟨o1, o2⟩ := pr_ok hoa hob
  rw [ha] at HF
  rw [hb] at HT
  obtain ⟨l, hkey⟩ := key66 o1 o2
  have HKEY := hid hkey
  have HP := hid (fun W => pair_any a b W)
  have hlen := h.dat.len
  have HLEN := hid hlen
  have hvlt : ∀ q, v.ownBlock = some q → q < w.heap.size := fun q e => (h.row.lt q e).2
  have HVL := hid hvlt
  clear h ha hb hoa hob hkey hlen hvlt c0 c1 c2 c3 f2 f3 o1 o2
  have hD : ∃ D : DataW Empty, w.ownsMap Try.prog 66 (plainElem Try.prog 4) mb n D ∧ ∀ x l, keyOf Try.prog 66 (pv x) = some l → D.atKey l (.lit (.bool false)) = .lit (.bool (S x)) := H.out.mp
  obtain ⟨D, hown, hDS⟩ := hD
  have HOW := hid hown
  have HDS := hid hDS
  have hml := hown.lt
  clear hown hDS
  go_enter Try.func14, Try.ntmps14
  go_wp2_with (first
    | (go_at_call 21; (with_reducible refine (HF.out _ (((Gr.refl w).alloc _).alloc _)).mono ?_); rintro en _ ⟨rfl, y1, rfl⟩)
    | (go_at_call 21; (with_reducible refine (HT.out _ ((((Gr.refl w).alloc _).alloc _).ext y1)).mono ?_); rintro en _ ⟨rfl, y2, rfl⟩))
  have H2M := hid (two_made w (.cells #[.int .i64 a] 3) (.cells #[.int .i64 b] 3))
  have hWr : Gr ((w.alloc (.cells #[.int .i64 a] 3)).alloc (.cells #[.int .i64 b] 3)) y2.val := y1.gr.ext y2
  have G2 := hid (show Gr w y2.val from (((Gr.refl w).alloc _).alloc _).trans hWr)
  have HA := hid ((hWr.block w.heap.size (by simp; omega)).trans H2M.out.1)
  have HB := hid ((hWr.block (w.heap.size + 1) (by simp)).trans H2M.out.2)
  generalize y2.val = W2 at *
  have hB1 := cell1 HA.out
  have hB2 := cell1 HB.out
  have hl1 : w.heap.size < W2.heap.size := (Array.getElem?_eq_some_iff.1 HA.out).1
  have hl2 : w.heap.size + 1 < W2.heap.size := (Array.getElem?_eq_some_iff.1 HB.out).1
  have H2 := hid (H.out.gr G2.out)
  obtain ⟨_, k1, _, _, _, _⟩ := H2.out.cs
  have hg2 : g < W2.heap.size := H2.out.lt
  have HOW2 := hid (show W2.ownsMap Try.prog 66 (plainElem Try.prog 4) mb n D by
    obtain ⟨es, clock, h0, F, hs, hD⟩ := HOW.out
    exact ⟨es, clock, (G2.out.block mb hml).trans h0, F, hs, hD⟩)
  clear hWr
  go_region_law (first
    | (go_simp; go_at_call 29
       refine (HP.out _).mono ?_
       rintro en _ ⟨rfl, y3, rfl⟩
       have HOW3 := hid (show y3.val.ownsMap Try.prog 66 (plainElem Try.prog 4) mb n D by
         obtain ⟨es, clock, h0, F, hs, hD⟩ := HOW2.out
         exact ⟨es, clock, (y3.gr.block mb (Nat.lt_of_lt_of_le hml G2.out.size)).trans h0, F, hs, hD⟩)
       have G3 := hid (show Gr W2 y3.val from Gr.ext (by repeat (first | exact Gr.refl _ | refine Gr.drew ?_)) y3)
       obtain ⟨_, k13, _, _, _, _⟩ := (H2.out.gr G3.out).cs
       have hg3 : g < y3.val.heap.size := (H2.out.gr G3.out).lt
       obtain ⟨w5, hrun5, hown5, hgrow5⟩ := HOW3.out.update keyed66 Try.underlying56 (by unfold maxLen; omega) HKEY.out (plainElem_bool Try.underlying4 true)
       have M5 := hid (show Mod (fun k => k = mb) W2 w5 from (G3.out.mod _).trans (Mod.mono (mod_grown hgrow5) fun _ _ h => by injection h) (fun _ _ h => h))
       have HM5 := hid (MP.put HOW3.out HDS.out HKEY.out hown5)
       clear hown5 hgrow5))
  all_goals (
    have hno5 : ∀ k, (∃ cs fz, W2.heap[k]? = some (.cells cs 5 fz)) → ¬ k = mb := by
      rintro k ⟨cs, fz, hk⟩ rfl
      obtain ⟨es, cc, hm⟩ := H2.out.mp.isMap
      have e2 := hk.symm.trans hm; injection e2 with e2; cases e2
    have h5 : NB base w5 g nodes sent mb (n + 1) v L (cutS S a b) P := ⟨H.out.lo, (M5.out.block g hg2 (Ne.symm H2.out.nem.1)).trans H2.out.cell, own_mod H2.out.row M5.out (fun k e e2 => H2.out.nem.2 (by rw [e, e2])), HM5.out, H.out.mlo, H.out.hn, Dat.mod M5.out hno5 H2.out.dat⟩
    have hb1 : w.heap.size ≠ mb := by omega
    have hb2 : w.heap.size + 1 ≠ mb := by omega
    have HLO := hid (loseC_any base g mb (n + 1) w.heap.size (w.heap.size + 1) nodes sent a b v L (cutS S a b) P w5 h5 (by rw [HLEN.out]; exact hl) (cell1 ((M5.out.block _ hl1 hb1).trans HA.out)) (cell1 ((M5.out.block _ hl2 hb2).trans HB.out)) (fun e => by have := HVL.out _ e; omega) (fun e => by have := HVL.out _ e; omega))
    have H5 := hid h5
    clear h5 hno5
    go_wp2_with (go_at_call 30; refine HLO.out.mono ?_; rintro en w7 ⟨rfl, h7, m7⟩; have H7 := hid h7; have M7 := hid m7; clear h7 m7)
    go_ret
    obtain ⟨v', h7⟩ := H7.out
    have MZ : Mod (fun k => k = g ∨ k = mb ∨ some k = v.ownBlock) w w7 := ((G2.out.mod _).trans (Mod.mono M5.out fun _ _ h => .inr (.inl h)) (fun _ _ h => h)).trans M7.out (fun _ _ h => h)
    exact ⟨⟨rfl, ⟨mb, v', _, h7⟩, H.out.mn MZ⟩, MZ⟩)

theorem cut_good (base g n : Nat) (nodes sent a b : Int) (S : Int × Int → Bool) (P : List Pk) (w : World) (h : Nt base w g nodes sent n S P) (ho : okC nodes a b = true) (hl : P.length ≤ 1000000) (hn : n ≤ 1000000) :
    Calls Try.prog 14 #[.pointer (some ⟨g, 0, none⟩), .int .i64 a, .int .i64 b] w (RetN base g nodes sent (n + 1) (cutS S a b) (P.filter fun p => !qC a b p) (.int .i64 0) w) := by
  obtain ⟨mb, v, L, h⟩ := h
  exact (cut_goodM base g mb n nodes sent a b v L S P w h ho hl hn).mono fun _ _ h => h.1
end Go.Proofs.Ytlencagfkajcnaa
