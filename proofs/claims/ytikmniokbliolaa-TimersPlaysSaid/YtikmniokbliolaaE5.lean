import Derived.Test.YtikmniokbliolaaE4
import Derived.Deep.Cut
import Derived.Deep.CutRange
namespace Go.Proofs.Ytikmniokbliolaa
open Go.RowKit Go.Ext Go.BigFrame
attribute [local go_sem] Ext.cell Ext.frozen Ext.lt Ext.le s1 s2 s3 s4 s5 s6 t1 t2 t3 t4 t5 t6
attribute [local go_sem ↓] Go.wp_at_zero Go.wp_at_succ

theorem add_ins {L : List It} {x : It} (h : has L x = false) : addF L x = ins L x := by unfold addF; rw [h]; rfl
theorem pos_is {L : List It} {x : It} {k : Nat} (hk : k ≤ L.length) (h1 : ∀ t, t < k → cmpI (L.getD t z0) x < 0) (h2 : k < L.length → ¬ cmpI (L.getD k z0) x < 0) : pos L x = k := pos_eq L x k hk h1 h2

set_option maxRecDepth 100000 in
set_option maxHeartbeats 4000000 in
theorem addR_some (base g r cp : Nat) (L : List It) (x0 x1 x2 x3 x4 x5 : Int) (w : World) (h : RB base w g (.slice (some ⟨r, 0, none⟩) L.length cp) L) (hl : L.length ≤ 1000000) (hbase : base ≤ w.heap.size)
    (hcap : L.length ≤ cp) (_hcm : cp ≤ maxLen) (hrw : r < w.heap.size) (hc : ∀ j u, (cs6 L)[j]? = some u → w.cell? ⟨r, j, none⟩ = some u) :
    Calls Try.prog 21 #[.pointer (some ⟨g, 0, none⟩), iv (x0, x1, x2, x3, x4, x5)] w (RetR base g (addF L (x0, x1, x2, x3, x4, x5)) (.bool (!has L (x0, x1, x2, x3, x4, x5))) w) := by
  have hlt := h.lt
  have H := hid h
  have HCC := hid hc
  clear h hc
  obtain ⟨i0, hi0, hz0, hz1, hz2⟩ := info_parts info40
  simp only [iv]
  go_enter Try.func21, Try.ntmps21
  go_wp2_with fail
  have HB := hid (show (w.alloc (.cells #[.int .i64 x0, .int .i64 x1, .int .i64 x2, .int .i64 x3, .int .i64 x4, .int .i64 x5] 40)).heap[w.heap.size]? = some (.cells #[.int .i64 x0, .int .i64 x1, .int .i64 x2, .int .i64 x3, .int .i64 x4, .int .i64 x5] 40 (0, 0)) from heap_alloc_new _ _)
  have G1 := hid (((Gr.refl w).alloc (.cells #[.int .i64 x0, .int .i64 x1, .int .i64 x2, .int .i64 x3, .int .i64 x4, .int .i64 x5] 40)))
  generalize w.alloc (.cells #[.int .i64 x0, .int .i64 x1, .int .i64 x2, .int .i64 x3, .int .i64 x4, .int .i64 x5] 40) = W1 at *
  go_loopw [5] (fun i wr => ∃ k : Nat, k ≤ L.length ∧ i = .int .i64 k ∧ Gr W1 wr ∧ ∀ t, t < k → cmpI (L.getD t z0) (x0, x1, x2, x3, x4, x5) < 0) (fun i _ => L.length - (intOf i).toNat)
  case atStart => exact ⟨0, Nat.zero_le _, rfl, Gr.refl _, fun t ht => by omega⟩
  case round =>
    obtain ⟨k, hk, rfl, hg, hno⟩ := hrel
    have HG := hid hg
    have HN := hid hno
    have GG := hid (G1.out.trans hg)
    have hsz := GG.out.size
    have c0 := (H.out.gr GG.out).c0
    have f0 := (H.out.gr GG.out).f0
    have hlt2 : g < wr.heap.size := by omega
    have hb := (HG.out.block w.heap.size (Array.getElem?_eq_some_iff.1 HB.out).1).trans HB.out
    obtain ⟨b0, b1, b2, b3, b4, b5, _⟩ := heap6' hb
    have hbl : w.heap.size < wr.heap.size := (Array.getElem?_eq_some_iff.1 hb).1
    have hc : ∀ j u, (cs6 L)[j]? = some u → wr.cell? ⟨r, j, none⟩ = some u := fun j u hu => (GG.out.cell (p := ⟨r, j, none⟩) hrw).trans (HCC.out j u hu)
    have HC := hid hc
    have HBR := hid hb
    have hh : ∀ j u, (cs6 (L.take k))[j]? = some u → wr.cell? ((⟨r, 0, none⟩ : Addr).add j) = some u := fun j u hu => by
      rw [Addr.add_lit, Nat.zero_add]
      rw [cs6_take, List.getElem?_take] at hu
      split at hu
      · exact hc _ _ hu
      · cases hu
    have HH := hid hh
    have HTL := hid (show (cs6 (L.take k)).length = k * 6 by rw [cs6_length, List.length_take]; congr 1; omega)
    have hkc : k ≤ cp := by omega
    clear hh
    have hrr : r < wr.heap.size := by omega
    clear hg hno hb hc
    by_cases hgo : k < L.length ∧ cmpI (L.getD k z0) (x0, x1, x2, x3, x4, x5) < 0
    · obtain ⟨hlt3, hcm3⟩ := hgo
      obtain ⟨d0, d1, d2, d3, d4, d5⟩ := six_at HC.out hlt3
      have HCM := hid hcm3
      obtain ⟨⟨a, b, c, d, e, f⟩, hy⟩ : ∃ y, L.getD k z0 = y := ⟨_, rfl⟩
      rw [hy] at d0 d1 d2 d3 d4 d5 hcm3
      simp only at d0 d1 d2 d3 d4 d5
      have HL6 := hid (fun W => lessR6 a b c d e f x0 x1 x2 x3 x4 x5 W)
      rw [decide_eq_true hcm3] at HL6
      clear hy hcm3
      go_wp2_with fail
      refine wp_region_ext (by kernel_rfl) (by kernel_rfl) ?_
      repeat (go_big_quiet_step ((go_at_call 16; exact calls_ext _ (HL6.out _))))
      refine wpQuiet_nil ?_
      rintro _ ⟨z, rfl⟩
      go_wp2_with fail
      go_roundw
      case rel =>
        refine ⟨k + 1, by omega, by go_num, HG.out.ext z, fun t ht => ?_⟩
        by_cases e : t = k
        · subst e; exact HCM.out
        · exact HN.out t (by omega)
      case measure => simp [intOf]; omega
    · have hstop : k < L.length → ¬ cmpI (L.getD k z0) (x0, x1, x2, x3, x4, x5) < 0 := fun h1 h2 => hgo ⟨h1, h2⟩
      have HP := hid (pos_is hk HN.out hstop)
      clear hgo
      have hcase : (k = L.length ∧ has L (x0, x1, x2, x3, x4, x5) = false) ∨ (k < L.length ∧ L.getD k z0 = (x0, x1, x2, x3, x4, x5) ∧ has L (x0, x1, x2, x3, x4, x5) = true) ∨ (k < L.length ∧ L.getD k z0 ≠ (x0, x1, x2, x3, x4, x5) ∧ has L (x0, x1, x2, x3, x4, x5) = false) := by
        unfold has
        rw [HP.out]
        by_cases h1 : k < L.length
        · by_cases h2 : L.getD k z0 = (x0, x1, x2, x3, x4, x5)
          · exact .inr (.inl ⟨h1, h2, by rw [decide_eq_true h1, decide_eq_true h2]; rfl⟩)
          · exact .inr (.inr ⟨h1, h2, by rw [decide_eq_false h2, Bool.and_false]⟩)
        · exact .inl ⟨by omega, by rw [decide_eq_false h1, Bool.false_and]⟩
      rcases hcase with ⟨hke, hF⟩ | ⟨hlt3, hxy, hF⟩ | ⟨hlt3, hxy, hF⟩
      · have HF := hid hF
        have HKE := hid hke
        have hkd : ¬ k < L.length := by omega
        have hkd2 : decide ((k : Int) < (L.length : Int)) = false := decide_eq_false (by omega)
        clear hF hstop hke
        go_wp2_with fail
        refine wp_region_ext (by kernel_rfl) (by kernel_rfl) ?_
        repeat (go_big_quiet_step (fail))
        refine wpQuiet_nil ?_
        rintro _ ⟨z1, rfl⟩
        go_wp2_with fail
        refine wp_region_ext (by kernel_rfl) (by kernel_rfl) ?_
        repeat (go_big_quiet_step (fail))
        refine wpQuiet_nil ?_
        rintro _ ⟨z2, rfl⟩
        go_wp2_with fail
        have GW := hid ((GG.out.ext z1).ext z2)
        have hcz := GW.out.size
        have hWr := z1.gr.trans z2.gr
        generalize z2.val = W2 at *
        have c02 := (H.out.gr GW.out).c0
        have f02 := (H.out.gr GW.out).f0
        have hg02 : g < W2.heap.size := by omega
        have HB2 := hid ((hWr.block w.heap.size hbl).trans HBR.out)
        obtain ⟨q0, q1, q2, q3, q4, q5, _⟩ := heap6' HB2.out
        have hq : w.heap.size < W2.heap.size := (Array.getElem?_eq_some_iff.1 HB2.out).1
        go_cut [6] from 45 to 55 (fun s wx => ∃ D c, s = .slice D (k + 1) c ∧ wx.ownsRow W2.heap.size 40 6 s (k + 1) (cs6 (L.take k) ++ [.int .i64 x0, .int .i64 x1, .int .i64 x2, .int .i64 x3, .int .i64 x4, .int .i64 x5]) ∧ Gr W2 wx)
        case first =>
          have HE := hid (World.ownsRow_made (base := W2.heap.size) (e := 40) (size := 6) W2 #[] 0 (Nat.le_refl _) (by decide) rfl)
          have HE2 := hid (show ((W2.alloc (.cells #[.int .i64 x0, .int .i64 x1, .int .i64 x2, .int .i64 x3, .int .i64 x4, .int .i64 x5] 40)).alloc (.cells #[] 40)).ownsRow W2.heap.size 40 6 (.slice (some ⟨W2.heap.size + 1, 0, none⟩) 0 0) 0 [] by
            have := World.ownsRow_made (base := W2.heap.size) (e := 40) (size := 6) (W2.alloc (.cells #[.int .i64 x0, .int .i64 x1, .int .i64 x2, .int .i64 x3, .int .i64 x4, .int .i64 x5] 40)) #[] 0 (by simp) (by decide) rfl
            rw [show (W2.alloc (.cells #[.int .i64 x0, .int .i64 x1, .int .i64 x2, .int .i64 x3, .int .i64 x4, .int .i64 x5] 40)).heap.size = W2.heap.size + 1 by simp] at this
            exact this)
          have HX1 := hid (show ((W2.alloc (.cells #[] 40)).alloc (.cells #[.int .i64 x0, .int .i64 x1, .int .i64 x2, .int .i64 x3, .int .i64 x4, .int .i64 x5] 40)).heap[W2.heap.size + 1]? = some (.cells #[.int .i64 x0, .int .i64 x1, .int .i64 x2, .int .i64 x3, .int .i64 x4, .int .i64 x5] 40 (0, 0)) by
            have := heap_alloc_new (W2.alloc (.cells #[] 40)) (.cells #[.int .i64 x0, .int .i64 x1, .int .i64 x2, .int .i64 x3, .int .i64 x4, .int .i64 x5] 40)
            rw [show (W2.alloc (.cells #[] 40)).heap.size = W2.heap.size + 1 by simp] at this
            exact this)
          have HX2 := hid (show ((W2.alloc (.cells #[.int .i64 x0, .int .i64 x1, .int .i64 x2, .int .i64 x3, .int .i64 x4, .int .i64 x5] 40)).alloc (.cells #[] 40)).heap[W2.heap.size]? = some (.cells #[.int .i64 x0, .int .i64 x1, .int .i64 x2, .int .i64 x3, .int .i64 x4, .int .i64 x5] 40 (0, 0)) from (((Gr.refl _).alloc _).block _ (by simp)).trans (heap_alloc_new W2 _))
          go_region_law (first
            | (refine step_append_own (by rfl) (.tmp 45) (.tmp 51) 49 (by rfl) W2.heap.size 40 i0 _ 6 48 Try.underlying49 hi0 hz0 hz1 hz2 rfl (by decide) (.slice (some ⟨W2.heap.size, 0, none⟩) 0 0) 0 [] (by rfl) (by first | exact HE.out | exact HE.out.drew | exact HE.out.drew.drew) ⟨r, 0, none⟩ k cp (cs6 (L.take k)) (by rfl) HTL.out (cell_keep HH.out (by repeat (first | exact hWr | exact Gr.refl _ | assumption | refine Gr.alloc ?_ _ | refine Gr.drew ?_))) (cs6_one _) (by unfold maxLen; omega) (by omega) (by simp) ?_
               intro v1 w2 hown1 hgr1 _
               obtain ⟨D1, n1, rfl⟩ : ∃ D1 n1, v1 = .slice D1 k n1 := by have := own_shape hown1; rwa [Nat.zero_add] at this
               have HW2 := hid (show Gr W2 w2 from gr_grown (by repeat (first | exact Gr.refl _ | assumption | refine Gr.alloc ?_ _ | refine Gr.drew ?_)) hgr1 (by intro k hk; simp [Value.ownBlock] at hk; omega))
               have hsz2 := HW2.out.size
               have HO1 := hid (show w2.ownsRow W2.heap.size 40 6 (.slice D1 k n1) k (cs6 (L.take k)) by have := hown1; rwa [Nat.zero_add, List.nil_append] at this)
               have HB3 := hid ((HW2.out.block w.heap.size hq).trans HB2.out)
               obtain ⟨q20, q21, q22, q23, q24, q25, _⟩ := heap6' HB3.out
               have hq2 : w.heap.size < w2.heap.size := (Array.getElem?_eq_some_iff.1 HB3.out).1
               have HXB := hid (show w2.heap.size = w2.heap.size from rfl)
               clear hown1 hgr1)
            | (refine step_append_own (by rfl) (.tmp 45) (.tmp 51) 49 (by rfl) W2.heap.size 40 i0 _ 6 48 Try.underlying49 hi0 hz0 hz1 hz2 rfl (by decide) (.slice (some ⟨W2.heap.size, 0, none⟩) 0 0) 0 [] (by rfl) (own_gr HE.out (by repeat (first | exact Gr.refl _ | assumption | refine Gr.alloc ?_ _ | refine Gr.drew ?_))) ⟨r, 0, none⟩ k cp (cs6 (L.take k)) (by rfl) HTL.out (cell_keep HH.out (by repeat (first | exact hWr | exact Gr.refl _ | assumption | refine Gr.alloc ?_ _ | refine Gr.drew ?_))) (cs6_one _) (by unfold maxLen; omega) (by omega) (by simp; omega) ?_
               intro v1 w2 hown1 hgr1 _
               obtain ⟨D1, n1, rfl⟩ : ∃ D1 n1, v1 = .slice D1 k n1 := by have := own_shape hown1; rwa [Nat.zero_add] at this
               have HW2 := hid (show Gr W2 w2 from gr_grown (by repeat (first | exact Gr.refl _ | assumption | refine Gr.alloc ?_ _ | refine Gr.drew ?_)) hgr1 (by intro k hk; simp [Value.ownBlock] at hk; omega))
               have hsz2 := HW2.out.size
               have HO1 := hid (show w2.ownsRow W2.heap.size 40 6 (.slice D1 k n1) k (cs6 (L.take k)) by have := hown1; rwa [Nat.zero_add, List.nil_append] at this)
               have HXB := hid (show w2.heap[W2.heap.size + 1]? = some (.cells #[.int .i64 x0, .int .i64 x1, .int .i64 x2, .int .i64 x3, .int .i64 x4, .int .i64 x5] 40 (0, 0)) from (hgr1.block (W2.heap.size + 1) (by simp) (by simp [Value.ownBlock])).trans HX1.out)
               clear hown1 hgr1)
            | (refine step_append_own (by rfl) (.tmp 45) (.tmp 51) 49 (by rfl) W2.heap.size 40 i0 _ 6 48 Try.underlying49 hi0 hz0 hz1 hz2 rfl (by decide) (.slice (some ⟨W2.heap.size + 1, 0, none⟩) 0 0) 0 [] (by rfl) (own_gr HE2.out (by repeat (first | exact Gr.refl _ | assumption | refine Gr.alloc ?_ _ | refine Gr.drew ?_))) ⟨r, 0, none⟩ k cp (cs6 (L.take k)) (by rfl) HTL.out (cell_keep HH.out (by repeat (first | exact hWr | exact Gr.refl _ | assumption | refine Gr.alloc ?_ _ | refine Gr.drew ?_))) (cs6_one _) (by unfold maxLen; omega) (by omega) (by simp; omega) ?_
               intro v1 w2 hown1 hgr1 _
               obtain ⟨D1, n1, rfl⟩ : ∃ D1 n1, v1 = .slice D1 k n1 := by have := own_shape hown1; rwa [Nat.zero_add] at this
               have HW2 := hid (show Gr W2 w2 from gr_grown (by repeat (first | exact Gr.refl _ | assumption | refine Gr.alloc ?_ _ | refine Gr.drew ?_)) hgr1 (by intro k hk; simp [Value.ownBlock] at hk; omega))
               have hsz2 := HW2.out.size
               have HO1 := hid (show w2.ownsRow W2.heap.size 40 6 (.slice D1 k n1) k (cs6 (L.take k)) by have := hown1; rwa [Nat.zero_add, List.nil_append] at this)
               have HXB := hid (show w2.heap[W2.heap.size]? = some (.cells #[.int .i64 x0, .int .i64 x1, .int .i64 x2, .int .i64 x3, .int .i64 x4, .int .i64 x5] 40 (0, 0)) from (hgr1.block W2.heap.size (by simp; omega) (by simp [Value.ownBlock])).trans HX2.out)
               clear hown1 hgr1)
            | (refine step_append_own (by rfl) (.tmp 52) (.tmp 54) 49 (by rfl) W2.heap.size 40 i0 _ 6 48 Try.underlying49 hi0 hz0 hz1 hz2 rfl (by decide) (.slice D1 k n1) k (cs6 (L.take k)) (by rfl) (own_gr HO1.out (by repeat (first | exact Gr.refl _ | assumption | refine Gr.alloc ?_ _ | refine Gr.drew ?_))) ⟨w2.heap.size, 0, none⟩ 1 1 [.int .i64 x0, .int .i64 x1, .int .i64 x2, .int .i64 x3, .int .i64 x4, .int .i64 x5] (by rfl) rfl (World.news_of_block (cs := #[.int .i64 x0, .int .i64 x1, .int .i64 x2, .int .i64 x3, .int .i64 x4, .int .i64 x5]) (t := 40) (fr := (0, 0)) (by first | exact heap_alloc_new w2 _ | exact heap_alloc_new w2.drew _)) (by simp [Value.oneCell']) (by unfold maxLen; omega) (by omega) (by simp; omega) ?_
               intro v2 w3 hown2 hgr2 _
               obtain ⟨D2, c2, rfl⟩ := own_shape hown2
               have HW3 := hid (show Gr W2 w3 from gr_grown (HW2.out.trans (by repeat (first | exact Gr.refl _ | assumption | refine Gr.alloc ?_ _ | refine Gr.drew ?_))) hgr2 (fun q e => (HO1.out.lt q e).1))
               have HO2 := hid hown2
               clear hown2 hgr2)
            | (refine step_append_own (by rfl) (.tmp 52) (.tmp 54) 49 (by rfl) W2.heap.size 40 i0 _ 6 48 Try.underlying49 hi0 hz0 hz1 hz2 rfl (by decide) (.slice D1 k n1) k (cs6 (L.take k)) (by rfl) HO1.out ⟨W2.heap.size + 1, 0, none⟩ 1 1 [.int .i64 x0, .int .i64 x1, .int .i64 x2, .int .i64 x3, .int .i64 x4, .int .i64 x5] (by rfl) rfl (World.news_of_block (cs := #[.int .i64 x0, .int .i64 x1, .int .i64 x2, .int .i64 x3, .int .i64 x4, .int .i64 x5]) (t := 40) (fr := (0, 0)) HXB.out) (by simp [Value.oneCell']) (by unfold maxLen; omega) (by omega) hsz2 ?_
               intro v2 w3 hown2 hgr2 _
               obtain ⟨D2, c2, rfl⟩ := own_shape hown2
               have HW3 := hid (show Gr W2 w3 from gr_grown HW2.out hgr2 (fun q e => (HO1.out.lt q e).1))
               have HO2 := hid hown2
               clear hown2 hgr2)
            | (refine step_append_own (by rfl) (.tmp 52) (.tmp 54) 49 (by rfl) W2.heap.size 40 i0 _ 6 48 Try.underlying49 hi0 hz0 hz1 hz2 rfl (by decide) (.slice D1 k n1) k (cs6 (L.take k)) (by rfl) HO1.out ⟨W2.heap.size, 0, none⟩ 1 1 [.int .i64 x0, .int .i64 x1, .int .i64 x2, .int .i64 x3, .int .i64 x4, .int .i64 x5] (by rfl) rfl (World.news_of_block (cs := #[.int .i64 x0, .int .i64 x1, .int .i64 x2, .int .i64 x3, .int .i64 x4, .int .i64 x5]) (t := 40) (fr := (0, 0)) HXB.out) (by simp [Value.oneCell']) (by unfold maxLen; omega) (by omega) hsz2 ?_
               intro v2 w3 hown2 hgr2 _
               obtain ⟨D2, c2, rfl⟩ := own_shape hown2
               have HW3 := hid (show Gr W2 w3 from gr_grown HW2.out hgr2 (fun q e => (HO1.out.lt q e).1))
               have HO2 := hid hown2
               clear hown2 hgr2))
          all_goals (
            go_wp2_with fail
            go_meet
            exact ⟨D2, c2, rfl, HO2.out, HW3.out⟩)
        case rest =>
          obtain ⟨D2, c2, rfl, ho2, hw3⟩ := hcut
          have HO2 := hid ho2
          have HW3 := hid hw3
          clear ho2 hw3
          generalize wc = w3 at *
          have GF := hid (GW.out.trans HW3.out)
          have c03 := (H.out.gr GF.out).c0
          have f03 := (H.out.gr GF.out).f0
          have hg3 : g < w3.heap.size := Nat.lt_of_lt_of_le hlt GF.out.size
          obtain ⟨ad, had, ht⟩ := tail_at (i := k) HC.out hcap
          have HT := hid ht
          have hdl : (cs6 (L.drop k)).length = (L.length - k) * 6 := by rw [cs6_length, List.length_drop]
          have HDL := hid hdl
          clear ht hdl
          go_wp2_with (at_builtin; refine wpList_append_own _ rfl _ _ 49 rfl W2.heap.size 40 i0 _ 6 48 Try.underlying49 hi0 hz0 hz1 hz2 rfl (by decide) (.slice D2 (k + 1) c2) (k + 1) (cs6 (L.take k) ++ [.int .i64 x0, .int .i64 x1, .int .i64 x2, .int .i64 x3, .int .i64 x4, .int .i64 x5]) rfl HO2.out ad (L.length - k) (cp - k) (cs6 (L.drop k)) rfl HDL.out (cell_keep HT.out (hWr.trans HW3.out)) (cs6_one _) (by unfold maxLen; omega) (by omega) HW3.out.size ?_
                       intro v4 w4 hown4 hgr4 _
                       obtain ⟨D4, n4, c4, rfl⟩ : ∃ D4 n4 c4, v4 = .slice D4 n4 c4 := by obtain ⟨D4, c4, e⟩ := own_shape hown4; exact ⟨_, _, _, e⟩
                       have HW4 := hid (show Gr W2 w4 from gr_grown HW3.out hgr4 (fun q e => (HO2.out.lt q e).1))
                       have GF4 := hid (GW.out.trans HW4.out)
                       have c04 := (H.out.gr GF4.out).c0
                       have f04 := (H.out.gr GF4.out).f0
                       have hg4 : g < w4.heap.size := Nat.lt_of_lt_of_le hlt GF4.out.size
                       have HO4 := hid hown4
                       clear hown4 hgr4)
          go_ret
          have HC4 := (GF4.out.block g hlt).trans H.out.cell
          have e0 : addF L (x0, x1, x2, x3, x4, x5) = L.take k ++ ((x0, x1, x2, x3, x4, x5) :: L.drop k) := by rw [add_ins HF.out]; unfold ins; rw [HP.out]
          have e2 : cs6 (L.take k ++ ((x0, x1, x2, x3, x4, x5) :: L.drop k)) = cs6 (L.take k) ++ [.int .i64 x0, .int .i64 x1, .int .i64 x2, .int .i64 x3, .int .i64 x4, .int .i64 x5] ++ cs6 (L.drop k) := by
            rw [cs6_app, List.append_assoc]; rfl
          have e1 : (L.take k ++ ((x0, x1, x2, x3, x4, x5) :: L.drop k)).length = k + 1 + (L.length - k) := by
            rw [List.length_append, List.length_take, List.length_cons, List.length_drop]; omega
          refine ⟨.slice D4 n4 c4, by rw [HF.out]; rfl, ?_, (GF4.out.mod (fun k => k = g)).set (p := ⟨g, 0, none⟩) (fun _ => rfl) _⟩
          rw [e0]
          refine RB.set H.out.lo HC4 ?_
          rw [e1, e2]
          exact HO4.out.mono (Nat.le_trans hbase (by omega))
      · have HF := hid hF
        have hst := hstop hlt3
        obtain ⟨d0, d1, d2, d3, d4, d5⟩ := six_at HC.out hlt3
        have HL6 := hid (fun W => lessR6 x0 x1 x2 x3 x4 x5 x0 x1 x2 x3 x4 x5 W)
        rw [decide_eq_false (show ¬ cmpI (x0, x1, x2, x3, x4, x5) (x0, x1, x2, x3, x4, x5) < 0 by rw [cmpI_self]; omega)] at HL6
        have hee := fun W : World => eq40 (w := W) x0 x1 x2 x3 x4 x5 x0 x1 x2 x3 x4 x5
        rw [decide_eq_true rfl] at hee
        rw [hxy] at d0 d1 d2 d3 d4 d5
        simp only at d0 d1 d2 d3 d4 d5
        clear hF hstop hst hxy
        go_wp2_with fail
        refine wp_region_ext (by kernel_rfl) (by kernel_rfl) ?_
        repeat (go_big_quiet_step ((go_at_call 16; exact calls_ext _ (HL6.out _))))
        refine wpQuiet_nil ?_
        rintro _ ⟨z1, rfl⟩
        go_wp2_with fail
        refine wp_region_ext (by kernel_rfl) (by kernel_rfl) ?_
        repeat (go_big_quiet_step (fail))
        refine wpQuiet_nil ?_
        rintro _ ⟨z2, rfl⟩
        go_wp2_with fail
        go_ret
        have GF := (GG.out.ext z1).ext z2
        refine ⟨.slice (some ⟨r, 0, none⟩) L.length cp, by rw [HF.out]; rfl, ?_, GF.mod _⟩
        unfold addF
        rw [HF.out, if_pos rfl]
        exact H.out.gr GF
      · have HF := hid hF
        have hst := hstop hlt3
        obtain ⟨d0, d1, d2, d3, d4, d5⟩ := six_at HC.out hlt3
        obtain ⟨⟨a, b, c, d, e, f⟩, hy⟩ : ∃ y, L.getD k z0 = y := ⟨_, rfl⟩
        rw [hy] at d0 d1 d2 d3 d4 d5 hst hxy
        simp only at d0 d1 d2 d3 d4 d5
        have HL6 := hid (fun W => lessR6 a b c d e f x0 x1 x2 x3 x4 x5 W)
        rw [decide_eq_false hst] at HL6
        have hee := fun W : World => eq40 (w := W) x0 x1 x2 x3 x4 x5 a b c d e f
        rw [decide_eq_false hxy] at hee
        clear hF hstop hst hxy hy
        go_wp2_with fail
        refine wp_region_ext (by kernel_rfl) (by kernel_rfl) ?_
        repeat (go_big_quiet_step ((go_at_call 16; exact calls_ext _ (HL6.out _))))
        refine wpQuiet_nil ?_
        rintro _ ⟨z1, rfl⟩
        go_wp2_with fail
        refine wp_region_ext (by kernel_rfl) (by kernel_rfl) ?_
        repeat (go_big_quiet_step (fail))
        refine wpQuiet_nil ?_
        rintro _ ⟨z2, rfl⟩
        go_wp2_with fail
        have GW := hid ((GG.out.ext z1).ext z2)
        have hcz := GW.out.size
        have hWr := z1.gr.trans z2.gr
        generalize z2.val = W2 at *
        have c02 := (H.out.gr GW.out).c0
        have f02 := (H.out.gr GW.out).f0
        have hg02 : g < W2.heap.size := by omega
        have HB2 := hid ((hWr.block w.heap.size hbl).trans HBR.out)
        obtain ⟨q0, q1, q2, q3, q4, q5, _⟩ := heap6' HB2.out
        have hq : w.heap.size < W2.heap.size := (Array.getElem?_eq_some_iff.1 HB2.out).1
        go_cut [6] from 45 to 55 (fun s wx => ∃ D c, s = .slice D (k + 1) c ∧ wx.ownsRow W2.heap.size 40 6 s (k + 1) (cs6 (L.take k) ++ [.int .i64 x0, .int .i64 x1, .int .i64 x2, .int .i64 x3, .int .i64 x4, .int .i64 x5]) ∧ Gr W2 wx)
        case first =>
          have HE := hid (World.ownsRow_made (base := W2.heap.size) (e := 40) (size := 6) W2 #[] 0 (Nat.le_refl _) (by decide) rfl)
          have HE2 := hid (show ((W2.alloc (.cells #[.int .i64 x0, .int .i64 x1, .int .i64 x2, .int .i64 x3, .int .i64 x4, .int .i64 x5] 40)).alloc (.cells #[] 40)).ownsRow W2.heap.size 40 6 (.slice (some ⟨W2.heap.size + 1, 0, none⟩) 0 0) 0 [] by
            have := World.ownsRow_made (base := W2.heap.size) (e := 40) (size := 6) (W2.alloc (.cells #[.int .i64 x0, .int .i64 x1, .int .i64 x2, .int .i64 x3, .int .i64 x4, .int .i64 x5] 40)) #[] 0 (by simp) (by decide) rfl
            rw [show (W2.alloc (.cells #[.int .i64 x0, .int .i64 x1, .int .i64 x2, .int .i64 x3, .int .i64 x4, .int .i64 x5] 40)).heap.size = W2.heap.size + 1 by simp] at this
            exact this)
          have HX1 := hid (show ((W2.alloc (.cells #[] 40)).alloc (.cells #[.int .i64 x0, .int .i64 x1, .int .i64 x2, .int .i64 x3, .int .i64 x4, .int .i64 x5] 40)).heap[W2.heap.size + 1]? = some (.cells #[.int .i64 x0, .int .i64 x1, .int .i64 x2, .int .i64 x3, .int .i64 x4, .int .i64 x5] 40 (0, 0)) by
            have := heap_alloc_new (W2.alloc (.cells #[] 40)) (.cells #[.int .i64 x0, .int .i64 x1, .int .i64 x2, .int .i64 x3, .int .i64 x4, .int .i64 x5] 40)
            rw [show (W2.alloc (.cells #[] 40)).heap.size = W2.heap.size + 1 by simp] at this
            exact this)
          have HX2 := hid (show ((W2.alloc (.cells #[.int .i64 x0, .int .i64 x1, .int .i64 x2, .int .i64 x3, .int .i64 x4, .int .i64 x5] 40)).alloc (.cells #[] 40)).heap[W2.heap.size]? = some (.cells #[.int .i64 x0, .int .i64 x1, .int .i64 x2, .int .i64 x3, .int .i64 x4, .int .i64 x5] 40 (0, 0)) from (((Gr.refl _).alloc _).block _ (by simp)).trans (heap_alloc_new W2 _))
          go_region_law (first
            | (refine step_append_own (by rfl) (.tmp 45) (.tmp 51) 49 (by rfl) W2.heap.size 40 i0 _ 6 48 Try.underlying49 hi0 hz0 hz1 hz2 rfl (by decide) (.slice (some ⟨W2.heap.size, 0, none⟩) 0 0) 0 [] (by rfl) (by first | exact HE.out | exact HE.out.drew | exact HE.out.drew.drew) ⟨r, 0, none⟩ k cp (cs6 (L.take k)) (by rfl) HTL.out (cell_keep HH.out (by repeat (first | exact hWr | exact Gr.refl _ | assumption | refine Gr.alloc ?_ _ | refine Gr.drew ?_))) (cs6_one _) (by unfold maxLen; omega) (by omega) (by simp) ?_
               intro v1 w2 hown1 hgr1 _
               obtain ⟨D1, n1, rfl⟩ : ∃ D1 n1, v1 = .slice D1 k n1 := by have := own_shape hown1; rwa [Nat.zero_add] at this
               have HW2 := hid (show Gr W2 w2 from gr_grown (by repeat (first | exact Gr.refl _ | assumption | refine Gr.alloc ?_ _ | refine Gr.drew ?_)) hgr1 (by intro k hk; simp [Value.ownBlock] at hk; omega))
               have hsz2 := HW2.out.size
               have HO1 := hid (show w2.ownsRow W2.heap.size 40 6 (.slice D1 k n1) k (cs6 (L.take k)) by have := hown1; rwa [Nat.zero_add, List.nil_append] at this)
               have HB3 := hid ((HW2.out.block w.heap.size hq).trans HB2.out)
               obtain ⟨q20, q21, q22, q23, q24, q25, _⟩ := heap6' HB3.out
               have hq2 : w.heap.size < w2.heap.size := (Array.getElem?_eq_some_iff.1 HB3.out).1
               have HXB := hid (show w2.heap.size = w2.heap.size from rfl)
               clear hown1 hgr1)
            | (refine step_append_own (by rfl) (.tmp 45) (.tmp 51) 49 (by rfl) W2.heap.size 40 i0 _ 6 48 Try.underlying49 hi0 hz0 hz1 hz2 rfl (by decide) (.slice (some ⟨W2.heap.size, 0, none⟩) 0 0) 0 [] (by rfl) (own_gr HE.out (by repeat (first | exact Gr.refl _ | assumption | refine Gr.alloc ?_ _ | refine Gr.drew ?_))) ⟨r, 0, none⟩ k cp (cs6 (L.take k)) (by rfl) HTL.out (cell_keep HH.out (by repeat (first | exact hWr | exact Gr.refl _ | assumption | refine Gr.alloc ?_ _ | refine Gr.drew ?_))) (cs6_one _) (by unfold maxLen; omega) (by omega) (by simp; omega) ?_
               intro v1 w2 hown1 hgr1 _
               obtain ⟨D1, n1, rfl⟩ : ∃ D1 n1, v1 = .slice D1 k n1 := by have := own_shape hown1; rwa [Nat.zero_add] at this
               have HW2 := hid (show Gr W2 w2 from gr_grown (by repeat (first | exact Gr.refl _ | assumption | refine Gr.alloc ?_ _ | refine Gr.drew ?_)) hgr1 (by intro k hk; simp [Value.ownBlock] at hk; omega))
               have hsz2 := HW2.out.size
               have HO1 := hid (show w2.ownsRow W2.heap.size 40 6 (.slice D1 k n1) k (cs6 (L.take k)) by have := hown1; rwa [Nat.zero_add, List.nil_append] at this)
               have HXB := hid (show w2.heap[W2.heap.size + 1]? = some (.cells #[.int .i64 x0, .int .i64 x1, .int .i64 x2, .int .i64 x3, .int .i64 x4, .int .i64 x5] 40 (0, 0)) from (hgr1.block (W2.heap.size + 1) (by simp) (by simp [Value.ownBlock])).trans HX1.out)
               clear hown1 hgr1)
            | (refine step_append_own (by rfl) (.tmp 45) (.tmp 51) 49 (by rfl) W2.heap.size 40 i0 _ 6 48 Try.underlying49 hi0 hz0 hz1 hz2 rfl (by decide) (.slice (some ⟨W2.heap.size + 1, 0, none⟩) 0 0) 0 [] (by rfl) (own_gr HE2.out (by repeat (first | exact Gr.refl _ | assumption | refine Gr.alloc ?_ _ | refine Gr.drew ?_))) ⟨r, 0, none⟩ k cp (cs6 (L.take k)) (by rfl) HTL.out (cell_keep HH.out (by repeat (first | exact hWr | exact Gr.refl _ | assumption | refine Gr.alloc ?_ _ | refine Gr.drew ?_))) (cs6_one _) (by unfold maxLen; omega) (by omega) (by simp; omega) ?_
               intro v1 w2 hown1 hgr1 _
               obtain ⟨D1, n1, rfl⟩ : ∃ D1 n1, v1 = .slice D1 k n1 := by have := own_shape hown1; rwa [Nat.zero_add] at this
               have HW2 := hid (show Gr W2 w2 from gr_grown (by repeat (first | exact Gr.refl _ | assumption | refine Gr.alloc ?_ _ | refine Gr.drew ?_)) hgr1 (by intro k hk; simp [Value.ownBlock] at hk; omega))
               have hsz2 := HW2.out.size
               have HO1 := hid (show w2.ownsRow W2.heap.size 40 6 (.slice D1 k n1) k (cs6 (L.take k)) by have := hown1; rwa [Nat.zero_add, List.nil_append] at this)
               have HXB := hid (show w2.heap[W2.heap.size]? = some (.cells #[.int .i64 x0, .int .i64 x1, .int .i64 x2, .int .i64 x3, .int .i64 x4, .int .i64 x5] 40 (0, 0)) from (hgr1.block W2.heap.size (by simp; omega) (by simp [Value.ownBlock])).trans HX2.out)
               clear hown1 hgr1)
            | (refine step_append_own (by rfl) (.tmp 52) (.tmp 54) 49 (by rfl) W2.heap.size 40 i0 _ 6 48 Try.underlying49 hi0 hz0 hz1 hz2 rfl (by decide) (.slice D1 k n1) k (cs6 (L.take k)) (by rfl) (own_gr HO1.out (by repeat (first | exact Gr.refl _ | assumption | refine Gr.alloc ?_ _ | refine Gr.drew ?_))) ⟨w2.heap.size, 0, none⟩ 1 1 [.int .i64 x0, .int .i64 x1, .int .i64 x2, .int .i64 x3, .int .i64 x4, .int .i64 x5] (by rfl) rfl (World.news_of_block (cs := #[.int .i64 x0, .int .i64 x1, .int .i64 x2, .int .i64 x3, .int .i64 x4, .int .i64 x5]) (t := 40) (fr := (0, 0)) (by first | exact heap_alloc_new w2 _ | exact heap_alloc_new w2.drew _)) (by simp [Value.oneCell']) (by unfold maxLen; omega) (by omega) (by simp; omega) ?_
               intro v2 w3 hown2 hgr2 _
               obtain ⟨D2, c2, rfl⟩ := own_shape hown2
               have HW3 := hid (show Gr W2 w3 from gr_grown (HW2.out.trans (by repeat (first | exact Gr.refl _ | assumption | refine Gr.alloc ?_ _ | refine Gr.drew ?_))) hgr2 (fun q e => (HO1.out.lt q e).1))
               have HO2 := hid hown2
               clear hown2 hgr2)
            | (refine step_append_own (by rfl) (.tmp 52) (.tmp 54) 49 (by rfl) W2.heap.size 40 i0 _ 6 48 Try.underlying49 hi0 hz0 hz1 hz2 rfl (by decide) (.slice D1 k n1) k (cs6 (L.take k)) (by rfl) HO1.out ⟨W2.heap.size + 1, 0, none⟩ 1 1 [.int .i64 x0, .int .i64 x1, .int .i64 x2, .int .i64 x3, .int .i64 x4, .int .i64 x5] (by rfl) rfl (World.news_of_block (cs := #[.int .i64 x0, .int .i64 x1, .int .i64 x2, .int .i64 x3, .int .i64 x4, .int .i64 x5]) (t := 40) (fr := (0, 0)) HXB.out) (by simp [Value.oneCell']) (by unfold maxLen; omega) (by omega) hsz2 ?_
               intro v2 w3 hown2 hgr2 _
               obtain ⟨D2, c2, rfl⟩ := own_shape hown2
               have HW3 := hid (show Gr W2 w3 from gr_grown HW2.out hgr2 (fun q e => (HO1.out.lt q e).1))
               have HO2 := hid hown2
               clear hown2 hgr2)
            | (refine step_append_own (by rfl) (.tmp 52) (.tmp 54) 49 (by rfl) W2.heap.size 40 i0 _ 6 48 Try.underlying49 hi0 hz0 hz1 hz2 rfl (by decide) (.slice D1 k n1) k (cs6 (L.take k)) (by rfl) HO1.out ⟨W2.heap.size, 0, none⟩ 1 1 [.int .i64 x0, .int .i64 x1, .int .i64 x2, .int .i64 x3, .int .i64 x4, .int .i64 x5] (by rfl) rfl (World.news_of_block (cs := #[.int .i64 x0, .int .i64 x1, .int .i64 x2, .int .i64 x3, .int .i64 x4, .int .i64 x5]) (t := 40) (fr := (0, 0)) HXB.out) (by simp [Value.oneCell']) (by unfold maxLen; omega) (by omega) hsz2 ?_
               intro v2 w3 hown2 hgr2 _
               obtain ⟨D2, c2, rfl⟩ := own_shape hown2
               have HW3 := hid (show Gr W2 w3 from gr_grown HW2.out hgr2 (fun q e => (HO1.out.lt q e).1))
               have HO2 := hid hown2
               clear hown2 hgr2))
          all_goals (
            go_wp2_with fail
            go_meet
            exact ⟨D2, c2, rfl, HO2.out, HW3.out⟩)
        case rest =>
          obtain ⟨D2, c2, rfl, ho2, hw3⟩ := hcut
          have HO2 := hid ho2
          have HW3 := hid hw3
          clear ho2 hw3
          generalize wc = w3 at *
          have GF := hid (GW.out.trans HW3.out)
          have c03 := (H.out.gr GF.out).c0
          have f03 := (H.out.gr GF.out).f0
          have hg3 : g < w3.heap.size := Nat.lt_of_lt_of_le hlt GF.out.size
          obtain ⟨ad, had, ht⟩ := tail_at (i := k) HC.out hcap
          have HT := hid ht
          have hdl : (cs6 (L.drop k)).length = (L.length - k) * 6 := by rw [cs6_length, List.length_drop]
          have HDL := hid hdl
          clear ht hdl
          have hck : ¬ cp = k := by omega
          rw [if_neg hck] at had
          injection had with had
          subst had
          go_wp2_with (at_builtin; refine wpList_append_own _ rfl _ _ 49 rfl W2.heap.size 40 i0 _ 6 48 Try.underlying49 hi0 hz0 hz1 hz2 rfl (by decide) (.slice D2 (k + 1) c2) (k + 1) (cs6 (L.take k) ++ [.int .i64 x0, .int .i64 x1, .int .i64 x2, .int .i64 x3, .int .i64 x4, .int .i64 x5]) rfl HO2.out ⟨r, k * 6, none⟩ (L.length - k) (cp - k) (cs6 (L.drop k)) rfl HDL.out (cell_keep HT.out (hWr.trans HW3.out)) (cs6_one _) (by unfold maxLen; omega) (by omega) HW3.out.size ?_
                       intro v4 w4 hown4 hgr4 _
                       obtain ⟨D4, n4, c4, rfl⟩ : ∃ D4 n4 c4, v4 = .slice D4 n4 c4 := by obtain ⟨D4, c4, e⟩ := own_shape hown4; exact ⟨_, _, _, e⟩
                       have HW4 := hid (show Gr W2 w4 from gr_grown HW3.out hgr4 (fun q e => (HO2.out.lt q e).1))
                       have GF4 := hid (GW.out.trans HW4.out)
                       have c04 := (H.out.gr GF4.out).c0
                       have f04 := (H.out.gr GF4.out).f0
                       have hg4 : g < w4.heap.size := Nat.lt_of_lt_of_le hlt GF4.out.size
                       have HO4 := hid hown4
                       clear hown4 hgr4)
          go_ret
          have HC4 := (GF4.out.block g hlt).trans H.out.cell
          have e0 : addF L (x0, x1, x2, x3, x4, x5) = L.take k ++ ((x0, x1, x2, x3, x4, x5) :: L.drop k) := by rw [add_ins HF.out]; unfold ins; rw [HP.out]
          have e2 : cs6 (L.take k ++ ((x0, x1, x2, x3, x4, x5) :: L.drop k)) = cs6 (L.take k) ++ [.int .i64 x0, .int .i64 x1, .int .i64 x2, .int .i64 x3, .int .i64 x4, .int .i64 x5] ++ cs6 (L.drop k) := by
            rw [cs6_app, List.append_assoc]; rfl
          have e1 : (L.take k ++ ((x0, x1, x2, x3, x4, x5) :: L.drop k)).length = k + 1 + (L.length - k) := by
            rw [List.length_append, List.length_take, List.length_cons, List.length_drop]; omega
          refine ⟨.slice D4 n4 c4, by rw [HF.out]; rfl, ?_, (GF4.out.mod (fun k => k = g)).set (p := ⟨g, 0, none⟩) (fun _ => rfl) _⟩
          rw [e0]
          refine RB.set H.out.lo HC4 ?_
          rw [e1, e2]
          exact HO4.out.mono (Nat.le_trans hbase (by omega))
end Go.Proofs.Ytikmniokbliolaa
