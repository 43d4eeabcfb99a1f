import Derived.Test.YtikmniokbliolaaE1
import Derived.Test.YtikmniokbliolaaD4
import Derived.Deep.Onto
namespace Go.Proofs.Ytikmniokbliolaa
open Go.RowKit Go.Ext Go.BigFrame
attribute [local go_sem] Ext.cell Ext.frozen Ext.lt Ext.le s1 s2 s3 s4 s5 s6 t1 t2 t3 t4 t5 t6
attribute [local go_sem ↓] Go.wp_at_zero Go.wp_at_succ

theorem info40 : (Try.prog.info? 40).map (fun i => (i.zero, i.size, i.bytes)) = some (some (.agg #[.int .i64 0, .int .i64 0, .int .i64 0, .int .i64 0, .int .i64 0, .int .i64 0]), 6, 48) := by kernel_rfl

/-- The rest of a row behind its first i items. -/
theorem tail_at {w : World} {r cap i : Nat} {L : List It} (hc : ∀ j u, (cs6 L)[j]? = some u → w.cell? ⟨r, j, none⟩ = some u) (hl : L.length ≤ cap) :
    ∃ ad : Addr, (if cap = i then some (⟨r, 0, none⟩ : Addr) else some ⟨r, i * 6, none⟩) = some ad ∧ ∀ j u, (cs6 (L.drop i))[j]? = some u → w.cell? (ad.add j) = some u := by
  by_cases e : cap = i
  · refine ⟨_, if_pos e, fun j u hu => ?_⟩
    rw [List.drop_eq_nil_of_le (by omega)] at hu
    simp [cs6] at hu
  · refine ⟨_, if_neg e, fun j u hu => ?_⟩
    rw [Addr.add_lit]
    rw [cs6_drop, List.getElem?_drop] at hu
    exact hc _ _ hu
theorem cell_keep {w w' : World} {ad : Addr} {xs : List Value} (h : ∀ j u, xs[j]? = some u → w.cell? (ad.add j) = some u) (g : Gr w w') : ∀ j u, xs[j]? = some u → w'.cell? (ad.add j) = some u := fun j u hu => by
  have := h j u hu
  rw [g.cell (World.block_lt_of_cell? w _ this), this]

theorem own_made2 (w : World) (o1 o2 : Obj) : (((w.alloc o1).alloc o2).alloc (.cells #[] 40)).ownsRow (w.heap.size + 1 + 1) 40 6 (.slice (some ⟨w.heap.size + 1 + 1, 0, none⟩) 0 0) 0 [] := by
  have := World.ownsRow_made (base := w.heap.size + 1 + 1) (e := 40) (size := 6) ((w.alloc o1).alloc o2) #[] 0 (by simp) (by decide) rfl
  rw [show ((w.alloc o1).alloc o2).heap.size = w.heap.size + 1 + 1 by simp] at this
  exact this

theorem heap6' {W : World} {B t : Nat} {a b c d e f : Int} (h : W.heap[B]? = some (.cells #[.int .i64 a, .int .i64 b, .int .i64 c, .int .i64 d, .int .i64 e, .int .i64 f] t (0, 0))) :
    W.cell? ⟨B, 0, none⟩ = some (.int .i64 a) ∧ W.cell? ⟨B, 1, none⟩ = some (.int .i64 b) ∧ W.cell? ⟨B, 2, none⟩ = some (.int .i64 c) ∧ W.cell? ⟨B, 3, none⟩ = some (.int .i64 d) ∧ W.cell? ⟨B, 4, none⟩ = some (.int .i64 e) ∧ W.cell? ⟨B, 5, none⟩ = some (.int .i64 f) ∧
    W.frozen? ⟨B, 0, none⟩ = false ∧ W.frozen? ⟨B, 1, none⟩ = false ∧ W.frozen? ⟨B, 2, none⟩ = false ∧ W.frozen? ⟨B, 3, none⟩ = false ∧ W.frozen? ⟨B, 4, none⟩ = false ∧ W.frozen? ⟨B, 5, none⟩ = false := by
  refine ⟨?_, ?_, ?_, ?_, ?_, ?_, ?_, ?_, ?_, ?_, ?_, ?_⟩ <;> simp [World.cell?, World.frozen?, h]

theorem two_made (w : World) (o1 o2 o3 : Obj) : (((w.alloc o1).alloc o2).alloc o3).heap[w.heap.size]? = some o1 ∧ (((w.alloc o1).alloc o2).alloc o3).heap[w.heap.size + 1]? = some o2 := by
  constructor
  · exact (((Gr.refl _).alloc o3).block w.heap.size (by simp; omega)).trans ((((Gr.refl _).alloc o2).block w.heap.size (by simp)).trans (heap_alloc_new w o1))
  · refine (((Gr.refl _).alloc o3).block (w.heap.size + 1) (by simp)).trans ?_
    have := heap_alloc_new (w.alloc o1) o2
    rw [show (w.alloc o1).heap.size = w.heap.size + 1 by simp] at this
    exact this

theorem RB.empty {base g : Nat} {v : Value} {L : List It} {w : World} (h : RB base w g v L) (hb : base ≤ w.heap.size) (o1 o2 : Obj) :
    RB base ((((w.setCell ⟨g, 0, none⟩ (.slice (some ⟨w.heap.size + 1 + 1, 0, none⟩) 0 0)).alloc o1).alloc o2).alloc (.cells #[] 40)) g (.slice (some ⟨w.heap.size + 1 + 1, 0, none⟩) 0 0) [] := by
  have e : (w.setCell ⟨g, 0, none⟩ (.slice (some ⟨w.heap.size + 1 + 1, 0, none⟩) 0 0)).heap.size = w.heap.size := by simp
  have hown := own_made2 (w.setCell ⟨g, 0, none⟩ (.slice (some ⟨w.heap.size + 1 + 1, 0, none⟩) 0 0)) o1 o2
  rw [e] at hown
  refine ⟨h.lo, ?_, hown.mono (by omega)⟩
  refine (((((Gr.refl _).alloc o1).alloc o2).alloc (.cells #[] 40)).block g (by rw [e]; exact h.lt)).trans ?_
  rw [setCell_eq_setRow w g 0 _ 51 (0, 0) _ h.cell]
  exact setRow_heap w g _ _ 51 _ h.cell

set_option maxHeartbeats 1000000 in
theorem takeR_any (base g : Nat) (v : Value) (L : List It) (now : Int) (w : World) (h : RB base w g v L) (hl : L.length ≤ 1000000) (hbase : base ≤ w.heap.size) :
    Calls Try.prog 24 #[.pointer (some ⟨g, 0, none⟩), .int .i64 now] w (RetR base g (takeF L now) (.tuple #[iv (if due L now then hd L else z0), .bool (due L now)]) w) := by
  have c0 := h.c0
  have hlt := h.lt
  have H := hid h
  obtain ⟨A, cp, rfl⟩ := h.shape
  clear h
  obtain ⟨i0, hi0, hz0, hz1, hz2⟩ := info_parts info40
  by_cases hn : 0 < L.length
  · obtain ⟨r, cap, e, hcap, hm, hb, hr, hc⟩ := H.out.open hn
    injection e with e1 _ e3
    subst e1 e3
    obtain ⟨d0, d1, d2, d3, d4, d5⟩ := six_at hc hn
    obtain ⟨ad, had, ht⟩ := tail_at (i := 1) hc hcap
    simp only [Nat.one_mul] at had
    have HT := hid ht
    have f0 := H.out.f0
    have hdl : (cs6 (L.drop 1)).length = (L.length - 1) * 6 := by rw [cs6_length, List.length_drop]
    have HDL := hid hdl
    have HCP := hid hcap
    have HM := hid hm
    clear hc ht hdl hcap hm
    unfold takeF due hd
    obtain ⟨⟨a, b, c, d, e, f⟩, hy⟩ : ∃ y, L.getD 0 z0 = y := ⟨_, rfl⟩
    rw [hy] at d0 d1 d2 d3 d4 d5 ⊢
    simp only [Nat.zero_mul, Nat.zero_add] at d0 d1 d2 d3 d4 d5
    rw [decide_eq_true hn]
    simp only [iv, Bool.true_and]
    clear hy
    obtain ⟨m, hm⟩ : ∃ m, L.length = m + 1 := ⟨L.length - 1, by omega⟩
    rw [hm] at c0 HDL HCP
    rw [Nat.add_sub_cancel] at HDL
    have hlm : m ≤ 1000000 := by omega
    have HLM := hid hm
    clear hm hl hn
    have hn2 : ¬ (((m + 1 : Nat) : Int) = 0) := by omega
    by_cases hd' : a ≤ now
    · rw [decide_eq_true hd', if_pos rfl, if_pos rfl]
      have hnd : ¬ now < a := by omega
      generalize L.drop 1 = L' at *
      go_enter Try.func24, Try.ntmps24
      by_cases hm0 : m = 0
      · subst hm0
        go_wp2_with fail
        have hL0 : L' = [] := List.eq_nil_of_length_eq_zero (by have := HDL.out; rw [cs6_length] at this; omega)
        subst hL0
        refine bodyPost_ret (v := .tuple #[.agg #[.int .i64 a, .int .i64 b, .int .i64 c, .int .i64 d, .int .i64 e, .int .i64 f], .bool true]) (by simp [results, Try.results24, go_sem]) rfl ⟨.slice (some ⟨w.heap.size + 1 + 1, 0, none⟩) 0 0, rfl, ?_, ?_⟩
        · exact RB.empty H.out hbase _ _
        · exact (((Gr.refl w).mod (fun k => k = g)).set (p := ⟨g, 0, none⟩) (fun _ => rfl) _).trans (((((Gr.refl _).alloc _).alloc _).alloc _).mod _) (fun _ _ h => h)
      · go_wp2_with (at_builtin; refine wpList_append_own _ rfl _ _ 49 rfl (w.heap.size + 1 + 1) 40 i0 _ 6 48 Try.underlying49 hi0 hz0 hz1 hz2 rfl (by decide) (.slice (some ⟨w.heap.size + 1 + 1, 0, none⟩) 0 0) 0 [] rfl (own_made2 w _ _) ad m (cp - 1) (cs6 L') rfl HDL.out (cell_keep HT.out ((((Gr.refl w).alloc _).alloc _).alloc _)) (cs6_one _) (by unfold maxLen; omega) (by omega) (by simp) ?_; intro v1 w1 hown1 hg1 _
                     clear c0 f0 d0 d1 d2 d3 d4 d5
                     have G1 := hid (show Gr w w1 from gr_grown ((((Gr.refl w).alloc _).alloc _).alloc _) hg1 (by intro k hk; simp [Value.ownBlock] at hk; omega))
                     have HO := hid hown1
                     have hsh : ∃ A1 n1 c1, v1 = .slice A1 n1 c1 := by
                       rcases HO.out.2 with ⟨rfl, _⟩ | ⟨g', cap, cur, rfl, _⟩
                       · exact ⟨_, _, _, rfl⟩
                       · exact ⟨_, _, _, rfl⟩
                     obtain ⟨A1, n1, c1, rfl⟩ := hsh
                     have HC := hid ((G1.out.block g hlt).trans H.out.cell)
                     have f0 : w1.frozen? ⟨g, 0, none⟩ = false := by simp [World.frozen?, HC.out]
                     have c0 : w1.cell? ⟨g, 0, none⟩ = some (.slice (some ⟨r, 0, none⟩) L.length cp) := by simp [World.cell?, HC.out]
                     have k0 : g < w1.heap.size := Nat.lt_of_lt_of_le hlt G1.out.size
                     have HB0 := hid ((hg1.block w.heap.size (by simp <;> omega) (by simp [Value.ownBlock] <;> omega)).trans (two_made w _ _ _).1)
                     have HB1 := hid ((hg1.block (w.heap.size + 1) (by simp <;> omega) (by simp [Value.ownBlock] <;> omega)).trans (two_made w _ _ _).2)
                     obtain ⟨b0, b1, b2, b3, b4, b5, _⟩ := heap6' HB1.out
                     obtain ⟨_, _, _, _, _, _, e0, e1, e2, e3, e4, e5⟩ := heap6' HB0.out
                     obtain ⟨q0, q1, q2, q3, q4, q5, _⟩ := heap6' HB0.out
                     have k1 : w.heap.size < w1.heap.size := (Array.getElem?_eq_some_iff.1 HB0.out).1
                     have k2 : w.heap.size + 1 < w1.heap.size := (Array.getElem?_eq_some_iff.1 HB1.out).1)
        have hlen : L'.length = m := by have := HDL.out; rw [cs6_length] at this; omega
        have hrow : w1.ownsRow base 40 6 (.slice A1 n1 c1) L'.length (cs6 L') := by
          have := HO.out.mono (show base ≤ w.heap.size + 1 + 1 by omega)
          rw [hlen]
          simpa using this
        have hgs : g ≠ w.heap.size := by omega
        have hos : ∀ k, (Value.slice A1 n1 c1).ownBlock = some k → k ≠ w.heap.size := fun k e => by have := (HO.out.lt k e).1; omega
        have M1 := ((Gr.refl w1).mod (fun b => b = g)).set (p := ⟨g, 0, none⟩) (fun _ => rfl) (.slice A1 n1 c1)
        have hb2 := (M1.block w.heap.size k1 (Ne.symm hgs)).trans HB0.out
        obtain ⟨r0, r1, r2, r3, r4, r5, _⟩ := heap6' (set6_heap hb2 (.int .i64 a) (.int .i64 b) (.int .i64 c) (.int .i64 d) (.int .i64 e) (.int .i64 f))
        refine bodyPost_ret (v := .tuple #[.agg #[.int .i64 a, .int .i64 b, .int .i64 c, .int .i64 d, .int .i64 e, .int .i64 f], .bool true]) (by simp [results, Try.results24, go_sem, r0, r1, r2, r3, r4, r5]) rfl ⟨.slice A1 n1 c1, rfl, ?_, ?_⟩
        · exact (RB.set H.out.lo HC.out hrow).mod (set6 _ w.heap.size _ _ _ _ _ _) hgs hos
        · exact ((G1.out.mod (fun k => k = g)).trans M1 (fun _ _ h => h)).trans (set6 _ w.heap.size _ _ _ _ _ _) (fun x hx e => by omega)
    · rw [decide_eq_false hd', if_neg Bool.false_ne_true, if_neg Bool.false_ne_true]
      have hnd : now < a := by omega
      go_enter Try.func24, Try.ntmps24
      go_wp2_with fail
      refine bodyPost_ret (v := .tuple #[.agg #[.int .i64 0, .int .i64 0, .int .i64 0, .int .i64 0, .int .i64 0, .int .i64 0], .bool false]) (by simp [results, Try.results24, go_sem]) rfl ⟨_, rfl, H.out.gr ?_, Gr.mod ?_ _⟩
      all_goals repeat (first | exact Gr.refl _ | refine Gr.set ?_ (by simp) _ | refine Gr.alloc ?_ _)
  · unfold takeF due
    rw [decide_eq_false hn]
    have hL : L = [] := List.eq_nil_of_length_eq_zero (by omega)
    subst hL
    simp only [iv, Bool.false_and]
    rw [if_neg Bool.false_ne_true, if_neg Bool.false_ne_true]
    go_enter Try.func24, Try.ntmps24
    go_wp2_with fail
    refine bodyPost_ret (v := .tuple #[.agg #[.int .i64 0, .int .i64 0, .int .i64 0, .int .i64 0, .int .i64 0, .int .i64 0], .bool false]) (by simp [results, Try.results24, go_sem]) rfl ⟨_, rfl, H.out.gr ?_, Gr.mod ?_ _⟩
    all_goals repeat (first | exact Gr.refl _ | refine Gr.set ?_ (by simp) _ | refine Gr.alloc ?_ _)
end Go.Proofs.Ytikmniokbliolaa
