import Derived.Test.YtikmniokbliolaaE3
import Derived.Deep.Cut
import Derived.Deep.CutRange
namespace Go.Proofs.Ytikmniokbliolaa
open Go.RowKit Go.Ext Go.BigFrame
attribute [local go_sem] Ext.cell Ext.frozen Ext.lt Ext.le s1 s2 s3 s4 s5 s6 t1 t2 t3 t4 t5 t6
attribute [local go_sem ↓] Go.wp_at_zero Go.wp_at_succ

theorem step_append_own {P : Program} {w : World} {ops : Array Oper} {o : Oper} {a : Act} {K : Act → World → Prop} {Q : Exit → Act → World → Prop} {E : Prop} (hgd : o.guard = none) (s x : Operand) (t : TypeId)
    (ho : o.op = .call { callee := .builtin .append, args := #[s, x], argTypes := #[t, t] })
    (base : Nat) (e : TypeId) (i : TypeInfo) (z : Value) (size bytes : Nat) (ht : P.underlying t = some (.slice e)) (hi : P.info? e = some i) (hz : i.zero = some z)
    (hsize : i.size = size) (hby : i.bytes = bytes) (hzs : z.cells.size = size) (hsz : 0 < size)
    (v : Value) (n : Nat) (xs : List Value) (hs : a.eval s = v) (hown : w.ownsRow base e size v n xs)
    (ad : Addr) (m c : Nat) (news : List Value) (hx : a.eval x = .slice (some ad) m c) (hl : news.length = m * size) (hnews : ∀ j u, news[j]? = some u → w.cell? (ad.add j) = some u) (h1 : ∀ u ∈ news, u.oneCell' = true)
    (h63 : n + m ≤ maxLen) (hbytes : (n + m) * bytes ≤ 140737488355328) (hbase : base ≤ w.heap.size)
    (h : ∀ v' w', w'.ownsRow base e size v' (n + m) (xs ++ news) → w.grownBy w' v.ownBlock → (v' = .slice none 0 0 ↔ v = .slice none 0 0 ∧ m = 0) → K (a.put o.dst v') w') :
    if Region.wanted o (yielded ops a.tmps) = true then Oper.wp P o a w K Q else E := by
  have hw : Region.wanted o (yielded ops a.tmps) = true := by simp [Region.wanted, hgd]
  rw [if_pos hw]
  exact wp_append_own w s x t ho base e i z size bytes ht hi hz hsize hby hzs hsz v n xs hs hown ad m c news hx hl hnews h1 h63 hbytes hbase fun v' w' h2 h3 h4 => h v' w' h2 h3 h4

theorem has_yes {L : List It} (h : Srt L) {x : It} {k : Nat} (hk : k < L.length) (e : L.getD k z0 = x) : has L x = true ∧ pos L x = k := by
  have hp : pos L x = k := pos_eq L x k (by omega) (fun t ht => by rw [← e]; exact h.lt ht hk) (fun _ => by rw [e, cmpI_self]; omega)
  refine ⟨?_, hp⟩
  unfold has
  rw [hp, decide_eq_true hk, decide_eq_true e]; rfl
theorem has_no {L : List It} {x : It} (h : ∀ k, k < L.length → L.getD k z0 ≠ x) : has L x = false := by
  unfold has
  by_cases e : pos L x < L.length
  · rw [decide_eq_false (h _ e), Bool.and_false]
  · rw [decide_eq_false e, Bool.false_and]

set_option maxRecDepth 100000 in
set_option maxHeartbeats 2000000 in
theorem removeR_any (base g : Nat) (v : Value) (L : List It) (x0 x1 x2 x3 x4 x5 : Int) (w : World) (h : RB base w g v L) (hs : Srt L) (hl : L.length ≤ 1000000) (hbase : base ≤ w.heap.size) :
    Calls Try.prog 23 #[.pointer (some ⟨g, 0, none⟩), iv (x0, x1, x2, x3, x4, x5)] w (RetR base g (delF L (x0, x1, x2, x3, x4, x5)) (.bool (has L (x0, x1, x2, x3, x4, x5))) w) := by
  have hlt := h.lt
  have H := hid h
  have HS := hid hs
  obtain ⟨A, cp, rfl⟩ := h.shape
  clear h hs
  obtain ⟨i0, hi0, hz0, hz1, hz2⟩ := info_parts info40
  simp only [iv]
  go_enter Try.func23, Try.ntmps23
  go_wp2_with fail
  have HB := hid (show (w.alloc (.cells #[.int .i64 x0, .int .i64 x1, .int .i64 x2, .int .i64 x3, .int .i64 x4, .int .i64 x5] 40)).heap[w.heap.size]? = some (.cells #[.int .i64 x0, .int .i64 x1, .int .i64 x2, .int .i64 x3, .int .i64 x4, .int .i64 x5] 40 (0, 0)) from heap_alloc_new _ _)
  have G1 := hid (((Gr.refl w).alloc (.cells #[.int .i64 x0, .int .i64 x1, .int .i64 x2, .int .i64 x3, .int .i64 x4, .int .i64 x5] 40)))
  generalize w.alloc (.cells #[.int .i64 x0, .int .i64 x1, .int .i64 x2, .int .i64 x3, .int .i64 x4, .int .i64 x5] 40) = W1 at *
  go_loopw [5] (fun i wr => ∃ k : Nat, k ≤ L.length ∧ i = .int .i64 k ∧ Gr W1 wr ∧ ∀ t, t < k → L.getD t z0 ≠ (x0, x1, x2, x3, x4, x5)) (fun i _ => L.length - (intOf i).toNat)
  case atStart => exact ⟨0, Nat.zero_le _, rfl, Gr.refl _, fun t ht => by omega⟩
  case round =>
    obtain ⟨k, hk, rfl, hg, hno⟩ := hrel
    have HG := hid hg
    have HN := hid hno
    have GG := hid (G1.out.trans hg)
    have hsz := GG.out.size
    have c0 := (H.out.gr GG.out).c0
    have f0 := (H.out.gr GG.out).f0
    have hlt2 : g < wr.heap.size := by omega
    have hb := (HG.out.block w.heap.size (Array.getElem?_eq_some_iff.1 HB.out).1).trans HB.out
    obtain ⟨b0, b1, b2, b3, b4, b5, _⟩ := heap6' hb
    have hbl : w.heap.size < wr.heap.size := (Array.getElem?_eq_some_iff.1 hb).1
    clear hg hno hb
    by_cases hlt3 : k < L.length
    · obtain ⟨r, cap, e, hcap, hm, hb, hr, hc⟩ := (H.out.gr GG.out).open (by omega)
      injection e with e1 _ e3
      subst e1 e3
      obtain ⟨d0, d1, d2, d3, d4, d5⟩ := six_at hc hlt3
      have HC := hid hc
      clear hc
      obtain ⟨⟨a, b, c, d, e, f⟩, hy⟩ : ∃ y, L.getD k z0 = y := ⟨_, rfl⟩
      rw [hy] at d0 d1 d2 d3 d4 d5
      simp only at d0 d1 d2 d3 d4 d5
      have HY := hid hy
      clear hy
      have hee := fun W : World => eq40 (w := W) x0 x1 x2 x3 x4 x5 a b c d e f
      by_cases hxy : ((a, b, c, d, e, f) : It) = (x0, x1, x2, x3, x4, x5)
      · rw [decide_eq_true hxy] at hee
        have HXY := hid hxy
        clear hxy
        go_wp2_with fail
        refine wp_region_ext (by kernel_rfl) (by kernel_rfl) ?_
        repeat (go_big_quiet_step (fail))
        refine wpQuiet_nil ?_
        rintro _ ⟨z, rfl⟩
        have HEX := hid (has_yes HS.out hlt3 (by rw [HY.out, HXY.out]))
        obtain ⟨ad, had, ht⟩ := tail_at (i := k + 1) HC.out hcap
        have HT := hid ht
        have hh : ∀ j u, (cs6 (L.take k))[j]? = some u → wr.cell? ((⟨r, 0, none⟩ : Addr).add j) = some u := fun j u hu => by
          rw [Addr.add_lit, Nat.zero_add]
          rw [cs6_take, List.getElem?_take] at hu
          split at hu
          · exact HC.out _ _ hu
          · cases hu
        have HH := hid hh
        clear ht hh d0 d1 d2 d3 d4 d5 b0 b1 b2 b3 b4 b5 hee
        have hdl : (cs6 (L.drop (k + 1))).length = (L.length - (k + 1)) * 6 := by rw [cs6_length, List.length_drop]
        have htl : (cs6 (L.take k)).length = k * 6 := by rw [cs6_length, List.length_take]; congr 1; omega
        have HDL := hid hdl
        have HTL := hid htl
        clear hdl htl
        go_wp2_with fail
        have hzs := z.gr.size
        have ew1 : IntKind.i64.wrap ((k : Int) + 1) = (k : Int) + 1 := IntWalk.i64_in _ (by omega)
        have hk1z : (0 : Int) ≤ (k : Int) + 1 := by omega
        have hk1l : (k : Int) + 1 ≤ (L.length : Int) := by omega
        have hkc : k ≤ cp := by omega
        have hcp0 : ¬ cp = 0 := by omega
        have hkc1 : k + 1 ≤ L.length := by omega
        have hkc2 : k + 1 ≤ cp := by omega
        have hmade : ((z.val.drew).alloc (.cells #[] 40)).ownsRow z.val.heap.size 40 6 (.slice (some ⟨z.val.heap.size, 0, none⟩) 0 0) 0 [] := World.ownsRow_made z.val.drew #[] 0 (Nat.le_refl _) (by decide) rfl
        have HMD := hid hmade
        have HMD2 := hid (show ((z.val.alloc (.cells #[] 40)).drew).ownsRow z.val.heap.size 40 6 (.slice (some ⟨z.val.heap.size, 0, none⟩) 0 0) 0 [] from (World.ownsRow_made z.val #[] 0 (Nat.le_refl _) (by decide) rfl).drew)
        have HZ := hid (GG.out.ext z)
        clear hmade
        go_region_law (first
          | (refine step_append_own (by rfl) (.tmp 25) (.tmp 31) 49 (by rfl) z.val.heap.size 40 i0 _ 6 48 Try.underlying49 hi0 hz0 hz1 hz2 rfl (by decide) (.slice (some ⟨z.val.heap.size, 0, none⟩) 0 0) 0 [] (by rfl) (by first | exact HMD.out | exact HMD2.out) ⟨r, 0, none⟩ k cp (cs6 (L.take k)) (by rfl) HTL.out (cell_keep HH.out (by first | exact (z.gr.drew).alloc _ | exact (z.gr.alloc _).drew)) (cs6_one _) (by unfold maxLen; omega) (by omega) (by simp) ?_
             intro v1 w2 hown1 hgr1 _
             obtain ⟨D1, n1, rfl⟩ : ∃ D1 n1, v1 = .slice D1 k n1 := by have := own_shape hown1; rwa [Nat.zero_add] at this
             have hw2 : Gr z.val w2 := gr_grown (by first | exact ((Gr.refl z.val).drew).alloc (.cells #[] 40) | exact ((Gr.refl z.val).alloc (.cells #[] 40)).drew) hgr1 (by intro k hk; simp [Value.ownBlock] at hk; omega)
             have HW2 := hid hw2
             have c02 := (H.out.gr (HZ.out.trans hw2)).c0
             have f02 := (H.out.gr (HZ.out.trans hw2)).f0
             have hg2 : g < w2.heap.size := Nat.lt_of_lt_of_le hlt (HZ.out.trans hw2).size
             have HO1 := hid (show w2.ownsRow z.val.heap.size 40 6 (.slice D1 k n1) k (cs6 (L.take k)) by have := hown1; rwa [Nat.zero_add, List.nil_append] at this)
             clear hown1 hgr1 hw2)
          | (refine step_append_own (by rfl) (.tmp 32) (.tmp 39) 49 (by rfl) z.val.heap.size 40 i0 _ 6 48 Try.underlying49 hi0 hz0 hz1 hz2 rfl (by decide) (.slice D1 k n1) k (cs6 (L.take k)) (by rfl) HO1.out ad (L.length - (k + 1)) (cp - (k + 1)) (cs6 (L.drop (k + 1))) (by rfl) HDL.out (cell_keep HT.out (z.gr.trans HW2.out)) (cs6_one _) (by unfold maxLen; omega) (by omega) HW2.out.size ?_
             intro v2 w3 hown2 hgr2 _
             obtain ⟨D2, n2, c2, rfl⟩ : ∃ D2 n2 c2, v2 = .slice D2 n2 c2 := by obtain ⟨D2, c2, e⟩ := own_shape hown2; exact ⟨_, _, _, e⟩
             have hw3 : Gr z.val w3 := gr_grown HW2.out hgr2 (fun q e => (HO1.out.lt q e).1)
             have HW3 := hid hw3
             have c03 := (H.out.gr (HZ.out.trans hw3)).c0
             have f03 := (H.out.gr (HZ.out.trans hw3)).f0
             have hg3 : g < w3.heap.size := Nat.lt_of_lt_of_le hlt (HZ.out.trans hw3).size
             have HO2 := hid hown2
             clear hown2 hgr2 hw3))
        all_goals (
          go_wp2_with fail
          go_ret
          have GF := HZ.out.trans HW3.out
          have HC3 := (GF.block g hlt).trans H.out.cell
          have hr3 : w3.ownsRow base 40 6 (.slice D2 n2 c2) (L.take k ++ L.drop (k + 1)).length (cs6 (L.take k ++ L.drop (k + 1))) := by
            have := HO2.out.mono (show base ≤ z.val.heap.size from Nat.le_trans hbase HZ.out.size)
            rw [cs6_app, List.length_append, List.length_take, List.length_drop, Nat.min_eq_left hk]
            exact this
          refine ⟨.slice D2 n2 c2, by rw [HEX.out.1]; rfl, ?_, (GF.mod (fun k => k = g)).set (p := ⟨g, 0, none⟩) (fun _ => rfl) _⟩
          unfold delF
          rw [HEX.out.1, HEX.out.2, if_pos rfl]
          exact RB.set H.out.lo HC3 hr3)
      · rw [decide_eq_false hxy] at hee
        have HXY := hid hxy
        clear hxy
        go_wp2_with fail
        refine wp_region_ext (by kernel_rfl) (by kernel_rfl) ?_
        repeat (go_big_quiet_step (fail))
        refine wpQuiet_nil ?_
        rintro _ ⟨z, rfl⟩
        go_wp2_with fail
        go_roundw
        case rel =>
          refine ⟨k + 1, by omega, by go_num, HG.out.ext z, fun t ht => ?_⟩
          by_cases e : t = k
          · subst e; rw [HY.out]; exact HXY.out
          · exact HN.out t (by omega)
        case measure => simp [intOf]; omega
    · have hke : k = L.length := by omega
      subst hke
      go_wp2_with fail
      go_ret
      have hF := has_no HN.out
      refine ⟨.slice A L.length cp, by rw [hF]; rfl, ?_, GG.out.mod _⟩
      unfold delF
      rw [hF, if_neg Bool.false_ne_true]
      exact H.out.gr GG.out
end Go.Proofs.Ytikmniokbliolaa
