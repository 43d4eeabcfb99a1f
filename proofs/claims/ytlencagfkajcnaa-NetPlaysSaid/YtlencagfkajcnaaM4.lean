import Derived.Test.YtlencagfkajcnaaM0
import Derived.Shelf.Abstract
namespace Go.Proofs.Ytlencagfkajcnaa
open Go.RowKit Go.Ext Go.BigFrame
attribute [local go_sem] Ext.cell Ext.frozen Ext.lt Ext.le s1 s2 s3 s4 s5 s6 t1 t2 t3 t4 t5 t6
attribute [local go_sem ↓] Go.wp_at_zero Go.wp_at_succ

set_option maxHeartbeats 1000000 in
theorem index_anyK (a : Int) (A : Option Addr) (cp : Nat) (L : List It) (B1 : Nat) (w : World) (hr : Row w A L) (hl : L.length ≤ 4398046511103) (h1 : w.cell? ⟨B1, 0, none⟩ = some (.int .i64 a)) :
    Calls Try.prog 47 #[.slice A L.length cp, .func (.func 32) #[] #[.pointer (some ⟨B1, 0, none⟩)]] w
      (fun en w' => ∃ r, en = .returned (.int .i64 r) ∧ Gr w w' ∧ ((r = -1 ∧ ∀ x ∈ L, gK a x = false) ∨ ∃ i : Nat, r = i ∧ i < L.length ∧ gK a (L.getD i z0) = true ∧ ∀ j, j < i → gK a (L.getD j z0) = false)) := by
  have HR := hid hr
  have H1 := hid h1
  have l1 := World.block_lt_of_cell? w _ h1
  simp only at l1
  clear hr h1
  go_enter Try.func47, Try.ntmps47
  go_wp2_with fail
  go_loopw [5, 8] (fun _ i wr => ∃ k : Nat, k ≤ L.length ∧ i = .int .i64 k ∧ Gr w wr ∧ ∀ j, j < k → gK a (L.getD j z0) = false) (fun _ i _ => L.length - (intOf i).toNat)
  case atStart => exact ⟨0, Nat.zero_le _, rfl, Gr.refl _, fun j hj => absurd hj (by omega)⟩
  case round =>
    obtain ⟨k, hk, rfl, hg, hall⟩ := hrel
    have HG := hid hg
    have HA := hid hall
    clear hg hall
    by_cases hlt : k < L.length
    · obtain ⟨bb, off, rfl, hbb, c0, c1, c2, c3⟩ := (HR.out.gr HG.out).at_ hlt
      obtain ⟨⟨p1, p2, p3, A', l', c'⟩, hy⟩ : ∃ y, L.getD k z0 = y := ⟨_, rfl⟩
      rw [hy] at c0 c1 c2 c3
      simp only at c0 c1 c2 c3
      have HY := hid hy
      clear hy
      have HGN := hid (goneK a p1 p2 p3 A' l' c' B1 wr ((HG.out.cell (p := ⟨B1, 0, none⟩) l1).trans H1.out))
      cases hgn : gK a (p1, p2, p3, A', l', c')
      · rw [hgn] at HGN
        have HN := hid hgn
        clear hgn
        go_wp2_with (first | (go_at_fn 32; refine HGN.out.mono ?_; rintro en _ ⟨rfl, y1, rfl⟩) | (go_at_call 32; refine HGN.out.mono ?_; rintro en _ ⟨rfl, y1, rfl⟩))
        go_roundw
        case rel => exact ⟨k + 1, by omega, by go_num, HG.out.ext y1, fun j hj => by
          rcases Nat.lt_or_ge j k with h | h
          · exact HA.out j h
          · rw [show j = k by omega, HY.out]; exact HN.out⟩
        case measure => simp [intOf]; omega
      · rw [hgn] at HGN
        have HN := hid hgn
        clear hgn
        go_wp2_with (first | (go_at_fn 32; refine HGN.out.mono ?_; rintro en _ ⟨rfl, y1, rfl⟩) | (go_at_call 32; refine HGN.out.mono ?_; rintro en _ ⟨rfl, y1, rfl⟩))
        go_ret
        exact ⟨_, rfl, HG.out.ext y1, .inr ⟨k, rfl, hlt, by rw [HY.out]; exact HN.out, HA.out⟩⟩
    · go_wp2_with fail
      go_ret
      refine ⟨_, rfl, HG.out, .inl ⟨rfl, fun x hx => ?_⟩⟩
      obtain ⟨j, hj, rfl⟩ := List.getElem_of_mem hx
      have := HA.out j (by omega)
      simpa [List.getD, hj] using this

set_option maxHeartbeats 2000000 in
theorem delfn_anyK (base : Nat) (a : Int) (v : Value) (L : List It) (B1 : Nat) (w : World) (h : w.ownsRow base 33 4 v L.length (cs6 L)) (hl : L.length ≤ 1000000) (h1 : w.cell? ⟨B1, 0, none⟩ = some (.int .i64 a)) (n1 : v.ownBlock ≠ some B1) :
    Calls Try.prog 43 #[v, .func (.func 32) #[] #[.pointer (some ⟨B1, 0, none⟩)]] w (RetRow base v (keepF (gK a) L) w) := by
  have l1 := World.block_lt_of_cell? w _ h1
  simp only at l1
  have hsh : ∃ A c, v = .slice A L.length c := by
    rcases h.2 with ⟨rfl, h0⟩ | ⟨g, cap, cur, rfl, _⟩
    · exact ⟨none, 0, by rw [h0]⟩
    · exact ⟨_, _, rfl⟩
  obtain ⟨A, cp, rfl⟩ := hsh
  have HIX := hid (index_anyK a A cp L B1 w (Row.of_own h) (by omega) h1)
  have H := hid h
  have H1 := hid h1
  clear h h1
  go_enter Try.func43, Try.ntmps43
  go_wp2_with fail
  refine HIX.out.mono ?_
  rintro en w1 ⟨r, rfl, g1, hcase⟩
  have G1 := hid g1
  clear g1
  rcases hcase with ⟨rfl, hnone⟩ | ⟨i0, rfl, hi0, hgi, hall⟩
  · have HK := hid (keepF_none (gK a) L hnone)
    clear hnone
    go_wp2_with fail
    go_ret
    exact ⟨_, rfl, by rw [HK.out]; exact own_mod H.out (G1.out.mod fun _ => False) (fun _ _ e => e), G1.out.mod _, .inl rfl⟩
  · rcases id H.out.2 with ⟨_, h0⟩ | ⟨g, cap, cur, hv, hbg, hg', hnc, hcm, hcs, ht⟩
    · omega
    injection hv with hA _ hc
    subst hA hc
    obtain ⟨C, hC0⟩ : ∃ C, C = cur.toList := ⟨_, rfl⟩
    have hg : w1.heap[g]? = some (.cells C.toArray 33 (0, 0)) := by rw [hC0, (G1.out.block g (Array.getElem?_eq_some_iff.1 hg').1), hg']
    have hCl : C.length = cp * 4 := by rw [hC0]; simpa using hcs
    rw [← hC0] at ht
    have hgw : g < w.heap.size := (Array.getElem?_eq_some_iff.1 hg').1
    clear hC0 hg' hcs
    have hg1 : B1 ≠ g := fun e => n1 (by rw [e]; rfl)
    have hk0 : keepF (gK a) (L.take (i0 + 1)) = L.take i0 := by
      rw [keepF_succ _ _ _ hi0, if_pos hgi]
      refine keepF_none _ _ fun x hx => ?_
      obtain ⟨j, hj, rfl⟩ := List.getElem_of_mem hx
      simp only [List.length_take] at hj
      have := hall j (by omega)
      rw [List.getElem_take]
      simpa [List.getD, show j < L.length by omega] using this
    have T0 := hid (show Thin C cp L (keepF (gK a) (L.take (i0 + 1))) (i0 + 1) from by
      rw [hk0]
      refine ⟨hCl, ?_, ?_, by simp; omega⟩
      · rw [List.length_take, Nat.min_eq_left (by omega), cs6_take, ← ht, List.take_take, Nat.min_eq_left (by omega)]
      · rw [cs6_drop, ← ht, List.drop_take]
        congr 1
        omega)
    have hq0 : (keepF (gK a) (L.take (i0 + 1))).length = i0 := by rw [hk0, List.length_take]; omega
    have HQ0 := hid hq0
    have M0 := hid (G1.out.mod (fun k => k = g))
    have HG0 := hid hg
    clear hk0 hq0 hall hgi hg ht hCl HIX
    have hne1 : ((i0 : Int) == -1) = false := by rw [beq_eq_false_iff_ne]; omega
    go_wp2_with fail
    go_loopw [5, 6, 7] (fun i j _ wr => ∃ (q jj : Nat) (C : List Value), jj ≤ L.length ∧ i = .int .i64 q ∧ j = .int .i64 jj ∧ Mod (fun k => k = g) w wr ∧ wr.heap[g]? = some (.cells C.toArray 33 (0, 0)) ∧ Thin C cp L (keepF (gK a) (L.take jj)) jj ∧ (keepF (gK a) (L.take jj)).length = q) (fun _ j _ _ => L.length - (intOf j).toNat)
    case atStart => exact ⟨i0, i0 + 1, C, by omega, rfl, by go_num, M0.out, HG0.out, T0.out, HQ0.out⟩
    case round =>
      obtain ⟨q, jj, C', hjl, rfl, rfl, hm, hgc, hth, hq⟩ := hrel
      have HM := hid hm
      have HGC := hid hgc
      have HTH := hid hth
      have HQ := hid hq
      have hqj : q < jj := by have := hth.lt; omega
      have hC'l := hth.len
      have hgr : g < wr.heap.size := (Array.getElem?_eq_some_iff.1 hgc).1
      have hfz : ∀ t, wr.frozen? ⟨g, t, none⟩ = false := fun t => by simp [World.frozen?, hgc]
      have hce : ∀ t, wr.cell? ⟨g, t, none⟩ = C'[t]? := fun t => by simp [World.cell?, hgc]
      clear hm hgc hth hq
      by_cases hlt : jj < L.length
      · have hx := HTH.out.at_ hlt
        obtain ⟨⟨p1, p2, p3, A', l', c'⟩, hy⟩ : ∃ y, L.getD jj z0 = y := ⟨_, rfl⟩
        rw [hy] at hx
        have c0 := (hce (jj * 4)).trans (hx 0 _ rfl)
        have c1 := (hce (jj * 4 + 1)).trans (hx 1 _ rfl)
        have c2 := (hce (jj * 4 + 2)).trans (hx 2 _ rfl)
        have c3 := (hce (jj * 4 + 3)).trans (hx 3 _ rfl)
        have HY := hid hy
        clear hx hy
        have m1 : wr.cell? ⟨B1, 0, none⟩ = some (.int .i64 a) := (World.cell?_of_block (HM.out.block B1 l1 hg1)).trans H1.out
        have HGN := hid (fun W (y : Gr wr W) => goneK a p1 p2 p3 A' l' c' B1 W ((y.cell (p := ⟨B1, 0, none⟩) (World.block_lt_of_cell? wr _ m1)).trans m1))
        clear m1
        have HKS := hid (keepF_succ (gK a) L jj hlt)
        rw [HY.out] at HKS
        cases hgn : gK a (p1, p2, p3, A', l', c')
        · rw [hgn] at HGN HKS
          rw [if_neg Bool.false_ne_true] at HKS
          have HTK := hid (HTH.out.take hlt hnc (p1, p2, p3, A', l', c'))
          clear hgn
          obtain ⟨xv0, k0⟩ : ∃ u, wr.cell? ⟨g, q * 4, none⟩ = some u := ⟨_, (hce _).trans (List.getElem?_eq_getElem (by omega))⟩
          obtain ⟨xv1, k1⟩ : ∃ u, wr.cell? ⟨g, q * 4 + 1, none⟩ = some u := ⟨_, (hce _).trans (List.getElem?_eq_getElem (by omega))⟩
          obtain ⟨xv2, k2⟩ : ∃ u, wr.cell? ⟨g, q * 4 + 2, none⟩ = some u := ⟨_, (hce _).trans (List.getElem?_eq_getElem (by omega))⟩
          obtain ⟨xv3, k3⟩ : ∃ u, wr.cell? ⟨g, q * 4 + 3, none⟩ = some u := ⟨_, (hce _).trans (List.getElem?_eq_getElem (by omega))⟩
          have f0 := hfz (q * 4)
          have f1 := hfz (q * 4 + 1)
          have f2 := hfz (q * 4 + 2)
          have f3 := hfz (q * 4 + 3)
          clear hfz hce
          have hqn : (q : Int) < (L.length : Int) := by omega
          go_wp2_with (first | (go_at_fn 32; refine (HGN.out _ ((Gr.refl _).alloc _)).mono ?_; rintro en _ ⟨rfl, y1, rfl⟩) | (go_at_call 32; refine (HGN.out _ ((Gr.refl _).alloc _)).mono ?_; rintro en _ ⟨rfl, y1, rfl⟩))
          go_roundw
          case rel =>
            have G9 : Gr wr y1.val := ((Gr.refl wr).alloc _).ext y1
            refine ⟨q + 1, jj + 1, splice C' (q * 4) (ic (p1, p2, p3, A', l', c')), by omega, by go_num, by go_num, (HM.out.gr G9).trans (mod4 y1.val g (q * 4) _ _ _ _) (fun _ _ h => h), row_set4 ((G9.block g hgr).trans HGC.out) (by omega) _ _ _ _, ?_, ?_⟩
            · rw [HKS.out]
              have := HTK.out
              rw [HQ.out] at this
              exact this
            · rw [HKS.out, List.length_append, HQ.out]; rfl
          case measure => simp [intOf]; omega
        · rw [hgn] at HGN HKS
          rw [if_pos rfl] at HKS
          clear hgn hfz hce
          go_wp2_with (first | (go_at_fn 32; refine (HGN.out _ ((Gr.refl _).alloc _)).mono ?_; rintro en _ ⟨rfl, y1, rfl⟩) | (go_at_call 32; refine (HGN.out _ ((Gr.refl _).alloc _)).mono ?_; rintro en _ ⟨rfl, y1, rfl⟩))
          go_roundw
          case rel =>
            have G9 : Gr wr y1.val := ((Gr.refl wr).alloc _).ext y1
            exact ⟨q, jj + 1, C', by omega, rfl, by go_num, HM.out.gr G9, (G9.block g hgr).trans HGC.out, by rw [HKS.out]; exact HTH.out.skip hlt, by rw [HKS.out]; exact HQ.out⟩
          case measure => simp [intOf]; omega
      · have hje : jj = L.length := by omega
        subst hje
        have hT := HTH.out
        have hQ := HQ.out
        rw [List.take_length] at hT hQ
        have HK := hid hT
        have HQ' := hid hQ
        clear hT hQ HTH HQ hfz hce
        have hcl : ∀ ty c', (Builtin.clear_ #[30] ty #[.slice (some ⟨g, q * 4, none⟩) (L.length - q) c']).run Try.prog wr = .ok (.tuple #[]) (wr.setRow g (splice C' (q * 4) (Builtin.zeroCells (Value.agg #[.int .i64 0, .int .i64 0, .int .i64 0, .slice none 0 0]).cells (L.length - q)).toList).toArray) := fun ty c' =>
          run_clear_rowk wr 30 33 ty _ 4 Try.underlying30 (zero33 wr) rfl (by intro v hv; simp [Value.cells] at hv; rcases hv with rfl | rfl <;> rfl) g (q * 4) (L.length - q) c' (by omega) C' 33 HGC.out (by omega)
        have hlen2 : (splice C' (q * 4) (Builtin.zeroCells (Value.agg #[.int .i64 0, .int .i64 0, .int .i64 0, .slice none 0 0]).cells (L.length - q)).toList).length = C'.length := length_splice _ _ _ (by rw [Array.length_toList, size_zeroCells]; simp only [Value.cells]; show _ + (L.length - q) * 4 ≤ _; omega)
        have hh2 := hid (setRow_heap wr g _ (splice C' (q * 4) (Builtin.zeroCells (Value.agg #[.int .i64 0, .int .i64 0, .int .i64 0, .slice none 0 0]).cells (L.length - q)).toList).toArray 33 _ HGC.out)
        have hm2 := hid (HM.out.trans (setRow_mod wr g (splice C' (q * 4) (Builtin.zeroCells (Value.agg #[.int .i64 0, .int .i64 0, .int .i64 0, .slice none 0 0]).cells (L.length - q)).toList).toArray) (fun _ _ h => h))
        have htk := hid (splice_take C' (Builtin.zeroCells (Value.agg #[.int .i64 0, .int .i64 0, .int .i64 0, .slice none 0 0]).cells (L.length - q)).toList (q * 4) (by omega))
        generalize hw2 : wr.setRow g (splice C' (q * 4) (Builtin.zeroCells (Value.agg #[.int .i64 0, .int .i64 0, .int .i64 0, .slice none 0 0]).cells (L.length - q)).toList).toArray = W2 at *
        generalize splice C' (q * 4) (Builtin.zeroCells (Value.agg #[.int .i64 0, .int .i64 0, .int .i64 0, .slice none 0 0]).cells (L.length - q)).toList = C2 at *
        have HX2 := hid hw2
        clear hw2
        have hb1 : ¬ (cp = q) := by omega
        have hqn : q ≤ L.length := by omega
        have hqc : q ≤ cp := by omega
        go_wp2_with (at_builtin; refine wpList_clear_at _ rfl _ 30 rfl _ rfl (hcl _ _) ?_)
        go_ret
        have e := HQ'.out
        refine ⟨_, rfl, ⟨by rw [cs6_length], .inr ⟨g, cp, C2.toArray, ?_, hbg, hh2.out, by omega, hcm, by simp; omega, ?_⟩⟩, hm2.out.mono (fun _ _ h => by simp [Value.ownBlock, h]), .inl rfl⟩
        · rw [e]; rfl
        · rw [e, List.toList_toArray, htk.out, ← e]
          exact HK.out.kept
end Go.Proofs.Ytlencagfkajcnaa
