import Derived.Test.YtikmniokbliolaaD2
import Derived.Test.YtikmniokbliolaaA2
namespace Go.Proofs.Ytikmniokbliolaa
open Go.RowKit Go.Ext Go.BigFrame
attribute [local go_sem] Ext.cell Ext.frozen Ext.lt Ext.le s1 s2 s3 s4 s5 s6 t1 t2 t3 t4 t5 t6
attribute [local go_sem ↓] Go.wp_at_zero Go.wp_at_succ

theorem list_set6 (v0 v1 v2 v3 v4 v5 : Value) : ∀ (o : Nat) (C : List Value), o + 6 ≤ C.length → (((((C.set o v0).set (o + 1) v1).set (o + 2) v2).set (o + 3) v3).set (o + 4) v4).set (o + 5) v5 = splice C o [v0, v1, v2, v3, v4, v5]
  | 0, c0 :: c1 :: c2 :: c3 :: c4 :: c5 :: r, _ => by simp [splice]
  | 0, [], h | 0, [_], h | 0, [_, _], h | 0, [_, _, _], h | 0, [_, _, _, _], h | 0, [_, _, _, _, _], h => by simp at h
  | o + 1, [], h => by simp at h
  | o + 1, c :: r, h => by
    have := list_set6 v0 v1 v2 v3 v4 v5 o r (by simpa using h)
    rw [show o + 1 + 1 = (o + 1) + 1 from rfl, show o + 1 + 2 = (o + 2) + 1 from rfl, show o + 1 + 3 = (o + 3) + 1 from rfl, show o + 1 + 4 = (o + 4) + 1 from rfl, show o + 1 + 5 = (o + 5) + 1 from rfl]
    simp only [List.set_cons_succ]
    rw [this]
    simp only [splice, List.take_succ_cons, List.cons_append]
    rw [show o + 1 + [v0, v1, v2, v3, v4, v5].length = (o + [v0, v1, v2, v3, v4, v5].length) + 1 by simp, List.drop_succ_cons]
theorem row_set6 {w : World} {g o : Nat} {C : List Value} {t : TypeId} (h : w.heap[g]? = some (.cells C.toArray t (0, 0))) (ho : o + 6 ≤ C.length) (v0 v1 v2 v3 v4 v5 : Value) :
    ((((((w.setCell ⟨g, o, none⟩ v0).setCell ⟨g, o + 1, none⟩ v1).setCell ⟨g, o + 2, none⟩ v2).setCell ⟨g, o + 3, none⟩ v3).setCell ⟨g, o + 4, none⟩ v4).setCell ⟨g, o + 5, none⟩ v5).heap[g]? = some (.cells (splice C o [v0, v1, v2, v3, v4, v5]).toArray t (0, 0)) := by
  have step : ∀ (w : World) (cs : List Value) (j : Nat) (v : Value), w.heap[g]? = some (.cells cs.toArray t (0, 0)) → (w.setCell ⟨g, j, none⟩ v).heap[g]? = some (.cells (cs.set j v).toArray t (0, 0)) := fun w cs j v hw => by
    rw [setCell_eq_setRow w g j cs.toArray t (0, 0) v hw, setRow_heap w g _ _ t _ hw]
    simp
  have h5 := step _ _ (o + 5) v5 (step _ _ (o + 4) v4 (step _ _ (o + 3) v3 (step _ _ (o + 2) v2 (step _ _ (o + 1) v1 (step _ _ o v0 h)))))
  rw [list_set6 v0 v1 v2 v3 v4 v5 o C ho] at h5
  exact h5

theorem mod6 (w : World) (g o : Nat) (u0 u1 u2 u3 u4 u5 : Value) : Mod (fun k => k = g) w ((((((w.setCell ⟨g, o, none⟩ u0).setCell ⟨g, o + 1, none⟩ u1).setCell ⟨g, o + 2, none⟩ u2).setCell ⟨g, o + 3, none⟩ u3).setCell ⟨g, o + 4, none⟩ u4).setCell ⟨g, o + 5, none⟩ u5) :=
  (((((((Gr.refl w).mod (fun k => k = g)).set (p := ⟨g, o, none⟩) (fun _ => rfl) u0).set (p := ⟨g, o + 1, none⟩) (fun _ => rfl) u1).set (p := ⟨g, o + 2, none⟩) (fun _ => rfl) u2).set (p := ⟨g, o + 3, none⟩) (fun _ => rfl) u3).set (p := ⟨g, o + 4, none⟩) (fun _ => rfl) u4).set (p := ⟨g, o + 5, none⟩) (fun _ => rfl) u5

/-- What stays of the first ones. -/
def keepF (p : It → Bool) (L : List It) : List It := L.filter fun x => !p x
theorem keepF_succ (p : It → Bool) (L : List It) (j : Nat) (hj : j < L.length) : keepF p (L.take (j + 1)) = if p (L.getD j z0) then keepF p (L.take j) else keepF p (L.take j) ++ [L.getD j z0] := by
  unfold keepF
  rw [List.take_succ_eq_append_getElem hj, List.filter_append]
  have : L.getD j z0 = L[j] := by simp [List.getD, hj]
  rw [this]
  cases e : p L[j] <;> simp [e]
theorem keepF_none (p : It → Bool) (L : List It) (h : ∀ x ∈ L, p x = false) : keepF p L = L := by
  unfold keepF
  rw [List.filter_eq_self]
  intro x hx
  simp [h x hx]

/-- The row's cells while it is thinned out: K is kept, what stands from j on has not been looked at. -/
structure Thin (C : List Value) (cap : Nat) (L K : List It) (j : Nat) : Prop where
  len : C.length = cap * 6
  kept : C.take (K.length * 6) = cs6 K
  rest : (C.drop (j * 6)).take ((L.length - j) * 6) = cs6 (L.drop j)
  lt : K.length < j
theorem Thin.at_ {C : List Value} {cap : Nat} {L K : List It} {j : Nat} (h : Thin C cap L K j) (hj : j < L.length) : ∀ t u, (ic (L.getD j z0))[t]? = some u → C[j * 6 + t]? = some u := by
  intro t u hu
  have ht := (List.getElem?_eq_some_iff.1 hu).1
  rw [ic_length] at ht
  have e : (cs6 (L.drop j))[0 * 6 + t]? = (ic ((L.drop j).getD 0 z0))[t]? := cs6_get (L.drop j) 0 t (by rw [List.length_drop]; omega) ht
  rw [← h.rest, Nat.zero_mul, Nat.zero_add, List.getElem?_take, if_pos (by omega), List.getElem?_drop] at e
  rw [e, ← hu]
  simp [List.getD]
theorem Thin.skip {C : List Value} {cap : Nat} {L K : List It} {j : Nat} (h : Thin C cap L K j) (hj : j < L.length) : Thin C cap L K (j + 1) := by
  refine ⟨h.len, h.kept, ?_, by have := h.lt; omega⟩
  have : (C.drop ((j + 1) * 6)).take ((L.length - (j + 1)) * 6) = ((C.drop (j * 6)).take ((L.length - j) * 6)).drop 6 := by
    rw [List.drop_take, List.drop_drop]
    congr 1
    · omega
    · congr 1; omega
  rw [this, h.rest, show (6 : Nat) = 1 * 6 from rfl, ← cs6_drop, List.drop_drop]
theorem Thin.take {C : List Value} {cap : Nat} {L K : List It} {j : Nat} (h : Thin C cap L K j) (hj : j < L.length) (hcap : L.length ≤ cap) (x : It) : Thin (splice C (K.length * 6) (ic x)) cap L (K ++ [x]) (j + 1) := by
  have h1 := h.skip hj
  have hlt := h.lt
  have hl := h.len
  refine ⟨by rw [length_splice _ _ _ (by rw [ic_length]; omega)]; exact hl, ?_, ?_, by simp; omega⟩
  · rw [cs6_app, List.length_append, List.length_singleton]
    unfold splice
    rw [h.kept, ← List.append_assoc, List.take_left' (by rw [List.length_append, cs6_length, ic_length]; omega)]
    simp [cs6]
  · have : (splice C (K.length * 6) (ic x)).drop ((j + 1) * 6) = C.drop ((j + 1) * 6) := by
      unfold splice
      rw [← List.append_assoc, List.drop_append, List.drop_eq_nil_of_le (by rw [List.length_append, List.length_take, ic_length]; omega), List.nil_append, List.drop_drop, List.length_append, List.length_take, ic_length]
      congr 1
      omega
    rw [this]
    exact h1.rest

theorem own_mod {S : Nat → Prop} {w w' : World} {B e size n : Nat} {v : Value} {xs : List Value} (h : w.ownsRow B e size v n xs) (m : Mod S w w') (hS : ∀ k, v.ownBlock = some k → ¬ S k) : w'.ownsRow B e size v n xs := by
  refine ⟨h.1, ?_⟩
  rcases h.2 with h2 | ⟨g', cap, cur, hv, hb, hh, r⟩
  · exact .inl h2
  · exact .inr ⟨g', cap, cur, hv, hb, (m.block g' (Array.getElem?_eq_some_iff.1 hh).1 (hS g' (by rw [hv]; rfl))).trans hh, r⟩

set_option maxHeartbeats 2000000 in
theorem delfn_any (base : Nat) (flow run : Int) (v : Value) (L : List It) (B1 B2 : Nat) (w : World) (h : w.ownsRow base 33 6 v L.length (cs6 L)) (hl : L.length ≤ 1000000) (h1 : w.cell? ⟨B1, 0, none⟩ = some (.int .i64 flow)) (h2 : w.cell? ⟨B2, 0, none⟩ = some (.int .i64 run)) (n1 : v.ownBlock ≠ some B1) (n2 : v.ownBlock ≠ some B2) :
    Calls Try.prog 35 #[v, .func (.func 36) #[] #[.pointer (some ⟨B1, 0, none⟩), .pointer (some ⟨B2, 0, none⟩)]] w (RetRow base v (keepF (gone flow run) L) w) := by
  have l1 := World.block_lt_of_cell? w _ h1
  have l2 := World.block_lt_of_cell? w _ h2
  simp only at l1 l2
  have hsh : ∃ A c, v = .slice A L.length c := by
    rcases h.2 with ⟨rfl, h0⟩ | ⟨g, cap, cur, rfl, _⟩
    · exact ⟨none, 0, by rw [h0]⟩
    · exact ⟨_, _, rfl⟩
  obtain ⟨A, cp, rfl⟩ := hsh
  have HIX := hid (index_any flow run A cp L B1 B2 w (Row.of_own h) (by omega) h1 h2)
  have H := hid h
  have H1 := hid h1
  have H2 := hid h2
  clear h h1 h2
  go_enter Try.func35, Try.ntmps35
  go_wp2_with fail
  refine HIX.out.mono ?_
  rintro en w1 ⟨r, rfl, g1, hcase⟩
  have G1 := hid g1
  clear g1
  rcases hcase with ⟨rfl, hnone⟩ | ⟨i0, rfl, hi0, hgi, hall⟩
  · have HK := hid (keepF_none (gone flow run) L hnone)
    clear hnone
    go_wp2_with fail
    go_ret
    exact ⟨_, rfl, by rw [HK.out]; exact own_mod H.out (G1.out.mod fun _ => False) (fun _ _ e => e), G1.out.mod _, .inl rfl⟩
  · rcases id H.out.2 with ⟨_, h0⟩ | ⟨g, cap, cur, hv, hbg, hg', hnc, hcm, hcs, ht⟩
    · omega
    injection hv with hA _ hc
    subst hA hc
    obtain ⟨C, hC0⟩ : ∃ C, C = cur.toList := ⟨_, rfl⟩
    have hg : w1.heap[g]? = some (.cells C.toArray 33 (0, 0)) := by rw [hC0, (G1.out.block g (Array.getElem?_eq_some_iff.1 hg').1), hg']
    have hCl : C.length = cp * 6 := by rw [hC0]; simpa using hcs
    rw [← hC0] at ht
    have hgw : g < w.heap.size := (Array.getElem?_eq_some_iff.1 hg').1
    clear hC0 hg' hcs
    have hg1 : B1 ≠ g := fun e => n1 (by rw [e]; rfl)
    have hg2 : B2 ≠ g := fun e => n2 (by rw [e]; rfl)
    have hk0 : keepF (gone flow run) (L.take (i0 + 1)) = L.take i0 := by
      rw [keepF_succ _ _ _ hi0, if_pos hgi]
      refine keepF_none _ _ fun x hx => ?_
      obtain ⟨j, hj, rfl⟩ := List.getElem_of_mem hx
      simp only [List.length_take] at hj
      have := hall j (by omega)
      rw [List.getElem_take]
      simpa [List.getD, show j < L.length by omega] using this
    have T0 := hid (show Thin C cp L (keepF (gone flow run) (L.take (i0 + 1))) (i0 + 1) from by
      rw [hk0]
      refine ⟨hCl, ?_, ?_, by simp; omega⟩
      · rw [List.length_take, Nat.min_eq_left (by omega), cs6_take, ← ht, List.take_take, Nat.min_eq_left (by omega)]
      · rw [cs6_drop, ← ht, List.drop_take]
        congr 1
        omega)
    have hq0 : (keepF (gone flow run) (L.take (i0 + 1))).length = i0 := by rw [hk0, List.length_take]; omega
    have HQ0 := hid hq0
    have M0 := hid (G1.out.mod (fun k => k = g))
    have HG0 := hid hg
    clear hk0 hq0 hall hgi hg ht hCl HIX
    have hne1 : ((i0 : Int) == -1) = false := by rw [beq_eq_false_iff_ne]; omega
    go_wp2_with fail
    go_loopw [5, 6, 7] (fun i j _ wr => ∃ (q jj : Nat) (C : List Value), jj ≤ L.length ∧ i = .int .i64 q ∧ j = .int .i64 jj ∧ Mod (fun k => k = g) w wr ∧ wr.heap[g]? = some (.cells C.toArray 33 (0, 0)) ∧ Thin C cp L (keepF (gone flow run) (L.take jj)) jj ∧ (keepF (gone flow run) (L.take jj)).length = q) (fun _ j _ _ => L.length - (intOf j).toNat)
    case atStart => exact ⟨i0, i0 + 1, C, by omega, rfl, by go_num, M0.out, HG0.out, T0.out, HQ0.out⟩
    case round =>
      obtain ⟨q, jj, C', hjl, rfl, rfl, hm, hgc, hth, hq⟩ := hrel
      have HM := hid hm
      have HGC := hid hgc
      have HTH := hid hth
      have HQ := hid hq
      have hqj : q < jj := by have := hth.lt; omega
      have hC'l := hth.len
      have hgr : g < wr.heap.size := (Array.getElem?_eq_some_iff.1 hgc).1
      have hfz : ∀ t, wr.frozen? ⟨g, t, none⟩ = false := fun t => by simp [World.frozen?, hgc]
      have hce : ∀ t, wr.cell? ⟨g, t, none⟩ = C'[t]? := fun t => by simp [World.cell?, hgc]
      clear hm hgc hth hq
      by_cases hlt : jj < L.length
      · have hx := HTH.out.at_ hlt
        obtain ⟨⟨a, b, c, d, e, f⟩, hy⟩ : ∃ y, L.getD jj z0 = y := ⟨_, rfl⟩
        rw [hy] at hx
        have c0 := (hce (jj * 6)).trans (hx 0 _ rfl)
        have c1 := (hce (jj * 6 + 1)).trans (hx 1 _ rfl)
        have c2 := (hce (jj * 6 + 2)).trans (hx 2 _ rfl)
        have c3 := (hce (jj * 6 + 3)).trans (hx 3 _ rfl)
        have c4 := (hce (jj * 6 + 4)).trans (hx 4 _ rfl)
        have c5 := (hce (jj * 6 + 5)).trans (hx 5 _ rfl)
        have HY := hid hy
        clear hx hy
        have m1 : wr.cell? ⟨B1, 0, none⟩ = some (.int .i64 flow) := (World.cell?_of_block (HM.out.block B1 l1 hg1)).trans H1.out
        have m2 : wr.cell? ⟨B2, 0, none⟩ = some (.int .i64 run) := (World.cell?_of_block (HM.out.block B2 l2 hg2)).trans H2.out
        have HGN := hid (fun W (y : Gr wr W) => gone6 flow run a b c d e f B1 B2 W ((y.cell (p := ⟨B1, 0, none⟩) (World.block_lt_of_cell? wr _ m1)).trans m1) ((y.cell (p := ⟨B2, 0, none⟩) (World.block_lt_of_cell? wr _ m2)).trans m2))
        clear m1 m2
        have HKS := hid (keepF_succ (gone flow run) L jj hlt)
        rw [HY.out] at HKS
        cases hgn : gone flow run (a, b, c, d, e, f)
        · rw [hgn] at HGN HKS
          rw [if_neg Bool.false_ne_true] at HKS
          have HTK := hid (HTH.out.take hlt hnc (a, b, c, d, e, f))
          clear hgn
          obtain ⟨xv0, k0⟩ : ∃ u, wr.cell? ⟨g, q * 6, none⟩ = some u := ⟨_, (hce _).trans (List.getElem?_eq_getElem (by omega))⟩
          obtain ⟨xv1, k1⟩ : ∃ u, wr.cell? ⟨g, q * 6 + 1, none⟩ = some u := ⟨_, (hce _).trans (List.getElem?_eq_getElem (by omega))⟩
          obtain ⟨xv2, k2⟩ : ∃ u, wr.cell? ⟨g, q * 6 + 2, none⟩ = some u := ⟨_, (hce _).trans (List.getElem?_eq_getElem (by omega))⟩
          obtain ⟨xv3, k3⟩ : ∃ u, wr.cell? ⟨g, q * 6 + 3, none⟩ = some u := ⟨_, (hce _).trans (List.getElem?_eq_getElem (by omega))⟩
          obtain ⟨xv4, k4⟩ : ∃ u, wr.cell? ⟨g, q * 6 + 4, none⟩ = some u := ⟨_, (hce _).trans (List.getElem?_eq_getElem (by omega))⟩
          obtain ⟨xv5, k5⟩ : ∃ u, wr.cell? ⟨g, q * 6 + 5, none⟩ = some u := ⟨_, (hce _).trans (List.getElem?_eq_getElem (by omega))⟩
          have f0 := hfz (q * 6)
          have f1 := hfz (q * 6 + 1)
          have f2 := hfz (q * 6 + 2)
          have f3 := hfz (q * 6 + 3)
          have f4 := hfz (q * 6 + 4)
          have f5 := hfz (q * 6 + 5)
          clear hfz hce
          have hqn : (q : Int) < (L.length : Int) := by omega
          go_wp2_with (first | (go_at_fn 36; refine (HGN.out _ ((Gr.refl _).alloc _)).mono ?_; rintro en _ ⟨rfl, y1, rfl⟩) | (go_at_call 36; refine (HGN.out _ ((Gr.refl _).alloc _)).mono ?_; rintro en _ ⟨rfl, y1, rfl⟩))
          go_roundw
          case rel =>
            have G9 : Gr wr y1.val := ((Gr.refl wr).alloc _).ext y1
            refine ⟨q + 1, jj + 1, splice C' (q * 6) (ic (a, b, c, d, e, f)), by omega, by go_num, by go_num, (HM.out.gr G9).trans (mod6 y1.val g (q * 6) _ _ _ _ _ _) (fun _ _ h => h), row_set6 ((G9.block g hgr).trans HGC.out) (by omega) _ _ _ _ _ _, ?_, ?_⟩
            · rw [HKS.out]
              have := HTK.out
              rw [HQ.out] at this
              exact this
            · rw [HKS.out, List.length_append, HQ.out]; rfl
          case measure => simp [intOf]; omega
        · rw [hgn] at HGN HKS
          rw [if_pos rfl] at HKS
          clear hgn hfz hce
          go_wp2_with (first | (go_at_fn 36; refine (HGN.out _ ((Gr.refl _).alloc _)).mono ?_; rintro en _ ⟨rfl, y1, rfl⟩) | (go_at_call 36; refine (HGN.out _ ((Gr.refl _).alloc _)).mono ?_; rintro en _ ⟨rfl, y1, rfl⟩))
          go_roundw
          case rel =>
            have G9 : Gr wr y1.val := ((Gr.refl wr).alloc _).ext y1
            exact ⟨q, jj + 1, C', by omega, rfl, by go_num, HM.out.gr G9, (G9.block g hgr).trans HGC.out, by rw [HKS.out]; exact HTH.out.skip hlt, by rw [HKS.out]; exact HQ.out⟩
          case measure => simp [intOf]; omega
      · have hje : jj = L.length := by omega
        subst hje
        have hT := HTH.out
        have hQ := HQ.out
        rw [List.take_length] at hT hQ
        have HK := hid hT
        have HQ' := hid hQ
        clear hT hQ HTH HQ hfz hce
        have hcl : ∀ ty c', (Builtin.clear_ #[27] ty #[.slice (some ⟨g, q * 6, none⟩) (L.length - q) c']).run Try.prog wr = .ok (.tuple #[]) (wr.setRow g (splice C' (q * 6) (Builtin.zeroCells (Value.agg #[.int .i64 0, .int .i64 0, .int .i64 0, .int .i64 0, .int .i64 0, .int .i64 0]).cells (L.length - q)).toList).toArray) := fun ty c' =>
          run_clear_rowk wr 27 33 ty _ 6 Try.underlying27 (zero33 wr) rfl (by intro v hv; simp [Value.cells] at hv; rcases hv with rfl; rfl) g (q * 6) (L.length - q) c' (by omega) C' 33 HGC.out (by omega)
        have hlen2 : (splice C' (q * 6) (Builtin.zeroCells (Value.agg #[.int .i64 0, .int .i64 0, .int .i64 0, .int .i64 0, .int .i64 0, .int .i64 0]).cells (L.length - q)).toList).length = C'.length := length_splice _ _ _ (by rw [Array.length_toList, size_zeroCells]; simp only [Value.cells]; show _ + (L.length - q) * 6 ≤ _; omega)
        have hh2 := hid (setRow_heap wr g _ (splice C' (q * 6) (Builtin.zeroCells (Value.agg #[.int .i64 0, .int .i64 0, .int .i64 0, .int .i64 0, .int .i64 0, .int .i64 0]).cells (L.length - q)).toList).toArray 33 _ HGC.out)
        have hm2 := hid (HM.out.trans (setRow_mod wr g (splice C' (q * 6) (Builtin.zeroCells (Value.agg #[.int .i64 0, .int .i64 0, .int .i64 0, .int .i64 0, .int .i64 0, .int .i64 0]).cells (L.length - q)).toList).toArray) (fun _ _ h => h))
        have htk := hid (splice_take C' (Builtin.zeroCells (Value.agg #[.int .i64 0, .int .i64 0, .int .i64 0, .int .i64 0, .int .i64 0, .int .i64 0]).cells (L.length - q)).toList (q * 6) (by omega))
        generalize hw2 : wr.setRow g (splice C' (q * 6) (Builtin.zeroCells (Value.agg #[.int .i64 0, .int .i64 0, .int .i64 0, .int .i64 0, .int .i64 0, .int .i64 0]).cells (L.length - q)).toList).toArray = W2 at *
        generalize splice C' (q * 6) (Builtin.zeroCells (Value.agg #[.int .i64 0, .int .i64 0, .int .i64 0, .int .i64 0, .int .i64 0, .int .i64 0]).cells (L.length - q)).toList = C2 at *
        have HX2 := hid hw2
        clear hw2
        have hb1 : ¬ (cp = q) := by omega
        have hqn : q ≤ L.length := by omega
        have hqc : q ≤ cp := by omega
        go_wp2_with (at_builtin; refine wpList_clear_at _ rfl _ 27 rfl _ rfl (hcl _ _) ?_)
        go_ret
        have e := HQ'.out
        refine ⟨_, rfl, ⟨by rw [cs6_length], .inr ⟨g, cp, C2.toArray, ?_, hbg, hh2.out, by omega, hcm, by simp; omega, ?_⟩⟩, hm2.out.mono (fun _ _ h => by simp [Value.ownBlock, h]), .inl rfl⟩
        · rw [e]; rfl
        · rw [e, List.toList_toArray, htk.out, ← e]
          exact HK.out.kept
end Go.Proofs.Ytikmniokbliolaa
