import Derived.Test.YtlencagfkajcnaaR1
namespace Go.Proofs.Ytlencagfkajcnaa
open Go.RowKit Go.Ext Go.BigFrame Go.Maps
attribute [local go_sem] Ext.cell Ext.frozen Ext.lt Ext.le s1 s2 s3 s4 s5 s6 t1 t2 t3 t4 t5 t6
attribute [local go_sem ↓] Go.wp_at_zero Go.wp_at_succ

theorem any_take (C : List (Int × Int)) (f : Int × Int → Bool) (h : ∀ t, t < C.length → f (C.getD t c0) = false) : C.any f = false := by
  rw [List.any_eq_false]
  intro x hx
  obtain ⟨t, ht, rfl⟩ := List.mem_iff_getElem.1 hx
  have := h t ht
  simp [List.getD, ht] at this
  simp [this]
theorem any_has (C : List (Int × Int)) (f : Int × Int → Bool) (t : Nat) (ht : t < C.length) (h : f (C.getD t c0) = true) : C.any f = true := by
  rw [List.any_eq_true]
  refine ⟨C[t], List.getElem_mem _, ?_⟩
  simpa [List.getD, ht] using h
theorem heap2 {W : World} {B t : Nat} {v0 v1 : Value} (h : W.heap[B]? = some (.cells #[v0, v1] t (0, 0))) : W.cell? ⟨B, 0, none⟩ = some v0 ∧ W.cell? ⟨B, 1, none⟩ = some v1 ∧ W.frozen? ⟨B, 0, none⟩ = false ∧ W.frozen? ⟨B, 1, none⟩ = false := by
  refine ⟨?_, ?_, ?_, ?_⟩ <;> simp [World.cell?, World.frozen?, h]

set_option maxRecDepth 100000 in
set_option maxHeartbeats 4000000 in
theorem openR_any (base g : Nat) (nodes sent a b : Int) (v vc : Value) (L : List It) (C : List (Int × Int)) (P : List Pk) (w : World) (h : RB base w g nodes sent v vc L C P) (hl : C.length ≤ 1000000) :
    Calls Try.prog 20 #[.pointer (some ⟨g, 0, none⟩), .int .i64 a, .int .i64 b] w (RetE (.bool (opF nodes (cutL C) a b)) w) := by
  have H := hid h
  have HA := hid (fun W (y : Gr w W) => is_any g nodes a W (h.gr y).cs.1)
  have HB := hid (fun W (y : Gr w W) => is_any g nodes b W (h.gr y).cs.1)
  have hlt := h.lt
  obtain ⟨A, cp, rfl⟩ := h.shapeC
  clear h
  refine retE ?_
  unfold opF
  cases ha : isN nodes a
  · rw [ha] at HA
    clear ha
    simp only [Bool.false_and]
    go_enter Try.func20, Try.ntmps20
    go_wp2_with (go_at_call 40; (with_reducible refine (HA.out _ (Gr.refl _)).mono ?_); rintro en _ ⟨rfl, y1, rfl⟩)
    go_ret
    exact ⟨rfl, y1.gr⟩
  rw [ha] at HA
  clear ha
  cases hb : isN nodes b
  · rw [hb] at HB
    clear hb
    simp only [Bool.true_and, Bool.false_and]
    go_enter Try.func20, Try.ntmps20
    go_wp2_with (first
      | (go_at_call 40; (with_reducible refine (HA.out _ (Gr.refl _)).mono ?_); rintro en _ ⟨rfl, y1, rfl⟩)
      | (go_at_call 40; (with_reducible refine (HB.out _ y1.gr).mono ?_); rintro en _ ⟨rfl, y2, rfl⟩))
    go_ret
    exact ⟨rfl, y1.gr.ext y2⟩
  rw [hb] at HB
  clear hb
  simp only [Bool.and_self, Bool.true_and]
  go_enter Try.func20, Try.ntmps20
  go_wp2_with (first
    | (go_at_call 40; (with_reducible refine (HA.out _ (Gr.refl _)).mono ?_); rintro en _ ⟨rfl, y1, rfl⟩)
    | (go_at_call 40; (with_reducible refine (HB.out _ y1.gr).mono ?_); rintro en _ ⟨rfl, y2, rfl⟩))
  have G2 := hid (y1.gr.ext y2)
  clear HA HB
  generalize y2.val = W2 at *
  go_loopw [7] (fun i wr => ∃ k : Nat, k ≤ C.length ∧ i = .int .i64 k ∧ Gr w wr ∧ ∀ t, t < k → decide (pr (C.getD t c0).1 (C.getD t c0).2 = pr a b) = false) (fun i _ => C.length - (intOf i).toNat)
  case atStart => exact ⟨0, Nat.zero_le _, rfl, G2.out, fun t ht => by omega⟩
  case round =>
    obtain ⟨k, hk, rfl, hg, hno⟩ := hrel
    have HG := hid hg
    have HN := hid hno
    obtain ⟨_, _, _, q3, _, _, _⟩ := (H.out.gr hg).cs
    have hlt2 : g < wr.heap.size := (H.out.gr hg).lt
    clear hg hno
    by_cases hlt3 : k < C.length
    · obtain ⟨r, cap, e, hcap, hm, hb, hr, hc⟩ := own_open (H.out.gr HG.out).cuts (by omega)
      injection e with e1 _ e3
      subst e1 e3
      obtain ⟨g0, g1⟩ := cs2_get C k hlt3
      have d0 := hc _ _ g0
      have d1 := hc _ _ g1
      have hnx : ∀ b' : Bool, decide (pr (C.getD k c0).1 (C.getD k c0).2 = pr a b) = false → ∀ t, t < k + 1 → decide (pr (C.getD t c0).1 (C.getD t c0).2 = pr a b) = false := fun _ h t ht => by
        by_cases e : t = k
        · subst e; exact h
        · exact HN.out t (by omega)
      have HNX := hid hnx
      have hys : decide (pr (C.getD k c0).1 (C.getD k c0).2 = pr a b) = true → cutL C (pr a b) = true := fun h => any_has C _ k hlt3 h
      have HYS := hid hys
      clear hc g0 g1 hnx hys
      obtain ⟨⟨x, y⟩, hy⟩ : ∃ y, C.getD k c0 = y := ⟨_, rfl⟩
      rw [hy] at d0 d1 HNX HYS
      simp only at d0 d1
      clear hy
      have HPQ := hid (pr_eq x y a b)
      have HB1 := hid (heap_alloc_new wr (.cells #[.int .i64 x, .int .i64 y] 66))
      have G1 := hid ((Gr.refl wr).alloc (.cells #[.int .i64 x, .int .i64 y] 66))
      by_cases e1 : x = a
      · have q1 : (x == a) = true := by simp [e1]
        by_cases e2 : y = b
        · have q2 : (y == b) = true := by simp [e2]
          have hF := HYS.out (decide_eq_true (HPQ.out.2 (.inl ⟨e1, e2⟩)))
          clear e1 e2
          go_wp2_with fail
          go_ret
          exact ⟨by first | rfl | (rw [hF]; rfl), HG.out.trans G1.out⟩
        · have q2 : (y == b) = false := by rw [beq_eq_false_iff_ne]; exact e2
          by_cases e3 : x = b
          · have q3 : (x == b) = true := by simp [e3]
            by_cases e4 : y = a
            · have q4 : (y == a) = true := by simp [e4]
              have hF := HYS.out (decide_eq_true (HPQ.out.2 (.inr ⟨e3, e4⟩)))
              clear e1 e2 e3 e4
              go_wp2_with fail
              go_ret
              exact ⟨by first | rfl | (rw [hF]; rfl), HG.out.trans G1.out⟩
            · have q4 : (y == a) = false := by rw [beq_eq_false_iff_ne]; exact e4
              have hF := hid (HNX.out true (decide_eq_false fun h => by rcases HPQ.out.1 h with h | h; exact e2 h.2; exact e4 h.2))
              clear e1 e2 e3 e4
              go_wp2_with fail
              go_roundw
              case rel => exact ⟨k + 1, by omega, by go_num, HG.out.trans G1.out, hF.out⟩
              case measure => simp [intOf]; omega
          · have q3 : (x == b) = false := by rw [beq_eq_false_iff_ne]; exact e3
            have hF := hid (HNX.out true (decide_eq_false fun h => by rcases HPQ.out.1 h with h | h; exact e2 h.2; exact e3 h.1))
            clear e1 e2 e3
            go_wp2_with fail
            go_roundw
            case rel => exact ⟨k + 1, by omega, by go_num, HG.out.trans G1.out, hF.out⟩
            case measure => simp [intOf]; omega
      · have q1 : (x == a) = false := by rw [beq_eq_false_iff_ne]; exact e1
        by_cases e3 : x = b
        · have q3 : (x == b) = true := by simp [e3]
          by_cases e4 : y = a
          · have q4 : (y == a) = true := by simp [e4]
            have hF := HYS.out (decide_eq_true (HPQ.out.2 (.inr ⟨e3, e4⟩)))
            clear e1 e3 e4
            go_wp2_with fail
            go_ret
            exact ⟨by first | rfl | (rw [hF]; rfl), HG.out.trans G1.out⟩
          · have q4 : (y == a) = false := by rw [beq_eq_false_iff_ne]; exact e4
            have hF := hid (HNX.out true (decide_eq_false fun h => by rcases HPQ.out.1 h with h | h; exact e1 h.1; exact e4 h.2))
            clear e1 e3 e4
            go_wp2_with fail
            go_roundw
            case rel => exact ⟨k + 1, by omega, by go_num, HG.out.trans G1.out, hF.out⟩
            case measure => simp [intOf]; omega
        · have q3 : (x == b) = false := by rw [beq_eq_false_iff_ne]; exact e3
          have hF := hid (HNX.out true (decide_eq_false fun h => by rcases HPQ.out.1 h with h | h; exact e1 h.1; exact e3 h.1))
          clear e1 e3
          go_wp2_with fail
          go_roundw
          case rel => exact ⟨k + 1, by omega, by go_num, HG.out.trans G1.out, hF.out⟩
          case measure => simp [intOf]; omega
    · have hke : k = C.length := by omega
      subst hke
      have hF : cutL C (pr a b) = false := any_take C _ HN.out
      go_wp2_with fail
      go_ret
      exact ⟨by first | rfl | (rw [hF]; rfl), HG.out⟩
end Go.Proofs.Ytlencagfkajcnaa
