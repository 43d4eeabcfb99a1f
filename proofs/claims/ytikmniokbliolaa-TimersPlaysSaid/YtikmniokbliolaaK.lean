import Derived.Test.YtikmniokbliolaaA2
import Derived.Test.YtikmniokbliolaaT1
namespace Go.Proofs.Ytikmniokbliolaa
open Go.RowKit Go.Ext Go.BigFrame
attribute [local go_sem] Ext.cell Ext.frozen Ext.lt Ext.le s1 s2 s3 s4 s5 s6 t1 t2 t3 t4 t5 t6
attribute [local go_sem ↓] Go.wp_at_zero Go.wp_at_succ

theorem srt_nil : Srt [] := List.Pairwise.nil
theorem addF_srt {L : List It} (h : Srt L) (x : It) : Srt (addF L x) := by
  unfold addF
  cases e : has L x
  · exact ins_srt h e
  · exact h
theorem takeF_srt {L : List It} (h : Srt L) (now : Int) : Srt (takeF L now) := by
  unfold takeF
  split
  · exact List.Pairwise.sublist (List.drop_sublist _ _) h
  · exact h

/-- An act on a heap of the law's own. -/
theorem RetH.gr {base g : Nat} {v r : Value} {L L' : List It} {w0 w : World} {e : Ending} {w' : World} (h : RetH base g v L' r w e w') (hb : w0.heap.size ≤ base) (G : Gr w0 w) (hh : HB base w g v L) : ∃ v', e = .returned r ∧ HB base w' g v' L' ∧ Gr w0 w' := by
  obtain ⟨v', e1, h1, m, _⟩ := h
  refine ⟨v', e1, h1, ?_⟩
  have hlo := hh.lo
  have M := (G.mod (fun k => w0.heap.size ≤ k)).trans m (fun k hk => by
    rintro (e | e)
    · omega
    · have := (hh.row.lt k e.symm).1; omega)
  exact ⟨M.os, M.tape, M.output, M.size, fun k hk => M.block k hk (by omega)⟩

theorem add6 (base g : Nat) (v : Value) (L : List It) (a b c d e f : Int) (w0 w : World) (h : HB base w g v L) (hs : Srt L) (hl : L.length ≤ 1000000) (hb : w0.heap.size ≤ base) (hbase : base ≤ w.heap.size) (G : Gr w0 w) :
    Calls Try.prog 12 #[.pointer (some ⟨g, 0, none⟩), .agg #[.int .i64 a, .int .i64 b, .int .i64 c, .int .i64 d, .int .i64 e, .int .i64 f]] w (fun en w' => ∃ v', en = .returned (.bool (!has L (a, b, c, d, e, f))) ∧ HB base w' g v' (addF L (a, b, c, d, e, f)) ∧ Gr w0 w') :=
  (add_any base g v L (a, b, c, d, e, f) w h hs hl hbase).mono fun _ _ r => r.gr hb G h
theorem take6 (base g : Nat) (v : Value) (L : List It) (now : Int) (w0 w : World) (h : HB base w g v L) (hs : Srt L) (hl : L.length ≤ 1000000) (hb : w0.heap.size ≤ base) (G : Gr w0 w) :
    Calls Try.prog 13 #[.pointer (some ⟨g, 0, none⟩), .int .i64 now] w (fun en w' => ∃ v', en = .returned (.tuple #[iv (if due L now then hd L else z0), .bool (due L now)]) ∧ HB base w' g v' (takeF L now) ∧ Gr w0 w') :=
  (take_any base g v L now w h hs hl).mono fun _ _ r => r.gr hb G h

set_option maxHeartbeats 1000000 in
theorem known_any (w : World) : Calls Try.prog 8 #[] w (RetE (.bool true) w) := by
  refine retE ?_
  go_enter Try.func8, Try.ntmps8
  go_wp2_with fail
  refine (new_any w.heap.size w (Nat.le_refl _)).mono ?_
  rintro e w1 ⟨rfl, h1, g1⟩
  have H1 := hid h1
  have G1 := hid g1
  clear h1 g1
  go_wp2_with fail
  refine (add6 w.heap.size w.heap.size _ [] 5 2 0 0 0 0 w w1 H1.out srt_nil (by simp) (Nat.le_refl _) G1.out.size G1.out).mono ?_
  rintro e w2 ⟨v2, rfl, h2, g2⟩
  have H2 := hid (show HB w.heap.size w2 w.heap.size v2 [(5, 2, 0, 0, 0, 0)] from h2)
  have G2 := hid g2
  clear h2 g2
  rw [show has [] (5, 2, 0, 0, 0, 0) = false by decide]
  go_wp2_with fail
  refine (add6 w.heap.size w.heap.size _ [(5, 2, 0, 0, 0, 0)] 5 1 0 0 0 0 w w2 H2.out (by simp [Srt]) (by simp) (Nat.le_refl _) G2.out.size G2.out).mono ?_
  rintro e w3 ⟨v3, rfl, h3, g3⟩
  have H3 := hid (show HB w.heap.size w3 w.heap.size v3 [(5, 1, 0, 0, 0, 0), (5, 2, 0, 0, 0, 0)] from h3)
  have G3 := hid g3
  clear h3 g3
  rw [show has [(5, 2, 0, 0, 0, 0)] (5, 1, 0, 0, 0, 0) = false by decide]
  have S2 : Srt [(5, 1, 0, 0, 0, 0), (5, 2, 0, 0, 0, 0)] := by unfold Srt; decide
  have HS2 := hid S2
  clear S2
  go_wp2_with fail
  refine (add6 w.heap.size w.heap.size _ [(5, 1, 0, 0, 0, 0), (5, 2, 0, 0, 0, 0)] 5 1 0 0 0 0 w w3 H3.out HS2.out (by simp) (Nat.le_refl _) G3.out.size G3.out).mono ?_
  rintro e w4 ⟨v4, rfl, h4, g4⟩
  have H4 := hid (show HB w.heap.size w4 w.heap.size v4 [(5, 1, 0, 0, 0, 0), (5, 2, 0, 0, 0, 0)] from h4)
  have G4 := hid g4
  clear h4 g4
  rw [show has [(5, 1, 0, 0, 0, 0), (5, 2, 0, 0, 0, 0)] (5, 1, 0, 0, 0, 0) = true by decide]
  go_wp2_with fail
  refine (take6 w.heap.size w.heap.size _ [(5, 1, 0, 0, 0, 0), (5, 2, 0, 0, 0, 0)] 5 w w4 H4.out HS2.out (by simp) (Nat.le_refl _) G4.out).mono ?_
  rintro e w5 ⟨v5, rfl, h5, g5⟩
  have H5 := hid (show HB w.heap.size w5 w.heap.size v5 [(5, 2, 0, 0, 0, 0)] from h5)
  have G5 := hid g5
  clear h5 g5
  rw [show (Value.tuple #[iv (if due [(5, 1, 0, 0, 0, 0), (5, 2, 0, 0, 0, 0)] 5 then hd [(5, 1, 0, 0, 0, 0), (5, 2, 0, 0, 0, 0)] else z0), .bool (due [(5, 1, 0, 0, 0, 0), (5, 2, 0, 0, 0, 0)] 5)]) = .tuple #[.agg #[.int .i64 5, .int .i64 1, .int .i64 0, .int .i64 0, .int .i64 0, .int .i64 0], .bool true] from rfl]
  go_wp2_with fail
  have GA := hid (show Gr w (w5.alloc (.cells #[.int .i64 5, .int .i64 1, .int .i64 0, .int .i64 0, .int .i64 0, .int .i64 0] 33)) from G5.out.alloc _)
  have H5' := hid (H5.out.gr ((Gr.refl _).alloc (.cells #[.int .i64 5, .int .i64 1, .int .i64 0, .int .i64 0, .int .i64 0, .int .i64 0] 33)))
  refine (take_any w.heap.size w.heap.size v5 [(5, 2, 0, 0, 0, 0)] 4 _ H5'.out (by simp [Srt]) (by simp)).mono ?_
  intro e w6 h6'
  have G6 := hid (RetH.gr h6' (Nat.le_refl _) GA.out H5'.out)
  obtain ⟨v6, rfl, h6, m6, _⟩ := h6'
  obtain ⟨_, _, _, g6⟩ := G6.out
  have HG6 := hid g6
  obtain ⟨k0, k1, k2, k3, k4, k5, _⟩ := heap6 ((m6.block w5.heap.size (by simp) (by
    rintro (e | e)
    · have := H5.out.lt; omega
    · have := (H5.out.row.lt _ e.symm).2; omega)).trans (heap_alloc_new w5 _))
  have hlt6 : w5.heap.size < w6.heap.size := Nat.lt_of_lt_of_le (by simp) m6.size
  clear h6 m6 G6 g6
  rw [show (Value.tuple #[iv (if due [(5, 2, 0, 0, 0, 0)] 4 then hd [(5, 2, 0, 0, 0, 0)] else z0), .bool (due [(5, 2, 0, 0, 0, 0)] 4)]) = .tuple #[.agg #[.int .i64 0, .int .i64 0, .int .i64 0, .int .i64 0, .int .i64 0, .int .i64 0], .bool false] from rfl]
  have HI := fun W (c0 : W.cell? ⟨w6.heap.size + 1, 0, none⟩ = some (.int .i64 5)) (c1 : W.cell? ⟨w6.heap.size + 1, 1, none⟩ = some (.int .i64 4)) (c2 : W.cell? ⟨w6.heap.size + 1, 2, none⟩ = some (.int .i64 7)) => block_any 3 [5, 4, 7] (.slice (some ⟨w6.heap.size + 1, 0, none⟩) 3 3) W
    ⟨_, _, rfl, by simp, fun _ => ⟨_, _, rfl, fun j hj => by
      have : j = 0 ∨ j = 1 ∨ j = 2 := by simp at hj; omega
      rcases this with rfl | rfl | rfl
      · exact c0
      · exact c1
      · exact c2⟩⟩ (by intro x hx; simp at hx; rcases hx with rfl | rfl | rfl <;> exact ⟨by omega, by omega⟩) (by simp)
  have HII := hid HI
  clear HI
  go_wp2_with (go_at_call 9; refine (HII.out _ (by go_simp) (by go_simp) (by go_simp)).mono ?_; rintro e _ ⟨r, y9, rfl, rfl, hr⟩
               obtain rfl : r = 5 := hr.eq (.inr ⟨by omega, by omega, 2, rfl, fun j hj => by have : j = 0 ∨ j = 1 := (by omega); rcases this with rfl | rfl <;> decide, by decide⟩))
  go_ret
  exact ⟨rfl, ((HG6.out.alloc _).alloc _).ext y9⟩
end Go.Proofs.Ytikmniokbliolaa
