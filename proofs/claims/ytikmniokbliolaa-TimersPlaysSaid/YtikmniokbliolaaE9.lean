import Derived.Test.YtikmniokbliolaaE7
import Derived.Test.YtikmniokbliolaaL2
namespace Go.Proofs.Ytikmniokbliolaa
open Go.RowKit Go.Ext Go.BigFrame
attribute [local go_sem] Ext.cell Ext.frozen Ext.lt Ext.le s1 s2 s3 s4 s5 s6 t1 t2 t3 t4 t5 t6
attribute [local go_sem ↓] Go.wp_at_zero Go.wp_at_succ

abbrev ActA := Int × It × Int
abbrev a0 : ActA := (0, z0, 0)
def RowA (w : World) (A : Option Addr) (L : List ActA) : Prop := L ≠ [] → ∃ b off, A = some ⟨b, off, none⟩ ∧ ∀ i, i < L.length →
  w.cell? ⟨b, off + i * 8, none⟩ = some (.int .i64 (L.getD i a0).1) ∧ w.cell? ⟨b, off + i * 8 + 1, none⟩ = some (.int .i64 (L.getD i a0).2.1.1) ∧ w.cell? ⟨b, off + i * 8 + 2, none⟩ = some (.int .i64 (L.getD i a0).2.1.2.1) ∧
  w.cell? ⟨b, off + i * 8 + 3, none⟩ = some (.int .i64 (L.getD i a0).2.1.2.2.1) ∧ w.cell? ⟨b, off + i * 8 + 4, none⟩ = some (.int .i64 (L.getD i a0).2.1.2.2.2.1) ∧ w.cell? ⟨b, off + i * 8 + 5, none⟩ = some (.int .i64 (L.getD i a0).2.1.2.2.2.2.1) ∧
  w.cell? ⟨b, off + i * 8 + 6, none⟩ = some (.int .i64 (L.getD i a0).2.1.2.2.2.2.2) ∧ w.cell? ⟨b, off + i * 8 + 7, none⟩ = some (.int .i64 (L.getD i a0).2.2)

theorem heap8 {W : World} {B t : Nat} {o a b c d e f n : Int} (h : W.heap[B]? = some (.cells #[.int .i64 o, .int .i64 a, .int .i64 b, .int .i64 c, .int .i64 d, .int .i64 e, .int .i64 f, .int .i64 n] t (0, 0))) :
    W.cell? ⟨B, 0, none⟩ = some (.int .i64 o) ∧ W.cell? ⟨B, 1, none⟩ = some (.int .i64 a) ∧ W.cell? ⟨B, 2, none⟩ = some (.int .i64 b) ∧ W.cell? ⟨B, 3, none⟩ = some (.int .i64 c) ∧ W.cell? ⟨B, 4, none⟩ = some (.int .i64 d) ∧ W.cell? ⟨B, 5, none⟩ = some (.int .i64 e) ∧ W.cell? ⟨B, 6, none⟩ = some (.int .i64 f) ∧ W.cell? ⟨B, 7, none⟩ = some (.int .i64 n) := by
  refine ⟨?_, ?_, ?_, ?_, ?_, ?_, ?_, ?_⟩ <;> simp [World.cell?, h]

theorem cell_of_block {w w' : World} {b : Nat} (h : w'.heap[b]? = w.heap[b]?) (o : Nat) : w'.cell? ⟨b, o, none⟩ = w.cell? ⟨b, o, none⟩ := by simp [World.cell?, h]
theorem delF_srt {L : List It} (h : Srt L) (x : It) : Srt (delF L x) := by
  unfold delF
  split
  · rw [← List.eraseIdx_eq_take_drop_succ]
    exact List.Pairwise.sublist (List.eraseIdx_sublist _ _) h
  · exact h
theorem delF_le (L : List It) (x : It) : (delF L x).length ≤ L.length := by
  unfold delF
  split
  · rw [← List.eraseIdx_eq_take_drop_succ]
    exact (List.eraseIdx_sublist _ _).length_le
  · exact Nat.le_refl _
theorem takeF_le (L : List It) (now : Int) : (takeF L now).length ≤ L.length := by
  unfold takeF
  split
  · simp
  · exact Nat.le_refl _
theorem addF_le (L : List It) (x : It) : (addF L x).length ≤ L.length + 1 := by
  rw [addF_length]; split <;> omega

/-- One heap's act, then the other's: the memory stays new. -/
theorem RetR.gr {base g : Nat} {v : Value} {L L' : List It} {r : Value} {w0 w : World} {e : Ending} {w' : World} (h : RetR base g L' r w e w') (hb : w0.heap.size ≤ base) (G : Gr w0 w) (hh : RB base w g v L) : ∃ v', e = .returned r ∧ RB base w' g v' L' ∧ Gr w0 w' ∧ Mod (fun k => k = g) w w' := by
  obtain ⟨v', e1, h1, m⟩ := h
  refine ⟨v', e1, h1, ?_, m⟩
  have hlo := hh.lo
  have M := (G.mod (fun k => w0.heap.size ≤ k)).trans m (fun k hk => by
    rintro rfl
    omega)
  exact ⟨M.os, M.tape, M.output, M.size, fun k hk => M.block k hk (by omega)⟩

set_option maxRecDepth 100000 in
set_option maxHeartbeats 40000000 in
/-- The law TimersPlays. -/
theorem plays_any (A : Option Addr) (c : Nat) (acts : List ActA) (w : World) (hr : RowA w A acts) : Calls Try.prog 6 #[.slice A acts.length c] w (RetE (.bool true) w) := by
  refine retE ?_
  have HR := hid hr
  clear hr
  by_cases hlen : 250 < acts.length
  · have hle : (250 : Int) < (acts.length : Int) := by omega
    go_enter Try.func6, Try.ntmps6
    go_wp2_with (go_at_call 8; refine (known_any _).mono ?_; rintro e _ ⟨rfl, y1, rfl⟩)
    go_ret
    exact ⟨rfl, y1.gr⟩
  have hle : ¬ (250 : Int) < (acts.length : Int) := by omega
  go_enter Try.func6, Try.ntmps6
  go_wp2_with (first
    | (go_at_call 8; refine (known_any _).mono ?_; rintro e _ ⟨rfl, y1, rfl⟩)
    | (go_at_call 11; refine (new_any w.heap.size _ y1.gr.size).mono ?_; rintro e w2 ⟨rfl, h2, g2⟩; have H2 := hid h2; have G2 := hid (y1.gr.trans g2); have hlt2 := h2.lt; clear h2 g2))
  have HT2 := hid (show Two w.heap.size (w2.alloc (.cells #[.slice none 0 0] 51)) y1.val.heap.size w2.heap.size [] from
    ⟨⟨_, H2.out.gr ((Gr.refl _).alloc _)⟩, ⟨.slice none 0 0, ⟨G2.out.size, heap_alloc_new _ _, World.ownsRow_nil _ _ _ _⟩⟩⟩)
  have G3 := hid (G2.out.alloc (.cells #[.slice none 0 0] 51))
  clear H2 G2 hlt2
  generalize w2.alloc (.cells #[.slice none 0 0] 51) = w3 at *
  generalize w2.heap.size = g' at *
  generalize y1.val.heap.size = g at *
  go_loopw [5] (fun i wr => ∃ (k : Nat) (L : List It), k ≤ acts.length ∧ i = .int .i64 k ∧ Gr w wr ∧ Two w.heap.size wr g g' L ∧ Srt L ∧ L.length ≤ k) (fun i _ => acts.length - (intOf i).toNat)
  case atStart => exact ⟨0, [], Nat.zero_le _, rfl, G3.out, HT2.out, srt_nil, Nat.le_refl _⟩
  case round =>
    obtain ⟨k, L, hk, rfl, hg, ht, hs, hLk⟩ := hrel
    have HG := hid hg
    have HT := hid ht
    have HS := hid hs
    have hsz := hg.size
    clear hg ht hs
    by_cases hlt : k < acts.length
    · obtain ⟨b, off, rfl, hc⟩ := HR.out (by intro e; rw [e] at hlt; simp at hlt)
      obtain ⟨c0, c1, c2, c3, c4, c5, c6, c7⟩ := hc k hlt
      have hbw := World.block_lt_of_cell? _ _ c0
      simp only at hbw
      clear hc
      obtain ⟨⟨op, ⟨x0, x1, x2, x3, x4, x5⟩, now⟩, hy⟩ : ∃ y, acts.getD k a0 = y := ⟨_, rfl⟩
      rw [hy] at c0 c1 c2 c3 c4 c5 c6 c7
      simp only at c0 c1 c2 c3 c4 c5 c6 c7
      clear hy
      have hLl : L.length ≤ 1000000 := by omega
      rw [← HG.out.cell (show (⟨b, off + k * 8, none⟩ : Addr).block < w.heap.size from hbw)] at c0
      rw [← HG.out.cell (show (⟨b, off + k * 8 + 1, none⟩ : Addr).block < w.heap.size from hbw)] at c1
      rw [← HG.out.cell (show (⟨b, off + k * 8 + 2, none⟩ : Addr).block < w.heap.size from hbw)] at c2
      rw [← HG.out.cell (show (⟨b, off + k * 8 + 3, none⟩ : Addr).block < w.heap.size from hbw)] at c3
      rw [← HG.out.cell (show (⟨b, off + k * 8 + 4, none⟩ : Addr).block < w.heap.size from hbw)] at c4
      rw [← HG.out.cell (show (⟨b, off + k * 8 + 5, none⟩ : Addr).block < w.heap.size from hbw)] at c5
      rw [← HG.out.cell (show (⟨b, off + k * 8 + 6, none⟩ : Addr).block < w.heap.size from hbw)] at c6
      rw [← HG.out.cell (show (⟨b, off + k * 8 + 7, none⟩ : Addr).block < w.heap.size from hbw)] at c7
      have hbr : b < wr.heap.size := by omega
      have HBB := hid (show (wr.alloc (.cells #[.int .i64 op, .int .i64 x0, .int .i64 x1, .int .i64 x2, .int .i64 x3, .int .i64 x4, .int .i64 x5, .int .i64 now] 53)).heap[wr.heap.size]? = some (.cells #[.int .i64 op, .int .i64 x0, .int .i64 x1, .int .i64 x2, .int .i64 x3, .int .i64 x4, .int .i64 x5, .int .i64 now] 53 (0, 0)) from heap_alloc_new _ _)
      have G6 := hid ((Gr.refl wr).alloc (.cells #[.int .i64 op, .int .i64 x0, .int .i64 x1, .int .i64 x2, .int .i64 x3, .int .i64 x4, .int .i64 x5, .int .i64 now] 53))
      obtain ⟨k0, k1, k2, k3, k4, k5, k6, k7⟩ := heap8 HBB.out
      have hBlt : wr.heap.size < (wr.alloc (.cells #[.int .i64 op, .int .i64 x0, .int .i64 x1, .int .i64 x2, .int .i64 x3, .int .i64 x4, .int .i64 x5, .int .i64 now] 53)).heap.size := by simp
      obtain ⟨⟨v, hv⟩, ⟨v', hv'⟩⟩ := HT.out
      have HH := hid hv
      have HRR := hid hv'
      have hgl : g < wr.heap.size := hv.lt
      have hgl' : g' < wr.heap.size := hv'.lt
      have HNE := hid (show ¬ (wr.heap.size = g ∨ some wr.heap.size = v.ownBlock) by rintro (e | e); omega; have := (hv.row.lt _ e.symm).2; omega)
      clear hv hv'
      by_cases h1 : op = 1
      · subst h1
        go_wp2_with fail
        generalize wr.alloc (.cells #[.int .i64 1, .int .i64 x0, .int .i64 x1, .int .i64 x2, .int .i64 x3, .int .i64 x4, .int .i64 x5, .int .i64 now] 53) = W6 at *
        have CA := hid (fun W (y : HB w.heap.size W g v L) (hb : w.heap.size ≤ W.heap.size) => add_any w.heap.size g v L (x0, x1, x2, x3, x4, x5) W y HS.out hLl hb)
        have CB := hid (fun W (y : RB w.heap.size W g' v' L) (hb : w.heap.size ≤ W.heap.size) => addR_any w.heap.size g' v' L x0 x1 x2 x3 x4 x5 W y hLl hb)
        simp only [iv] at CA CB
        have HSR := hid (show Srt (addF L (x0, x1, x2, x3, x4, x5)) from addF_srt HS.out (x0, x1, x2, x3, x4, x5))
        have HLE := hid (show (addF L (x0, x1, x2, x3, x4, x5)).length ≤ k + 1 from Nat.le_trans (addF_le L (x0, x1, x2, x3, x4, x5)) (by omega))
        have HL2 := hid (show addF L (x0, x1, x2, x3, x4, x5) = addF L (x0, x1, x2, x3, x4, x5) from rfl)
        generalize addF L (x0, x1, x2, x3, x4, x5) = L2 at CA CB HSR HLE
        go_region_held3 (fun w' => w'.cell? ⟨wr.heap.size, 1, none⟩ = some (.int .i64 x0) ∧ w'.cell? ⟨wr.heap.size, 2, none⟩ = some (.int .i64 x1) ∧ w'.cell? ⟨wr.heap.size, 3, none⟩ = some (.int .i64 x2) ∧ w'.cell? ⟨wr.heap.size, 4, none⟩ = some (.int .i64 x3) ∧ w'.cell? ⟨wr.heap.size, 5, none⟩ = some (.int .i64 x4) ∧ w'.cell? ⟨wr.heap.size, 6, none⟩ = some (.int .i64 x5)) (first | go_keep | (refine ⟨?_, ?_, ?_, ?_, ?_, ?_⟩ <;> (rw [hS7]; assumption)) | (refine ⟨?_, ?_, ?_, ?_, ?_, ?_⟩ <;> (rw [hS9]; assumption)) | (refine ⟨?_, ?_, ?_, ?_, ?_, ?_⟩ <;> go_simp; done))
          (first
            | (go_at_call 12
               refine (CA.out _ (HH.out.gr G6.out.drew) (by simp; omega)).mono ?_
               intro en w7 h7
               obtain ⟨_, _, _, g7⟩ := RetH.gr h7 (Nat.le_refl _) ((HG.out.trans G6.out).drew) (HH.out.gr G6.out.drew)
               obtain ⟨v7, rfl, h7b, m7, o7⟩ := h7
               have H7 := hid h7b
               have R7 := hid ((HRR.out.gr G6.out.drew).keepH (HH.out.gr G6.out.drew) m7)
               have G7 := hid g7
               have hl7 : wr.heap.size < w7.heap.size := Nat.lt_of_lt_of_le hBlt (show W6.heap.size ≤ w7.heap.size from m7.size)
               have hS7 : ∀ o, w7.cell? ⟨wr.heap.size, o, none⟩ = W6.cell? ⟨wr.heap.size, o, none⟩ := fun o => cell_of_block (w := W6) (m7.block wr.heap.size (by simp; omega) HNE.out) o
               clear h7b m7 o7 g7)
                   | (go_at_call 17; refine (of6 _ _ _ _ _ _ _).mono ?_; rintro en _ ⟨rfl, y8, rfl⟩)
            | (go_at_call 21
               refine (CB.out _ (R7.out.gr y8.gr) ((G7.out.ext y8).size)).mono ?_
               intro en w9 h9
               obtain ⟨v9, rfl, h9b, g9, m9⟩ := RetR.gr h9 (Nat.le_refl _) (G7.out.ext y8) (R7.out.gr y8.gr)
               have T9 := hid (show Two w.heap.size w9 g g' L2 from ⟨⟨_, (H7.out.gr y8.gr).keepR (R7.out.gr y8.gr) m9⟩, ⟨_, h9b⟩⟩)
               have G9 := hid g9
               have hS9 : ∀ o, w9.cell? ⟨wr.heap.size, o, none⟩ = W6.cell? ⟨wr.heap.size, o, none⟩ := fun o => (cell_of_block (w := y8.val) (m9.block wr.heap.size (Nat.lt_of_lt_of_le (hl7) y8.gr.size) (by omega)) o).trans ((y8.gr.cell (p := ⟨wr.heap.size, o, none⟩) hl7).trans (hS7 o))
               clear h9b m9 g9 hS7))
        clear hS9 CA CB
        go_wp2_with (go_at_call 27; refine (looks_any w.heap.size g g' L2 _ T9.out (by have := HLE.out; omega)).mono ?_; rintro en _ ⟨rfl, y10, rfl⟩)
        go_roundw
        case rel => exact ⟨k + 1, L2, by omega, by go_num, G9.out.ext y10, T9.out.gr y10.gr, HSR.out, HLE.out⟩
        case measure => simp [intOf]; omega
      · have n1 : (op == 1) = false := by simpa using h1
        by_cases h2 : op = 2
        · subst h2
          go_wp2_with fail
          generalize wr.alloc (.cells #[.int .i64 2, .int .i64 x0, .int .i64 x1, .int .i64 x2, .int .i64 x3, .int .i64 x4, .int .i64 x5, .int .i64 now] 53) = W6 at *
          have CA := hid (fun W (y : HB w.heap.size W g v L) (hb : w.heap.size ≤ W.heap.size) => remove_any w.heap.size g v L (x0, x1, x2, x3, x4, x5) W y HS.out hLl)
          have CB := hid (fun W (y : RB w.heap.size W g' v' L) (hb : w.heap.size ≤ W.heap.size) => removeR_any w.heap.size g' v' L x0 x1 x2 x3 x4 x5 W y HS.out hLl hb)
          simp only [iv] at CA CB
          have HSR := hid (show Srt (delF L (x0, x1, x2, x3, x4, x5)) from delF_srt HS.out (x0, x1, x2, x3, x4, x5))
          have HLE := hid (show (delF L (x0, x1, x2, x3, x4, x5)).length ≤ k + 1 from Nat.le_trans (delF_le L (x0, x1, x2, x3, x4, x5)) (by omega))
          have HL2 := hid (show delF L (x0, x1, x2, x3, x4, x5) = delF L (x0, x1, x2, x3, x4, x5) from rfl)
          generalize delF L (x0, x1, x2, x3, x4, x5) = L2 at CA CB HSR HLE
          go_region_held3 (fun w' => w'.cell? ⟨wr.heap.size, 1, none⟩ = some (.int .i64 x0) ∧ w'.cell? ⟨wr.heap.size, 2, none⟩ = some (.int .i64 x1) ∧ w'.cell? ⟨wr.heap.size, 3, none⟩ = some (.int .i64 x2) ∧ w'.cell? ⟨wr.heap.size, 4, none⟩ = some (.int .i64 x3) ∧ w'.cell? ⟨wr.heap.size, 5, none⟩ = some (.int .i64 x4) ∧ w'.cell? ⟨wr.heap.size, 6, none⟩ = some (.int .i64 x5)) (first | go_keep | (refine ⟨?_, ?_, ?_, ?_, ?_, ?_⟩ <;> (rw [hS7]; assumption)) | (refine ⟨?_, ?_, ?_, ?_, ?_, ?_⟩ <;> (rw [hS9]; assumption)) | (refine ⟨?_, ?_, ?_, ?_, ?_, ?_⟩ <;> go_simp; done))
            (first
              | (go_at_call 22
                 refine (CA.out _ (HH.out.gr G6.out.drew) (by simp; omega)).mono ?_
                 intro en w7 h7
                 obtain ⟨_, _, _, g7⟩ := RetH.gr h7 (Nat.le_refl _) ((HG.out.trans G6.out).drew) (HH.out.gr G6.out.drew)
                 obtain ⟨v7, rfl, h7b, m7, o7⟩ := h7
                 have H7 := hid h7b
                 have R7 := hid ((HRR.out.gr G6.out.drew).keepH (HH.out.gr G6.out.drew) m7)
                 have G7 := hid g7
                 have hl7 : wr.heap.size < w7.heap.size := Nat.lt_of_lt_of_le hBlt (show W6.heap.size ≤ w7.heap.size from m7.size)
                 have hS7 : ∀ o, w7.cell? ⟨wr.heap.size, o, none⟩ = W6.cell? ⟨wr.heap.size, o, none⟩ := fun o => cell_of_block (w := W6) (m7.block wr.heap.size (by simp; omega) HNE.out) o
                 clear h7b m7 o7 g7)
                     | (go_at_call 17; refine (of6 _ _ _ _ _ _ _).mono ?_; rintro en _ ⟨rfl, y8, rfl⟩)
              | (go_at_call 23
                 refine (CB.out _ (R7.out.gr y8.gr) ((G7.out.ext y8).size)).mono ?_
                 intro en w9 h9
                 obtain ⟨v9, rfl, h9b, g9, m9⟩ := RetR.gr h9 (Nat.le_refl _) (G7.out.ext y8) (R7.out.gr y8.gr)
                 have T9 := hid (show Two w.heap.size w9 g g' L2 from ⟨⟨_, (H7.out.gr y8.gr).keepR (R7.out.gr y8.gr) m9⟩, ⟨_, h9b⟩⟩)
                 have G9 := hid g9
                 have hS9 : ∀ o, w9.cell? ⟨wr.heap.size, o, none⟩ = W6.cell? ⟨wr.heap.size, o, none⟩ := fun o => (cell_of_block (w := y8.val) (m9.block wr.heap.size (Nat.lt_of_lt_of_le (hl7) y8.gr.size) (by omega)) o).trans ((y8.gr.cell (p := ⟨wr.heap.size, o, none⟩) hl7).trans (hS7 o))
                 clear h9b m9 g9 hS7))
          clear hS9 CA CB
          go_wp2_with (go_at_call 27; refine (looks_any w.heap.size g g' L2 _ T9.out (by have := HLE.out; omega)).mono ?_; rintro en _ ⟨rfl, y10, rfl⟩)
          go_roundw
          case rel => exact ⟨k + 1, L2, by omega, by go_num, G9.out.ext y10, T9.out.gr y10.gr, HSR.out, HLE.out⟩
          case measure => simp [intOf]; omega
        · have n2 : (op == 2) = false := by simpa using h2
          by_cases h3 : op = 3
          · subst h3
            go_wp2_with fail
            generalize wr.alloc (.cells #[.int .i64 3, .int .i64 x0, .int .i64 x1, .int .i64 x2, .int .i64 x3, .int .i64 x4, .int .i64 x5, .int .i64 now] 53) = W6 at *
            have CA := hid (fun W (y : HB w.heap.size W g v L) (hb : w.heap.size ≤ W.heap.size) => take_any w.heap.size g v L now W y HS.out hLl)
            have CB := hid (fun W (y : RB w.heap.size W g' v' L) (hb : w.heap.size ≤ W.heap.size) => takeR_any w.heap.size g' v' L now W y hLl hb)
            have HSR := hid (show Srt (takeF L now) from takeF_srt HS.out now)
            have HLE := hid (show (takeF L now).length ≤ k + 1 from Nat.le_trans (takeF_le L now) (by omega))
            generalize takeF L now = L2 at CA CB HSR HLE
            generalize due L now = du at CA CB
            obtain ⟨⟨p0, p1, p2, p3, p4, p5⟩, hp⟩ : ∃ p, (if du then hd L else z0) = p := ⟨_, rfl⟩
            rw [hp] at CA CB
            simp only [iv] at CA CB
            clear hp
            go_wp2_with (first
              | (go_at_call 13
                 refine (CA.out _ (HH.out.gr G6.out) (by omega)).mono ?_
                 intro en w7 h7
                 obtain ⟨_, _, _, g7⟩ := RetH.gr h7 (Nat.le_refl _) (HG.out.trans G6.out) (HH.out.gr G6.out)
                 obtain ⟨v7, rfl, h7b, m7, o7⟩ := h7
                 have H7 := hid h7b
                 have R7 := hid ((HRR.out.gr G6.out).keepH (HH.out.gr G6.out) m7)
                 have G7 := hid g7
                 have hl7 : wr.heap.size < w7.heap.size := Nat.lt_of_lt_of_le hBlt (show W6.heap.size ≤ w7.heap.size from m7.size)
                 have k77 : w7.cell? ⟨wr.heap.size, 7, none⟩ = some (.int .i64 now) := (cell_of_block (w := W6) (m7.block wr.heap.size hBlt HNE.out) 7).trans k7
                 clear h7b m7 o7 g7)
              | (go_at_call 24
                 refine (CB.out _ (R7.out.gr ((Gr.refl w7).alloc _)) (G7.out.alloc _).size).mono ?_
                 intro en w9 h9
                 obtain ⟨v9, rfl, h9b, g9, m9⟩ := RetR.gr h9 (Nat.le_refl _) (G7.out.alloc _) (R7.out.gr ((Gr.refl w7).alloc _))
                 have T9 := hid (show Two w.heap.size w9 g g' L2 from ⟨⟨_, (H7.out.gr ((Gr.refl w7).alloc _)).keepR (R7.out.gr ((Gr.refl w7).alloc _)) m9⟩, ⟨_, h9b⟩⟩)
                 have G9 := hid g9
                 have HB9 := (m9.block w7.heap.size (by simp) (by omega)).trans (heap_alloc_new w7 _)
                 obtain ⟨q0, q1, q2, q3, q4, q5, _⟩ := heap6' HB9
                 have hq9 : w7.heap.size < w9.heap.size := (Array.getElem?_eq_some_iff.1 HB9).1
                 clear h9b m9 g9 HB9 k77))
            have hne := fun W : World => ne40 p0 p1 p2 p3 p4 p5 p0 p1 p2 p3 p4 p5 W
            simp only [decide_true, Bool.not_true] at hne
            refine wp_region_ext (by kernel_rfl) (by kernel_rfl) ?_
            repeat (go_big_quiet_step ((go_at_call 17; exact calls_ext _ (of6 _ _ _ _ _ _ _))))
            refine wpQuiet_nil ?_
            rintro _ ⟨z, rfl⟩
            go_wp2_with (go_at_call 27; refine (looks_any w.heap.size g g' L2 _ (T9.out.gr (((Gr.refl w9).alloc _).ext z)) (by have := HLE.out; omega)).mono ?_; rintro en _ ⟨rfl, y10, rfl⟩)
            go_roundw
            case rel => exact ⟨k + 1, L2, by omega, by go_num, ((G9.out.alloc _).ext z).ext y10, (T9.out.gr (((Gr.refl w9).alloc _).ext z)).gr y10.gr, HSR.out, HLE.out⟩
            case measure => simp [intOf]; omega
          · have n3 : (op == 3) = false := by simpa using h3
            by_cases h4 : op = 4
            · subst h4
              go_wp2_with fail
              generalize wr.alloc (.cells #[.int .i64 4, .int .i64 x0, .int .i64 x1, .int .i64 x2, .int .i64 x3, .int .i64 x4, .int .i64 x5, .int .i64 now] 53) = W6 at *
              have CA := hid (fun W (y : HB w.heap.size W g v L) (hb : w.heap.size ≤ W.heap.size) => drop_any w.heap.size g v L x1 x2 W y hLl)
              have CB := hid (fun W (y : RB w.heap.size W g' v' L) (hb : w.heap.size ≤ W.heap.size) => dropR_any w.heap.size g' v' L x1 x2 W y hLl hb)
              have HNOP := hid True.intro
              have HSR := hid (show Srt (dropF L x1 x2) from dropF_srt HS.out x1 x2)
              have HLE := hid (show (dropF L x1 x2).length ≤ k + 1 from Nat.le_trans (drop_le L x1 x2) (by omega))
              have HL2 := hid (show dropF L x1 x2 = dropF L x1 x2 from rfl)
              generalize dropF L x1 x2 = L2 at CA CB HSR HLE
              go_region_held3 (fun w' => w'.cell? ⟨wr.heap.size, 2, none⟩ = some (.int .i64 x1) ∧ w'.cell? ⟨wr.heap.size, 3, none⟩ = some (.int .i64 x2)) (first | go_keep | (refine ⟨?_, ?_⟩ <;> (rw [hS7]; assumption)) | (refine ⟨?_, ?_⟩ <;> (rw [hS9]; assumption)) | (refine ⟨?_, ?_⟩ <;> go_simp; done))
                (first
                  | (go_at_call 25
                     refine (CA.out _ (HH.out.gr G6.out.drew) (by simp; omega)).mono ?_
                     intro en w7 h7
                     obtain ⟨_, _, _, g7⟩ := RetH.gr h7 (Nat.le_refl _) ((HG.out.trans G6.out).drew) (HH.out.gr G6.out.drew)
                     obtain ⟨v7, rfl, h7b, m7, o7⟩ := h7
                     have H7 := hid h7b
                     have R7 := hid ((HRR.out.gr G6.out.drew).keepH (HH.out.gr G6.out.drew) m7)
                     have G7 := hid g7
                     have hl7 : wr.heap.size < w7.heap.size := Nat.lt_of_lt_of_le hBlt (show W6.heap.size ≤ w7.heap.size from m7.size)
                     have hS7 : ∀ o, w7.cell? ⟨wr.heap.size, o, none⟩ = W6.cell? ⟨wr.heap.size, o, none⟩ := fun o => cell_of_block (w := W6) (m7.block wr.heap.size (by simp; omega) HNE.out) o
                     clear h7b m7 o7 g7)
                  | (go_at_call 26
                     refine (CB.out _ (R7.out.gr (Gr.refl _)) (G7.out.size)).mono ?_
                     intro en w9 h9
                     obtain ⟨v9, rfl, h9b, g9, m9⟩ := RetR.gr h9 (Nat.le_refl _) (G7.out) (R7.out.gr (Gr.refl _))
                     have T9 := hid (show Two w.heap.size w9 g g' L2 from ⟨⟨_, (H7.out.gr (Gr.refl _)).keepR (R7.out.gr (Gr.refl _)) m9⟩, ⟨_, h9b⟩⟩)
                     have G9 := hid g9
                     have hS9 : ∀ o, w9.cell? ⟨wr.heap.size, o, none⟩ = W6.cell? ⟨wr.heap.size, o, none⟩ := fun o => (cell_of_block (w := w7) (m9.block wr.heap.size (hl7) (by omega)) o).trans (hS7 o)
                     clear h9b m9 g9 hS7))
              clear hS9 CA CB
              go_wp2_with (go_at_call 27; refine (looks_any w.heap.size g g' L2 _ T9.out (by have := HLE.out; omega)).mono ?_; rintro en _ ⟨rfl, y10, rfl⟩)
              go_roundw
              case rel => exact ⟨k + 1, L2, by omega, by go_num, G9.out.ext y10, T9.out.gr y10.gr, HSR.out, HLE.out⟩
              case measure => simp [intOf]; omega
            · have n4 : (op == 4) = false := by simpa using h4
              have T9 := hid (HT.out.gr G6.out)
              go_wp2_with (go_at_call 27; refine (looks_any w.heap.size g g' L _ T9.out (by omega)).mono ?_; rintro en _ ⟨rfl, y10, rfl⟩)
              go_roundw
              case rel => exact ⟨k + 1, L, by omega, by go_num, (HG.out.trans G6.out).ext y10, T9.out.gr y10.gr, HS.out, by omega⟩
              case measure => simp [intOf]; omega
    · have hke : k = acts.length := by omega
      subst hke
      go_wp2_with fail
      go_ret
      exact ⟨rfl, HG.out⟩
end Go.Proofs.Ytikmniokbliolaa
