import Derived.Test.YtikmniokbliolaaG2
import Derived.Deep.Cut
import Derived.Deep.CutRange
namespace Go.Proofs.Ytikmniokbliolaa
open Go.RowKit Go.Ext Go.BigFrame
attribute [local go_sem] Ext.cell Ext.frozen Ext.lt Ext.le s1 s2 s3 s4 s5 s6 t1 t2 t3 t4 t5 t6
attribute [local go_sem ↓] Go.wp_at_zero Go.wp_at_succ

set_option maxHeartbeats 40000000 in
/-- The law TimersOrder. -/
theorem order_any (a b c d e f a' b' c' d' e' f' : Int) (A : Option Addr) (cp : Nat) (L : List It) (v : Value) (N : List Int) (w : World) (hr : Row w A L) (hn : Ints w v N) :
    Calls Try.prog 5 #[.agg #[.int .i64 a, .int .i64 b, .int .i64 c, .int .i64 d, .int .i64 e, .int .i64 f], .agg #[.int .i64 a', .int .i64 b', .int .i64 c', .int .i64 d', .int .i64 e', .int .i64 f'], .slice A L.length cp, v] w (RetE (.bool true) w) := by
  refine retE ?_
  have HR := hid hr
  have HN := hid hn
  obtain ⟨A2, c2, rfl, hl2, hcell⟩ := hn
  clear hr hcell hl2
  by_cases hlen : 250 < L.length
  · have hle : (250 : Int) < (L.length : Int) := by omega
    go_enter Try.func5, Try.ntmps5
    go_wp2_with (go_at_call 8; refine (known_any _).mono ?_; rintro e _ ⟨rfl, y1, rfl⟩)
    go_ret
    exact ⟨rfl, (((Gr.refl w).alloc _).alloc _).ext y1⟩
  have hle : ¬ (250 : Int) < (L.length : Int) := by omega
  by_cases hlen2 : 250 < N.length
  · have hle : (250 : Int) < (N.length : Int) := by omega
    go_enter Try.func5, Try.ntmps5
    go_wp2_with (go_at_call 8; refine (known_any _).mono ?_; rintro e _ ⟨rfl, y1, rfl⟩)
    go_ret
    exact ⟨rfl, (((Gr.refl w).alloc _).alloc _).ext y1⟩
  have hle2 : ¬ (250 : Int) < (N.length : Int) := by omega
  have hcase : ∃ rab rba : Bool, decide (cmpI (a, b, c, d, e, f) (a', b', c', d', e', f') < 0) = rab ∧ decide (cmpI (a', b', c', d', e', f') (a, b, c, d, e, f) < 0) = rba ∧ ((rab = true ∧ rba = false) ∨ (rab = false ∧ rba = true) ∨ (rab = false ∧ rba = false ∧ ((a, b, c, d, e, f) : It) = (a', b', c', d', e', f'))) := by
    refine ⟨_, _, rfl, rfl, ?_⟩
    have hneg := cmpI_neg (a, b, c, d, e, f) (a', b', c', d', e', f')
    by_cases h1 : cmpI (a, b, c, d, e, f) (a', b', c', d', e', f') < 0
    · exact .inl ⟨decide_eq_true h1, decide_eq_false (by omega)⟩
    · by_cases h2 : cmpI (a, b, c, d, e, f) (a', b', c', d', e', f') = 0
      · exact .inr (.inr ⟨decide_eq_false h1, decide_eq_false (by omega), cmpI_eq h2⟩)
      · exact .inr (.inl ⟨decide_eq_false h1, decide_eq_true (by omega)⟩)
  obtain ⟨rab, rba, hab, hba, hcase⟩ := hcase
  have LAB := hid (fun W => less6 a b c d e f a' b' c' d' e' f' W)
  have LBA := hid (fun W => less6 a' b' c' d' e' f' a b c d e f W)
  have RAB := hid (fun W => lessR6 a b c d e f a' b' c' d' e' f' W)
  rw [hab] at LAB RAB
  rw [hba] at LBA
  clear hab hba
  have HEQ := hid (fun W : World => ne33 (w := W) a' b' c' d' e' f' a b c d e f)
  have HC := hid hcase
  clear hcase
  go_enter Try.func5, Try.ntmps5
  go_upto_region 5 with (go_at_call 8; refine (known_any _).mono ?_; rintro e _ ⟨rfl, y1, rfl⟩)
  go_cut [61] from 26 to 61 (fun s wx => s = .bool false ∧ ∃ x : Ext y1.val, wx = x.val)
  case first =>
    clear HR HN hle hle2 hlen hlen2
    have hB0 : y1.val.heap[w.heap.size]? = some (.cells #[.int .i64 a, .int .i64 b, .int .i64 c, .int .i64 d, .int .i64 e, .int .i64 f] 33 (0, 0)) := (y1.gr.block w.heap.size (by simp; omega)).trans ((((Gr.refl _).alloc _).block w.heap.size (by simp)).trans (heap_alloc_new w _))
    have hB1 : y1.val.heap[w.heap.size + 1]? = some (.cells #[.int .i64 a', .int .i64 b', .int .i64 c', .int .i64 d', .int .i64 e', .int .i64 f'] 33 (0, 0)) := (y1.gr.block (w.heap.size + 1) (by simp)).trans (by have := heap_alloc_new (w.alloc (.cells #[.int .i64 a, .int .i64 b, .int .i64 c, .int .i64 d, .int .i64 e, .int .i64 f] 33)) (.cells #[.int .i64 a', .int .i64 b', .int .i64 c', .int .i64 d', .int .i64 e', .int .i64 f'] 33); simpa using this)
    have hz0 : w.heap.size < y1.val.heap.size := (Array.getElem?_eq_some_iff.1 hB0).1
    have hz1 : w.heap.size + 1 < y1.val.heap.size := (Array.getElem?_eq_some_iff.1 hB1).1
    obtain ⟨k0, k1, k2, k3, k4, k5, _⟩ := heap6 hB0
    obtain ⟨j0, j1, j2, j3, j4, j5, _⟩ := heap6 hB1
    clear hB0 hB1
    generalize hW : y1.val = W at *
    clear hW
    generalize hB0 : w.heap.size = B0 at *
    generalize hB1 : B0 + 1 = B1 at *
    clear hB0 hB1
    rcases HC.out with ⟨rfl, rfl⟩ | ⟨rfl, rfl⟩ | ⟨rfl, rfl, heq⟩
    · clear HC HEQ
      refine wp_region_ext (by kernel_rfl) (by kernel_rfl) ?_
      repeat (go_big_quiet_step (first | (go_at_call 14; first | (with_reducible exact calls_ext _ (LAB.out _)) | (with_reducible exact calls_ext _ (LBA.out _))) | (go_at_call 17; exact calls_ext _ (of6 _ _ _ _ _ _ _)) | (go_at_call 16; exact calls_ext _ (RAB.out _))))
      refine wpQuiet_nil ?_
      rintro _ ⟨x, rfl⟩
      go_wp2_with fail
      go_meet
      exact ⟨rfl, x, rfl⟩
    · clear HC HEQ
      refine wp_region_ext (by kernel_rfl) (by kernel_rfl) ?_
      repeat (go_big_quiet_step (first | (go_at_call 14; first | (with_reducible exact calls_ext _ (LAB.out _)) | (with_reducible exact calls_ext _ (LBA.out _))) | (go_at_call 17; exact calls_ext _ (of6 _ _ _ _ _ _ _)) | (go_at_call 16; exact calls_ext _ (RAB.out _))))
      refine wpQuiet_nil ?_
      rintro _ ⟨x, rfl⟩
      go_wp2_with fail
      go_meet
      exact ⟨rfl, x, rfl⟩
    · have hne := HEQ.out
      rw [decide_eq_true heq] at hne
      simp only [Bool.not_true] at hne
      clear HC HEQ heq
      refine wp_region_ext (by kernel_rfl) (by kernel_rfl) ?_
      repeat (go_big_quiet_step (first | (go_at_call 14; first | (with_reducible exact calls_ext _ (LAB.out _)) | (with_reducible exact calls_ext _ (LBA.out _))) | (go_at_call 17; exact calls_ext _ (of6 _ _ _ _ _ _ _)) | (go_at_call 16; exact calls_ext _ (RAB.out _))))
      refine wpQuiet_nil ?_
      rintro _ ⟨x, rfl⟩
      go_wp2_with fail
      go_meet
      exact ⟨rfl, x, rfl⟩
  case rest =>
    obtain ⟨rfl, x, rfl⟩ := hcut
    clear LAB LBA RAB HEQ HC
    have G1 := hid (show Gr w x.val from ((((Gr.refl w).alloc _).alloc _).ext y1).ext x)
    go_wp2_with fail
    go_at_call 18
    refine (leastI_any A cp L _ (HR.out.gr G1.out) (by omega)).mono ?_
    rintro en w2 ⟨⟨m0, m1, m2, m3, m4, m5⟩, rfl, g2, hle2'⟩
    have G2 := hid (G1.out.trans g2)
    have HLE := hid hle2'
    clear g2 hle2'
    simp only [iv]
    go_wp2_with fail
    have HB := hid (show (w2.alloc (.cells #[.int .i64 m0, .int .i64 m1, .int .i64 m2, .int .i64 m3, .int .i64 m4, .int .i64 m5] 33)).heap[w2.heap.size]? = some (.cells #[.int .i64 m0, .int .i64 m1, .int .i64 m2, .int .i64 m3, .int .i64 m4, .int .i64 m5] 33 (0, 0)) from heap_alloc_new _ _)
    have G3 := hid (G2.out.alloc (.cells #[.int .i64 m0, .int .i64 m1, .int .i64 m2, .int .i64 m3, .int .i64 m4, .int .i64 m5] 33))
    generalize w2.alloc (.cells #[.int .i64 m0, .int .i64 m1, .int .i64 m2, .int .i64 m3, .int .i64 m4, .int .i64 m5] 33) = W3 at *
    generalize w2.heap.size = B at *
    go_loopw [11, 12] (fun fi i wr => ∃ k : Nat, k ≤ L.length ∧ i = .int .i64 k ∧ fi = .bool (decide ((m0, m1, m2, m3, m4, m5) ∉ L.take k)) ∧ Gr W3 wr) (fun _ i _ => L.length - (intOf i).toNat)
    case atStart => exact ⟨0, Nat.zero_le _, rfl, by simp, Gr.refl _⟩
    case round =>
      obtain ⟨k, hk, rfl, rfl, hg⟩ := hrel
      have HG := hid hg
      clear hg
      have hb1 := (HG.out.block B (Array.getElem?_eq_some_iff.1 HB.out).1).trans HB.out
      obtain ⟨j0, j1, j2, j3, j4, j5, _⟩ := heap6 hb1
      have hbl1 : B < wr.heap.size := (Array.getElem?_eq_some_iff.1 hb1).1
      clear hb1
      by_cases hlt : k < L.length
      · obtain ⟨bb, off, rfl, hbw, c0, c1, c2, c3, c4, c5⟩ := (HR.out.gr (G3.out.trans HG.out)).at_ hlt
        have hts := take_succ_getD L k hlt
        have HLT := hid (show 0 ≤ cmpI (L.getD k z0) (m0, m1, m2, m3, m4, m5) by
          rcases HLE.out with ⟨e, _⟩ | ⟨_, h⟩
          · rw [e] at hlt; simp at hlt
          · exact h _ (by simp [List.getD, hlt]))
        obtain ⟨⟨p0, p1, p2, p3, p4, p5⟩, hy⟩ : ∃ y, L.getD k z0 = y := ⟨_, rfl⟩
        rw [hy] at c0 c1 c2 c3 c4 c5 HLT hts
        simp only at c0 c1 c2 c3 c4 c5
        have HTS := hid hts
        clear hy hts
        have HL6 := hid (fun W => less6 p0 p1 p2 p3 p4 p5 m0 m1 m2 m3 m4 m5 W)
        rw [show decide (cmpI (p0, p1, p2, p3, p4, p5) (m0, m1, m2, m3, m4, m5) < 0) = false from decide_eq_false (by have := HLT.out; omega)] at HL6
        have hee := fun W : World => eq33 (w := W) m0 m1 m2 m3 m4 m5 p0 p1 p2 p3 p4 p5
        by_cases hpm : ((p0, p1, p2, p3, p4, p5) : It) = (m0, m1, m2, m3, m4, m5)
        · rw [decide_eq_true hpm] at hee
          have HPM := hid hpm
          clear hpm
          go_wp2_with fail
          refine wp_region_ext (by kernel_rfl) (by kernel_rfl) ?_
          repeat (go_big_quiet_step ((go_at_call 14; exact calls_ext _ (HL6.out _))))
          refine wpQuiet_nil ?_
          rintro _ ⟨x8, rfl⟩
          go_wp2_with fail
          refine wp_region_ext (by kernel_rfl) (by kernel_rfl) ?_
          repeat (go_big_quiet_step (fail))
          refine wpQuiet_nil ?_
          rintro _ ⟨x9, rfl⟩
          go_wp2_with fail
          go_roundw
          case rel => exact ⟨k + 1, by omega, by go_num, by rw [HTS.out, HPM.out]; simp, (HG.out.ext x8).ext x9⟩
          case measure => simp [intOf]; omega
        · rw [decide_eq_false hpm] at hee
          have HPM := hid (show decide ((m0, m1, m2, m3, m4, m5) ∉ L.take k) = decide ((m0, m1, m2, m3, m4, m5) ∉ L.take (k + 1)) by
            have : (m0, m1, m2, m3, m4, m5) ∉ [((p0, p1, p2, p3, p4, p5) : It)] := fun h => hpm (List.mem_singleton.1 h).symm
            exact decide_eq_decide.2 (by rw [HTS.out, List.mem_append]; simp only [this, or_false]))
          clear hpm
          go_wp2_with fail
          refine wp_region_ext (by kernel_rfl) (by kernel_rfl) ?_
          repeat (go_big_quiet_step ((go_at_call 14; exact calls_ext _ (HL6.out _))))
          refine wpQuiet_nil ?_
          rintro _ ⟨x8, rfl⟩
          go_wp2_with fail
          refine wp_region_ext (by kernel_rfl) (by kernel_rfl) ?_
          repeat (go_big_quiet_step (fail))
          refine wpQuiet_nil ?_
          rintro _ ⟨x9, rfl⟩
          go_wp2_with fail
          go_roundw
          case rel => exact ⟨k + 1, by omega, by go_num, by rw [← HPM.out], (HG.out.ext x8).ext x9⟩
          case measure => simp [intOf]; omega
      have hke : k = L.length := by omega
      subst hke
      have hin : 0 < L.length → decide ((m0, m1, m2, m3, m4, m5) ∉ L.take L.length) = false := fun h0 => by
        rw [List.take_length]
        rcases HLE.out with ⟨e, _⟩ | ⟨h, _⟩
        · rw [e] at h0; simp at h0
        · exact decide_eq_false (fun h' => h' h)
      have G4 := hid (G3.out.trans HG.out)
      generalize decide ((m0, m1, m2, m3, m4, m5) ∉ L.take L.length) = fi at *
      have hfi : decide (0 < L.length) = true ∧ fi = false ∨ decide (0 < L.length) = false := by
        by_cases h0 : 0 < L.length
        · exact .inl ⟨decide_eq_true h0, hin h0⟩
        · exact .inr (decide_eq_false h0)
      clear hin
      generalize decide (0 < L.length) = is at *
      rcases hfi with ⟨rfl, rfl⟩ | rfl
      all_goals
        go_wp2_with fail
        go_at_call 19
        refine (leastN_any _ N _ (HN.out.gr G4.out) (by omega)).mono ?_
        rintro en w5 ⟨n, rfl, g5, hmo⟩
        have G5 := hid (G4.out.trans g5)
        have HMO := hid hmo
        clear g5 hmo
        go_wp2_with fail
        go_loopw [15] (fun i wr2 => ∃ k : Nat, k ≤ N.length ∧ i = .int .i64 k ∧ w5 = wr2) (fun i _ => N.length - (intOf i).toNat)
        case atStart => exact ⟨0, Nat.zero_le _, rfl, rfl⟩
        case round =>
          obtain ⟨k, hk, rfl, rfl⟩ := hrel
          by_cases hlt : k < N.length
          · obtain ⟨A9, c9, e9, _, hcell⟩ := HN.out.gr G5.out
            injection e9 with e9 _ _
            subst e9
            obtain ⟨bb, off, rfl, hc⟩ := hcell (by intro e; rw [e] at hlt; simp at hlt)
            have c0 := hc k hlt
            clear hc hcell
            have hnx : ¬ n < N.getD k 0 := by
              rcases HMO.out with ⟨e, _⟩ | ⟨_, h⟩
              · rw [e] at hlt; simp at hlt
              · have := h (N.getD k 0) (by simp [List.getD, hlt])
                omega
            generalize N.getD k 0 = z at *
            go_wp2_with fail
            go_roundw
            case rel => exact ⟨k + 1, by omega, by go_num, trivial⟩
            case measure => simp [intOf]; omega
          · have hke : k = N.length := by omega
            subst hke
            by_cases hN0 : 0 < N.length
            · have hq : decide (0 < N.length) = true := decide_eq_true hN0
              go_wp2_with fail
              go_ret
              exact ⟨by simp, G5.out⟩
            · have hn0 : n = 0 := by
                rcases HMO.out with ⟨_, e⟩ | ⟨h, _⟩
                · exact e
                · have : N = [] := List.eq_nil_of_length_eq_zero (by omega)
                  rw [this] at h; simp at h
              subst hn0
              have hq : decide (0 < N.length) = false := decide_eq_false hN0
              go_wp2_with fail
              go_ret
              exact ⟨by simp, G5.out⟩
end Go.Proofs.Ytikmniokbliolaa
