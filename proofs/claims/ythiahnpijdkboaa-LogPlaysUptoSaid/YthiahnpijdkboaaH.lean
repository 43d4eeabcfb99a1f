import Derived.Test.YthiahnpijdkboaaN
namespace Go.Proofs.Ythiahnpijdkboaa
open Go.RowKit Go.Ext Go.BigFrame
attribute [local go_sem] Ext.cell Ext.frozen Ext.lt Ext.le s1 s2 s3 s4 s5 s6 t1 t2 t3 t4 t5 t6
attribute [local go_sem ↓] Go.wp_at_zero Go.wp_at_succ

theorem rises_lo : ∀ (L : List Ent) (t : Int), risesF t L = true → ∀ j, j < L.length → t ≤ (L.getD j (0, [])).1
  | [], _, _, j, hj => absurd hj (by simp)
  | e :: r, t, h, j, hj => by
    simp only [risesF] at h
    split at h
    · cases h
    · rename_i hlt
      cases j with
      | zero => simp; omega
      | succ j =>
        have := rises_lo r e.1 h j (by simpa using hj)
        simp at this ⊢
        omega
theorem tm_pos {idx term i : Int} {L : List Ent} (h : NewOk idx term L) (h1 : idx < i) (h2 : i ≤ idx + L.length) : 1 ≤ tmT idx term L i := by
  have hr := h.2.2.2
  unfold rs at hr
  have := rises_lo L _ hr (i - idx - 1).toNat (by omega)
  unfold tmT
  rw [if_neg (by omega), if_pos ⟨h1, h2⟩]
  split at this <;> omega

/-- What LogHints asks of a hint. -/
structure HintOk (idx term : Int) (L : List Ent) (i t k : Int) : Prop where
  lo : idx + 1 ≤ k
  hi : k ≤ i
  all : ∀ j, k ≤ j → j ≤ i → mtB idx term L j t = true
  tm : tmB idx L.length (k - 1) = true
  ahead : k ≠ idx + 1 → tmT idx term L (k - 1) ≠ t

theorem down_ok (idx term t : Int) (L : List Ent) : ∀ (d : Nat), idx + 1 + d ≤ idx + L.length → mtB idx term L (idx + 1 + d) t = true → HintOk idx term L (idx + 1 + d) t (down idx term L t d)
  | 0, hd, hm => by
    refine ⟨by simp [down], by simp [down], fun j h1 h2 => ?_, ?_, fun h => absurd (by simp [down]) h⟩
    · have : j = idx + 1 + (0 : Nat) := by simp [down] at h1 h2; simp; omega
      rw [this]; exact hm
    · simp only [down, tmB]
      exact decide_eq_true (by omega)
  | d + 1, hd, hm => by
    by_cases h : mtB idx term L (idx + 1 + d) t = true
    · have ih := down_ok idx term t L d (by omega) h
      rw [down_yes _ _ _ _ _ h]
      refine ⟨ih.lo, by have := ih.hi; omega, fun j h1 h2 => ?_, ih.tm, ih.ahead⟩
      by_cases e : j = idx + 1 + (d + 1 : Nat)
      · rw [e]; exact hm
      · exact ih.all j h1 (by omega)
    · have h' : mtB idx term L (idx + 1 + d) t = false := by simpa using h
      rw [down_no _ _ _ _ _ h']
      have e : idx + 1 + ((d + 1 : Nat) : Int) - 1 = idx + 1 + d := by omega
      have hb : tmB idx L.length (idx + 1 + d) = true := decide_eq_true (by omega)
      refine ⟨by omega, by omega, fun j h1 h2 => ?_, by rw [e]; exact hb, fun _ => ?_⟩
      · have : j = idx + 1 + (d + 1 : Nat) := by omega
        rw [this]; exact hm
      · rw [e]
        intro he
        unfold mtB at h'
        rw [hb, he] at h'
        simp at h'

theorem hint_ok {idx term i : Int} {L : List Ent} (h : NewOk idx term L) (h1 : idx + 1 ≤ i) (h2 : i ≤ idx + L.length) : HintOk idx term L i (hintT idx term L i) (hintK idx term L i) := by
  have hp := tm_pos h (i := i) (by omega) h2
  have e1 : hintT idx term L i = tmT idx term L i := by unfold hintT; rw [if_neg (by omega), if_neg (by omega)]
  have e2 : hintK idx term L i = down idx term L (tmT idx term L i) (i - (idx + 1)).toNat := by unfold hintK; rw [if_neg (by omega), if_neg (by omega), if_pos (by omega)]
  rw [e1, e2]
  have e3 : idx + 1 + ((i - (idx + 1)).toNat : Int) = i := by omega
  have := down_ok idx term (tmT idx term L i) L (i - (idx + 1)).toNat (by omega) (by
    rw [e3]; unfold mtB tmB
    rw [decide_eq_true (by omega)]
    simp)
  rwa [e3] at this

set_option maxRecDepth 100000 in
set_option maxHeartbeats 4000000 in
theorem hints_true (base : Nat) (idx term at_ : Int) (A : Option Addr) (c : Nat) (L : List Ent) (w : World) (hbase : base ≤ w.heap.size) (hs : Sl base w A L) (hl : L.length ≤ 4398046511103) (hlo : -9223372036854775808 ≤ at_) :
    Calls Try.prog 5 #[.int .i64 idx, .int .i64 term, .slice A L.length c, .int .i64 at_] w (RetE (.bool true) w) := by
  refine retE ?_
  have HL := hid hs
  clear hs
  go_enter Try.func5, Try.ntmps5
  go_wp2_with (go_at_call 8; (with_reducible refine (known_any w).mono ?_); rintro e _ ⟨rfl, y0, rfl⟩)
  go_at_call 9
  refine (few_nil base A c L y0.val (HL.out.gr y0.gr) hl).mono ?_
  rintro e _ ⟨b1, rfl, rfl⟩
  cases b1
  · go_wp2_with fail
    go_ret
    exact ⟨rfl, y0.gr⟩
  by_cases k1 : 1099511627776 < idx
  · go_wp2_with fail
    go_ret
    exact ⟨rfl, y0.gr⟩
  by_cases k2 : 2199023255552 < at_
  · go_wp2_with fail
    go_ret
    exact ⟨rfl, y0.gr⟩
  have hb0 : base ≤ y0.val.heap.size := Nat.le_trans hbase y0.gr.size
  by_cases h1 : NewOk idx term L
  · have i0 := h1.1
    go_wp2_with (go_at_call 10; (with_reducible refine (calls_grL (w0 := y0.val) (Gr.refl _) (new_ok base idx term A c L y0.val (HL.out.gr y0.gr) hl h1 (by omega) hb0)).mono ?_); rintro e _ ⟨g1, v1, y1, rfl, rfl, HG1⟩)
    have b4 := HG1.out.len
    have CF := fun (w : World) (hg : Gr y1.val w) => hid (first_any base g1 idx term L v1 w (HG1.out.gr hg))
    have CL := fun (w : World) (hg : Gr y1.val w) => hid (last_any base g1 idx term L v1 w (HG1.out.gr hg))
    have CH := hid (hint_any base g1 idx term at_ L v1 y1.val HG1.out (by omega))
    by_cases c1 : idx + L.length < at_
    · have e1 : hintT idx term L at_ = 0 := by unfold hintT; rw [if_neg (by omega), if_pos c1]
      have e2 : hintK idx term L at_ = idx + L.length + 1 := by unfold hintK; rw [if_neg (by omega), if_pos c1]
      rw [e1, e2] at CH
      clear e1 e2
      go_wp2_with (first | (go_at_call 20; (with_reducible refine CH.out.mono ?_); rintro e _ ⟨rfl, y2, rfl⟩) | (go_at_call 11; (with_reducible refine (CL y2.val y2.gr).out.mono ?_); rintro e _ ⟨rfl, y3, rfl⟩))
      go_ret
      exact ⟨rfl, y0.gr.trans (y1.gr.trans (y2.gr.trans y3.gr))⟩
    by_cases c2 : at_ < idx + 1
    · have e1 : hintT idx term L at_ = 0 := by unfold hintT; rw [if_pos c2]
      have e2 : hintK idx term L at_ = idx + 1 := by unfold hintK; rw [if_pos c2]
      rw [e1, e2] at CH
      clear e1 e2
      go_wp2_with (first | (go_at_call 20; (with_reducible refine CH.out.mono ?_); rintro e _ ⟨rfl, y2, rfl⟩) | (go_at_call 11; (with_reducible refine (CL y2.val y2.gr).out.mono ?_); rintro e _ ⟨rfl, y3, rfl⟩) | (go_at_call 21; (with_reducible refine (CF y3.val (y2.gr.trans y3.gr)).out.mono ?_); rintro e _ ⟨rfl, y4, rfl⟩) | (go_at_call 21; (with_reducible refine (calls_ext y4 (CF y4.val (y2.gr.trans (y3.gr.trans y4.gr))).out).mono ?_); rintro e _ ⟨rfl, y5, rfl⟩))
      go_ret
      exact ⟨rfl, y0.gr.trans (y1.gr.trans (y2.gr.trans (y3.gr.trans y5.gr)))⟩
    have HK := hint_ok h1 (i := at_) (by omega) (by omega)
    generalize hintT idx term L at_ = T at *
    generalize hintK idx term L at_ = K at *
    have hk1 := HK.lo
    have hk2 := HK.hi
    have HKK := hid HK
    clear HK
    go_wp2_with (first | (go_at_call 20; (with_reducible refine CH.out.mono ?_); rintro e _ ⟨rfl, y2, rfl⟩) | (go_at_call 11; (with_reducible refine (CL y2.val y2.gr).out.mono ?_); rintro e _ ⟨rfl, y3, rfl⟩) | (go_at_call 21; (with_reducible refine (CF y3.val (y2.gr.trans y3.gr)).out.mono ?_); rintro e _ ⟨rfl, y4, rfl⟩) | (go_at_call 21; (with_reducible refine (calls_ext y4 (CF y4.val (y2.gr.trans (y3.gr.trans y4.gr))).out).mono ?_); rintro e _ ⟨rfl, y5, rfl⟩))
    have G5 := hid (y2.gr.trans (y3.gr.trans y5.gr))
    go_loopw [15] (fun i wr => ∃ j : Int, K ≤ j ∧ j ≤ at_ + 1 ∧ i = .int .i64 j ∧ Gr y1.val wr) (fun i _ => (at_ + 1 - intOf i).toNat)
    case atStart => exact ⟨K, Int.le_refl _, by omega, rfl, G5.out⟩
    case round =>
      obtain ⟨j, hj1, hj2, rfl, hg⟩ := hrel
      have HG := hid hg
      clear hg
      by_cases hlt : j ≤ at_
      · have CM := hid ((match_any base g1 idx term j T L v1 wr (HG1.out.gr HG.out) (by omega)).mono (R' := RetE (.bool true) wr) (fun _ _ h => by rwa [HKK.out.all j hj1 hlt] at h))
        go_wp2_with (go_at_call 16; (with_reducible refine CM.out.mono ?_); rintro e _ ⟨rfl, y6, rfl⟩)
        go_roundw
        case rel => exact ⟨j + 1, by omega, by omega, by go_num, HG.out.trans y6.gr⟩
        case measure => simp [intOf]; omega
      · have hah := HKK.out.ahead
        have CT := hid ((term_any base g1 idx term (K - 1) L v1 wr (HG1.out.gr HG.out) (by omega)).mono (R' := RetE (.tuple #[.int .i64 (tmT idx term L (K - 1)), .bool true]) wr) (fun _ _ h => by rwa [HKK.out.tm] at h))
        generalize tmT idx term L (K - 1) = U at *
        clear CH CL
        by_cases e : K = idx + 1
        · have e' : (K == idx + 1) = true := by simpa using e
          clear hah e
          go_wp2_with (first | (go_at_call 22; (with_reducible refine CT.out.mono ?_); rintro e _ ⟨rfl, y6, rfl⟩) | (go_at_call 21; (with_reducible refine (CF y6.val (HG.out.trans y6.gr)).out.mono ?_); rintro e _ ⟨rfl, y7, rfl⟩))
          go_ret
          exact ⟨rfl, y0.gr.trans (y1.gr.trans (HG.out.trans (y6.gr.trans y7.gr)))⟩
        · have hUT := hah e
          clear hah
          have e' : (K == idx + 1) = false := by simpa using e
          have hUT' : (U != T) = true := by simpa using hUT
          clear e hUT
          go_wp2_with (first | (go_at_call 22; (with_reducible refine CT.out.mono ?_); rintro e _ ⟨rfl, y6, rfl⟩) | (go_at_call 21; (with_reducible refine (CF y6.val (HG.out.trans y6.gr)).out.mono ?_); rintro e _ ⟨rfl, y7, rfl⟩))
          go_ret
          exact ⟨rfl, y0.gr.trans (y1.gr.trans (HG.out.trans (y6.gr.trans y7.gr)))⟩
  · go_wp2_with (go_at_call 10; (with_reducible refine (new_bad base idx term A c L y0.val (HL.out.gr y0.gr) hl h1).mono ?_); rintro e _ ⟨rfl, y1, rfl⟩)
    go_ret
    exact ⟨rfl, y0.gr.trans y1.gr⟩
end Go.Proofs.Ythiahnpijdkboaa
