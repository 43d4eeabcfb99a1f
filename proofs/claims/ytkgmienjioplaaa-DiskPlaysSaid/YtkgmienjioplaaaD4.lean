import Derived.Test.YtkgmienjioplaaaD3
namespace Go.Proofs.Ytkgmienjioplaaa
open Go.RowKit Go.Ext Go.BigFrame
attribute [local go_sem] Ext.cell Ext.frozen Ext.lt Ext.le s1 s2 s3 s4 s5 s6 t1 t2 t3 t4 t5 t6
attribute [local go_sem ↓] Go.wp_at_zero Go.wp_at_succ

/-- A disk of four sectors whose power goes at its write n, behind j writes. -/
def Gone (base : Nat) (w : World) (g kb : Nat) (n : Int) (j : Nat) : Prop :=
  ∃ K P, Dsk base w g kb (decide (n ≤ j)) (if n ≤ j then 0 else n - j) [] 4 64 K P (if n ≤ j then n - 1 else j) ∧ P.length ≤ j ∧ (n ≤ j → P = [])

section
variable {base : Nat} {w w' : World} {g kb : Nat} {n : Int} {j : Nat}
theorem Gone.gr (h : Gone base w g kb n j) (k : Gr w w') : Gone base w' g kb n j := by
  obtain ⟨K, P, h1, h2⟩ := h
  exact ⟨K, P, h1.gr k, h2⟩
theorem Gone.lt (h : Gone base w g kb n j) : g < w.heap.size := by
  obtain ⟨K, P, h1, _⟩ := h
  exact h1.lt
theorem Gone.klt (h : Gone base w g kb n j) : kb < w.heap.size := by
  obtain ⟨K, P, h1, _⟩ := h
  exact h1.klt
theorem Gone.lg (h : Gone base w g kb n j) : base ≤ g := by
  obtain ⟨K, P, h1, _⟩ := h
  exact h1.lg

theorem gone_sync (h : Gone base w g kb n j) : Calls Try.prog 15 #[.pointer (some ⟨g, 0, none⟩)] w (fun e w' => (∃ v : Int, e = .returned (.int .i64 v)) ∧ Gone base w' g kb n j ∧ Kp (TK kb) base w w') := by
  obtain ⟨K, P, h1, h2, h3⟩ := h
  refine (sync_dsk h1).mono fun e w' ⟨he, hd, hk⟩ => ⟨⟨_, he⟩, ⟨_, _, hd, ?_, fun hn => ?_⟩, hk⟩
  · split
    · exact h2
    · simp
  · rw [if_pos (by simpa using hn)]
    exact h3 hn
theorem gone_write (i : Int) (A : Option Addr) (c : Nat) (bs : List UInt8) (h : Gone base w g kb n j) (hi0 : 0 ≤ i) (hi : i < 4) (hb : Bts w (.slice A 64 c) bs) (hbs : bs.length = 64) (hn : 1 ≤ n) (hn2 : n ≤ 9223372036854775807) (hj : j ≤ 100) :
    Calls Try.prog 10 #[.pointer (some ⟨g, 0, none⟩), .int .i64 i, .slice A 64 c] w (fun e w' => e = .returned (.int .i64 (if n ≤ ((j + 1 : Nat) : Int) then 5 else 0)) ∧ Gone base w' g kb n (j + 1) ∧ Kp (TK kb) base w w') := by
  obtain ⟨K, P, h1, h2, h3⟩ := h
  by_cases hg : n ≤ j
  · rw [decide_eq_true hg, if_pos hg, if_pos hg] at h1
    have hP := h3 hg
    subst hP
    obtain ⟨keep, pend, d1, d2⟩ := h1
    refine (write_bad i A 64 c d1 (.inl rfl)).mono fun e w' ⟨he, y, hy⟩ => ?_
    subst hy
    have hg' : n ≤ ((j + 1 : Nat) : Int) := by omega
    refine ⟨by rw [if_pos hg']; exact he, ⟨K, [], ?_, by simp, fun _ => rfl⟩, y.gr.kp⟩
    rw [decide_eq_true hg', if_pos hg', if_pos hg']
    exact ⟨_, _, d1.gr y.gr, d2.gr y.gr⟩
  · rw [decide_eq_false hg, if_neg hg, if_neg hg] at h1
    refine (write_dsk i A c 64 bs h1 hi0 hi hb hbs rfl (by omega) (by omega) (by omega) (by omega) (by omega)).mono fun e w' ⟨he, hd, hk⟩ => ?_
    by_cases h4 : n - j = 1
    · have hg' : n ≤ ((j + 1 : Nat) : Int) := by omega
      rw [if_pos h4] at he
      rw [decide_eq_true h4, h4, if_pos rfl, if_pos rfl, if_pos rfl] at hd
      have hd' : Dsk base w' g kb (decide (n ≤ ((j + 1 : Nat) : Int))) (if n ≤ ((j + 1 : Nat) : Int) then 0 else n - ((j + 1 : Nat) : Int)) [] 4 64 (layF 64 (fun j => ([] : List Bool).getD j false) K P P.length) [] (if n ≤ ((j + 1 : Nat) : Int) then n - 1 else ((j + 1 : Nat) : Int)) := by
        rw [decide_eq_true hg', if_pos hg', if_pos hg', show n - 1 = j by omega]
        exact hd
      exact ⟨by rw [if_pos hg']; exact he, ⟨_, [], hd', by simp, fun _ => rfl⟩, hk⟩
    · have hg' : ¬ n ≤ ((j + 1 : Nat) : Int) := by omega
      rw [if_neg h4] at he
      unfold afterW less at hd
      rw [decide_eq_false h4, if_neg h4, if_neg h4, if_neg h4, if_neg h4, if_neg (by omega)] at hd
      have hd' : Dsk base w' g kb (decide (n ≤ ((j + 1 : Nat) : Int))) (if n ≤ ((j + 1 : Nat) : Int) then 0 else n - ((j + 1 : Nat) : Int)) [] 4 64 K (P ++ [(i, bs)]) (if n ≤ ((j + 1 : Nat) : Int) then n - 1 else ((j + 1 : Nat) : Int)) := by
        rw [decide_eq_false hg', if_neg hg', if_neg hg', show n - ((j + 1 : Nat) : Int) = n - j - 1 by omega, show (((j + 1 : Nat) : Int)) = (j : Int) + 1 by omega]
        exact hd
      exact ⟨by rw [if_neg hg']; exact he, ⟨_, _, hd', by simp; omega, fun h => absurd h hg'⟩, hk⟩
end

theorem zr_bts {base kb : Nat} {w : World} (hk : kb < w.heap.size) : Byt (TK kb) base (w.alloc (.cells z64.toArray 5)) (.slice (some ⟨w.heap.size, 0, none⟩) 64 64) (List.replicate 64 0) := by
  have := bts_block (base := base) (kb := kb) (c := 64) (bs := List.replicate 64 0) (heap_alloc_new w (.cells z64.toArray 5)) (by simp) (by omega)
  rwa [List.length_replicate] at this

section
variable {base : Nat} {w w' : World} {g kb : Nat} {off : Bool} {armed : Int} {ks : List Bool} {S sz : Nat} {K : List UInt8} {P : List Ent} {writes : Int}
/-- Told of an earlier world. -/
theorem off_gr (h : Dsk base w g kb off armed ks S sz K P writes) : Hid (∀ W, Gr w W → Calls Try.prog 21 #[.pointer (some ⟨g, 0, none⟩)] W (fun e w'' => e = .returned (.bool off) ∧ ∃ y : Ext w, w'' = y.val)) :=
  hid fun _ hg => calls_gr hg (off_dsk (h.gr hg))
theorem writes_gr (h : Dsk base w g kb off armed ks S sz K P writes) : Hid (∀ W, Gr w W → Calls Try.prog 14 #[.pointer (some ⟨g, 0, none⟩)] W (fun e w'' => e = .returned (.int .i64 writes) ∧ ∃ y : Ext w, w'' = y.val)) :=
  hid fun _ hg => calls_gr hg (writes_dsk (h.gr hg))
theorem pending_gr (h : Dsk base w g kb off armed ks S sz K P writes) : Hid (∀ W, Gr w W → Calls Try.prog 19 #[.pointer (some ⟨g, 0, none⟩)] W (fun e w'' => e = .returned (.int .i64 P.length) ∧ ∃ y : Ext w, w'' = y.val)) :=
  hid fun _ hg => calls_gr hg (pending_dsk (h.gr hg))
theorem read_gr (i : Int) (h : Dsk base w g kb off armed ks S sz K P writes) : Hid (∀ W, Gr w W → Calls Try.prog 13 #[.pointer (some ⟨g, 0, none⟩), .int .i64 i] W (fun e w'' => ∃ v, e = .returned (.tuple #[v, .int .i64 (chk off S i true)]) ∧ Byt (TK kb) base w'' v (if chk off S i true = 0 then sector sz K P i.toNat else []) ∧ ∃ y : Ext w, w'' = y.val)) :=
  hid fun _ hg => (read_dsk i (h.gr hg) (by have := h.lg; have := h.lt; have := hg.size; omega)).mono fun _ w'' ⟨v, a, b, c⟩ => ⟨v, a, b, ⟨w'', hg.trans c⟩, rfl⟩
theorem sync_off_gr (h : Dsk base w g kb true armed ks S sz K P writes) : Hid (∀ W, Gr w W → Calls Try.prog 15 #[.pointer (some ⟨g, 0, none⟩)] W (fun e w'' => e = .returned (.int .i64 5) ∧ ∃ y : Ext w, w'' = y.val)) := by
  obtain ⟨keep, pend, h1, h2⟩ := h
  exact hid fun _ hg => calls_gr hg (sync_off (h1.gr hg))
end

set_option maxRecDepth 100000 in
set_option maxHeartbeats 4000000 in
theorem armed_any (n m s : Int) (w : World) (hn : -9223372036854775808 ≤ n ∧ n ≤ 9223372036854775807) (hm : -9223372036854775808 ≤ m ∧ m ≤ 9223372036854775807) (hs : -9223372036854775808 ≤ s ∧ s ≤ 9223372036854775807) :
    Calls Try.prog 6 #[.int .i64 n, .int .i64 m, .int .i64 s] w (RetE (.bool true) w) := by
  refine retE ?_
  have KN := hid (known_any w)
  by_cases hbad : m < 0 ∨ 100 < m
  · rcases hbad with hb | hb
    · go_enter Try.func6, Try.ntmps6
      go_wp2_with (go_at_call 8; (with_reducible refine KN.out.mono ?_); rintro e _ ⟨rfl, y0, rfl⟩)
      go_ret
      exact ⟨rfl, y0.gr⟩
    · go_enter Try.func6, Try.ntmps6
      go_wp2_with (go_at_call 8; (with_reducible refine KN.out.mono ?_); rintro e _ ⟨rfl, y0, rfl⟩)
      go_ret
      exact ⟨rfl, y0.gr⟩
  obtain ⟨M, rfl⟩ : ∃ M : Nat, m = M := ⟨m.toNat, by omega⟩
  have hM : M ≤ 100 := by omega
  clear hbad
  have mk := fun (w : World) => mk64 w
  have N := fun (y : Ext w) => hid (show Calls Try.prog 9 #[.int .i64 4, .int .i64 64] y.val _ from new_dsk w.heap.size 4 64 y.val y.gr.size (by omega) (by omega) (by omega) (by omega))
  obtain ⟨a, ha⟩ : ∃ a : Int, (if n < 1 then 1 else n) = a := ⟨_, rfl⟩
  have ha1 : 1 ≤ a ∧ a ≤ 9223372036854775807 := by rw [← ha]; split <;> omega
  have HA := hid ha
  clear ha
  have ARM : ∀ (g kb : Nat) (w1 : World), Hid (Dsk w.heap.size w1 g kb false 0 [] 4 64 (List.replicate (4 * 64) 0) [] 0) → Calls Try.prog 20 #[.pointer (some ⟨g, 0, none⟩), .int .i64 n, .slice none 0 0] w1
      (fun e w' => e = .returned (.tuple #[]) ∧ Gone w.heap.size w' g kb a 0 ∧ Kp (TK kb) w.heap.size w1 w') := fun g kb w1 h => by
    refine (arm_dsk n none 0 0 [] h.out (Rd.nil _ _) rfl (by omega) (fun _ => rfl) (by have := h.out.lg; have := h.out.lt; omega)).mono fun e w' ⟨he, hd, hk⟩ => ?_
    rw [HA.out] at hd
    have hd' : Dsk w.heap.size w' g kb (decide (a ≤ ((0 : Nat) : Int))) (if a ≤ ((0 : Nat) : Int) then 0 else a - ((0 : Nat) : Int)) [] 4 64 (List.replicate (4 * 64) 0) [] (if a ≤ ((0 : Nat) : Int) then a - 1 else ((0 : Nat) : Int)) := by
      rw [decide_eq_false (by omega), if_neg (by omega), if_neg (by omega), show a - ((0 : Nat) : Int) = a by omega]
      exact hd
    exact ⟨he, ⟨_, _, hd', by simp, fun _ => rfl⟩, hk⟩
  have HARM := hid ARM
  clear ARM
  by_cases hn1 : n < 1
  · obtain rfl : a = 1 := by have := HA.out; rw [if_pos hn1] at this; exact this.symm
    go_enter Try.func6, Try.ntmps6
    go_wp2_with (first | (go_at_call 8; (with_reducible refine KN.out.mono ?_); rintro e _ ⟨rfl, y0, rfl⟩) | (go_at_call 9; (with_reducible refine (N y0).out.mono ?_); rintro e w1 ⟨g, kb, rfl, hd, hgr⟩; have HD := hid hd; have HG := hid hgr; have hl1 := hd.lt; clear hd hgr) | (go_at_call 20; refine (HARM.out g kb w1 HD).mono ?_; rintro e w2 ⟨rfl, hd2, hk2⟩; have HD2 := hid hd2; have HK2 := hid ((y0.gr.trans HG.out).kp.trans hk2); clear hd2 hk2))
    go_loopw [9, 10] (fun ok i wr => ∃ j : Nat, j ≤ M ∧ i = .int .i64 j ∧ ok = .int .i64 (if (1 : Int) ≤ (j : Int) then (1 : Int) - 1 else j) ∧ Gone w.heap.size wr g kb (1 : Int) j ∧ Kp (TK kb) w.heap.size w wr) (fun _ i _ => M - (intOf i).toNat)
    case atStart => exact ⟨0, Nat.zero_le _, rfl, by rw [if_neg (by omega)]; rfl, HD2.out, HK2.out⟩
    case round =>
      obtain ⟨j, hj, rfl, rfl, hg, hk⟩ := hrel
      have HGJ := hid hg
      have HKJ := hid hk
      clear hg hk
      by_cases hlt : j < M
      · obtain ⟨d, hd⟩ : ∃ d : Int, (if (1 : Int) ≤ (j : Int) then (1 : Int) - 1 else j) = d := ⟨_, rfl⟩
        have HDI := hid hd
        have hd0 : 0 ≤ d ∧ d ≤ 1000 := by rw [← hd]; split <;> omega
        rw [hd]
        clear hd
        by_cases hsj : (j : Int) = s
        · subst hsj
          go_wp2_with (go_at_call 15; refine (gone_sync HGJ.out).mono ?_; rintro e w4 ⟨⟨v, rfl⟩, hg4, hk4⟩; have HG4 := hid hg4; have HK4 := hid (HKJ.out.trans hk4); clear hg4 hk4)
          go_at_call 10
          refine (gone_write ((j : Int) % 4) (some ⟨w4.heap.size, 0, none⟩) 64 (List.replicate 64 0) (HG4.out.gr ((Gr.refl _).alloc _)) (by omega) (by omega) (Byt.bts (zr_bts (base := w.heap.size) HG4.out.klt)) (by simp) (by omega) (by omega) (by omega)).mono ?_
          rintro e w5 ⟨rfl, hg5, hk5⟩
          have HG5 := hid hg5
          have HK5 := hid ((HK4.out.alloc _).trans hk5)
          clear hg5 hk5
          by_cases h5 : (1 : Int) ≤ ((j + 1 : Nat) : Int)
          · rw [if_pos h5]
            have HH := hid h5
            clear h5
            go_wp2_with fail
            go_roundw
            case rel => exact ⟨j + 1, by omega, by go_num, by rw [if_pos HH.out, ← HDI.out]; have := HH.out; congr 1; split <;> omega, HG5.out, HK5.out⟩
            case measure => simp [intOf]; omega
          · rw [if_neg h5]
            have HH := hid h5
            clear h5
            go_wp2_with fail
            go_roundw
            case rel => exact ⟨j + 1, by omega, by go_num, by rw [if_neg (by have := HH.out; omega), ← HDI.out, if_neg (by have := HH.out; omega)]; go_num, HG5.out, HK5.out⟩
            case measure => simp [intOf]; omega
        · have hsj' : ((j : Int) == s) = false := by simpa using hsj
          obtain ⟨w4, hw4⟩ : ∃ w4, wr = w4 := ⟨_, rfl⟩
          rw [hw4] at HGJ HKJ ⊢
          clear hw4
          have HG4 := hid HGJ.out
          have HK4 := hid HKJ.out
          go_wp2_with fail
          go_at_call 10
          refine (gone_write ((j : Int) % 4) (some ⟨w4.heap.size, 0, none⟩) 64 (List.replicate 64 0) (HG4.out.gr ((Gr.refl _).alloc _)) (by omega) (by omega) (Byt.bts (zr_bts (base := w.heap.size) HG4.out.klt)) (by simp) (by omega) (by omega) (by omega)).mono ?_
          rintro e w5 ⟨rfl, hg5, hk5⟩
          have HG5 := hid hg5
          have HK5 := hid ((HK4.out.alloc _).trans hk5)
          clear hg5 hk5
          by_cases h5 : (1 : Int) ≤ ((j + 1 : Nat) : Int)
          · rw [if_pos h5]
            have HH := hid h5
            clear h5
            go_wp2_with fail
            go_roundw
            case rel => exact ⟨j + 1, by omega, by go_num, by rw [if_pos HH.out, ← HDI.out]; have := HH.out; congr 1; split <;> omega, HG5.out, HK5.out⟩
            case measure => simp [intOf]; omega
          · rw [if_neg h5]
            have HH := hid h5
            clear h5
            go_wp2_with fail
            go_roundw
            case rel => exact ⟨j + 1, by omega, by go_num, by rw [if_neg (by have := HH.out; omega), ← HDI.out, if_neg (by have := HH.out; omega)]; go_num, HG5.out, HK5.out⟩
            case measure => simp [intOf]; omega
      · have hje : M = j := by omega
        subst hje
        have HH := hid hj
        clear hj
        by_cases hAM : (1 : Int) ≤ (M : Int)
        · rw [if_pos hAM]
          have hg9 := HGJ.out
          obtain ⟨K9, P9, hd9, hl9, hp9⟩ := hg9
          rw [decide_eq_true hAM, if_pos hAM, if_pos hAM, hp9 hAM] at hd9
          have HD9 := hid hd9
          clear hd9 hl9 hp9
          have CO := off_gr HD9.out
          have CW := writes_gr HD9.out
          have CR := read_gr 0 HD9.out
          have CS := sync_off_gr HD9.out
          have hlw := HD9.out.lt
          go_wp2_with (first | (go_at_call 21; refine (CO.out _ (by first | exact Gr.refl _ | exact Ext.gr _)).mono ?_; rintro e _ ⟨rfl, y1, rfl⟩) | (go_at_call 14; refine (CW.out _ (by first | exact Gr.refl _ | exact Ext.gr _)).mono ?_; rintro e _ ⟨rfl, y1, rfl⟩) | (go_at_call 13; refine (CR.out _ (by first | exact Gr.refl _ | exact Ext.gr _)).mono ?_; rintro e _ ⟨v, rfl, -, y1, rfl⟩; rw [show chk true 4 0 true = 5 from rfl]) | (go_at_call 15; refine (CS.out _ (by first | exact Gr.refl _ | exact Ext.gr _)).mono ?_; rintro e _ ⟨rfl, y1, rfl⟩))
          go_at_call 12
          refine (on_dsk (HD9.out.gr y1.gr)).mono ?_
          rintro e w10 ⟨rfl, hd10, hk10⟩
          have HD10 := hid hd10
          have HK10 := hid ((HKJ.out.trans y1.gr.kp).trans hk10)
          clear hd10 hk10
          go_wp2_with fail
          go_at_call 10
          refine (write_dsk 0 (some ⟨w10.heap.size, 0, none⟩) 64 64 (List.replicate 64 0) (HD10.out.gr ((Gr.refl _).alloc _)) (by omega) (by omega) (Byt.bts (zr_bts (base := w.heap.size) HD10.out.klt)) (by simp) rfl (by omega) (by omega) (by simp) (by omega) (by omega)).mono ?_
          rintro e w11 ⟨he, hd11, hk11⟩
          obtain rfl : e = .returned (.int .i64 0) := he
          have CP := hid (pending_dsk (show Dsk w.heap.size w11 g kb false 0 [] 4 64 K9 [((0 : Int), List.replicate 64 0)] ((1 : Int) - 1 + 1) from hd11))
          have HK11 := hid ((HK10.out.alloc _).trans hk11)
          clear hd11 hk11
          go_wp2_with (go_at_call 19; refine CP.out.mono ?_; rintro e _ ⟨rfl, y12, rfl⟩)
          go_ret
          exact ⟨rfl, (HK11.out.trans y12.gr.kp).gr⟩
        · rw [if_neg hAM]
          have hg9 := HGJ.out
          obtain ⟨K9, P9, hd9, hl9, hp9⟩ := hg9
          rw [decide_eq_false hAM, if_neg hAM, if_neg hAM] at hd9
          have HD9 := hid hd9
          clear hd9 hl9 hp9
          have CO := off_gr HD9.out
          have CW := writes_gr HD9.out
          have hlw := HD9.out.lt
          go_wp2_with (first | (go_at_call 21; refine (CO.out _ (by first | exact Gr.refl _ | exact Ext.gr _)).mono ?_; rintro e _ ⟨rfl, y1, rfl⟩) | (go_at_call 14; refine (CW.out _ (by first | exact Gr.refl _ | exact Ext.gr _)).mono ?_; rintro e _ ⟨rfl, y1, rfl⟩))
          go_ret
          exact ⟨rfl, (HKJ.out.trans y1.gr.kp).gr⟩
  · obtain rfl : a = n := by have := HA.out; rw [if_neg hn1] at this; exact this.symm
    go_enter Try.func6, Try.ntmps6
    go_wp2_with (first | (go_at_call 8; (with_reducible refine KN.out.mono ?_); rintro e _ ⟨rfl, y0, rfl⟩) | (go_at_call 9; (with_reducible refine (N y0).out.mono ?_); rintro e w1 ⟨g, kb, rfl, hd, hgr⟩; have HD := hid hd; have HG := hid hgr; have hl1 := hd.lt; clear hd hgr) | (go_at_call 20; refine (HARM.out g kb w1 HD).mono ?_; rintro e w2 ⟨rfl, hd2, hk2⟩; have HD2 := hid hd2; have HK2 := hid ((y0.gr.trans HG.out).kp.trans hk2); clear hd2 hk2))
    go_loopw [9, 10] (fun ok i wr => ∃ j : Nat, j ≤ M ∧ i = .int .i64 j ∧ ok = .int .i64 (if a ≤ (j : Int) then a - 1 else j) ∧ Gone w.heap.size wr g kb a j ∧ Kp (TK kb) w.heap.size w wr) (fun _ i _ => M - (intOf i).toNat)
    case atStart => exact ⟨0, Nat.zero_le _, rfl, by rw [if_neg (by omega)]; rfl, HD2.out, HK2.out⟩
    case round =>
      obtain ⟨j, hj, rfl, rfl, hg, hk⟩ := hrel
      have HGJ := hid hg
      have HKJ := hid hk
      clear hg hk
      by_cases hlt : j < M
      · obtain ⟨d, hd⟩ : ∃ d : Int, (if a ≤ (j : Int) then a - 1 else j) = d := ⟨_, rfl⟩
        have HDI := hid hd
        have hd0 : 0 ≤ d ∧ d ≤ 1000 := by rw [← hd]; split <;> omega
        rw [hd]
        clear hd
        by_cases hsj : (j : Int) = s
        · subst hsj
          go_wp2_with (go_at_call 15; refine (gone_sync HGJ.out).mono ?_; rintro e w4 ⟨⟨v, rfl⟩, hg4, hk4⟩; have HG4 := hid hg4; have HK4 := hid (HKJ.out.trans hk4); clear hg4 hk4)
          go_at_call 10
          refine (gone_write ((j : Int) % 4) (some ⟨w4.heap.size, 0, none⟩) 64 (List.replicate 64 0) (HG4.out.gr ((Gr.refl _).alloc _)) (by omega) (by omega) (Byt.bts (zr_bts (base := w.heap.size) HG4.out.klt)) (by simp) (by omega) (by omega) (by omega)).mono ?_
          rintro e w5 ⟨rfl, hg5, hk5⟩
          have HG5 := hid hg5
          have HK5 := hid ((HK4.out.alloc _).trans hk5)
          clear hg5 hk5
          by_cases h5 : a ≤ ((j + 1 : Nat) : Int)
          · rw [if_pos h5]
            have HH := hid h5
            clear h5
            go_wp2_with fail
            go_roundw
            case rel => exact ⟨j + 1, by omega, by go_num, by rw [if_pos HH.out, ← HDI.out]; have := HH.out; congr 1; split <;> omega, HG5.out, HK5.out⟩
            case measure => simp [intOf]; omega
          · rw [if_neg h5]
            have HH := hid h5
            clear h5
            go_wp2_with fail
            go_roundw
            case rel => exact ⟨j + 1, by omega, by go_num, by rw [if_neg (by have := HH.out; omega), ← HDI.out, if_neg (by have := HH.out; omega)]; go_num, HG5.out, HK5.out⟩
            case measure => simp [intOf]; omega
        · have hsj' : ((j : Int) == s) = false := by simpa using hsj
          obtain ⟨w4, hw4⟩ : ∃ w4, wr = w4 := ⟨_, rfl⟩
          rw [hw4] at HGJ HKJ ⊢
          clear hw4
          have HG4 := hid HGJ.out
          have HK4 := hid HKJ.out
          go_wp2_with fail
          go_at_call 10
          refine (gone_write ((j : Int) % 4) (some ⟨w4.heap.size, 0, none⟩) 64 (List.replicate 64 0) (HG4.out.gr ((Gr.refl _).alloc _)) (by omega) (by omega) (Byt.bts (zr_bts (base := w.heap.size) HG4.out.klt)) (by simp) (by omega) (by omega) (by omega)).mono ?_
          rintro e w5 ⟨rfl, hg5, hk5⟩
          have HG5 := hid hg5
          have HK5 := hid ((HK4.out.alloc _).trans hk5)
          clear hg5 hk5
          by_cases h5 : a ≤ ((j + 1 : Nat) : Int)
          · rw [if_pos h5]
            have HH := hid h5
            clear h5
            go_wp2_with fail
            go_roundw
            case rel => exact ⟨j + 1, by omega, by go_num, by rw [if_pos HH.out, ← HDI.out]; have := HH.out; congr 1; split <;> omega, HG5.out, HK5.out⟩
            case measure => simp [intOf]; omega
          · rw [if_neg h5]
            have HH := hid h5
            clear h5
            go_wp2_with fail
            go_roundw
            case rel => exact ⟨j + 1, by omega, by go_num, by rw [if_neg (by have := HH.out; omega), ← HDI.out, if_neg (by have := HH.out; omega)]; go_num, HG5.out, HK5.out⟩
            case measure => simp [intOf]; omega
      · have hje : M = j := by omega
        subst hje
        have HH := hid hj
        clear hj
        by_cases hAM : a ≤ (M : Int)
        · rw [if_pos hAM]
          have hg9 := HGJ.out
          obtain ⟨K9, P9, hd9, hl9, hp9⟩ := hg9
          rw [decide_eq_true hAM, if_pos hAM, if_pos hAM, hp9 hAM] at hd9
          have HD9 := hid hd9
          clear hd9 hl9 hp9
          have CO := off_gr HD9.out
          have CW := writes_gr HD9.out
          have CR := read_gr 0 HD9.out
          have CS := sync_off_gr HD9.out
          have hlw := HD9.out.lt
          go_wp2_with (first | (go_at_call 21; refine (CO.out _ (by first | exact Gr.refl _ | exact Ext.gr _)).mono ?_; rintro e _ ⟨rfl, y1, rfl⟩) | (go_at_call 14; refine (CW.out _ (by first | exact Gr.refl _ | exact Ext.gr _)).mono ?_; rintro e _ ⟨rfl, y1, rfl⟩) | (go_at_call 13; refine (CR.out _ (by first | exact Gr.refl _ | exact Ext.gr _)).mono ?_; rintro e _ ⟨v, rfl, -, y1, rfl⟩; rw [show chk true 4 0 true = 5 from rfl]) | (go_at_call 15; refine (CS.out _ (by first | exact Gr.refl _ | exact Ext.gr _)).mono ?_; rintro e _ ⟨rfl, y1, rfl⟩))
          go_at_call 12
          refine (on_dsk (HD9.out.gr y1.gr)).mono ?_
          rintro e w10 ⟨rfl, hd10, hk10⟩
          have HD10 := hid hd10
          have HK10 := hid ((HKJ.out.trans y1.gr.kp).trans hk10)
          clear hd10 hk10
          go_wp2_with fail
          go_at_call 10
          refine (write_dsk 0 (some ⟨w10.heap.size, 0, none⟩) 64 64 (List.replicate 64 0) (HD10.out.gr ((Gr.refl _).alloc _)) (by omega) (by omega) (Byt.bts (zr_bts (base := w.heap.size) HD10.out.klt)) (by simp) rfl (by omega) (by omega) (by simp) (by omega) (by omega)).mono ?_
          rintro e w11 ⟨he, hd11, hk11⟩
          obtain rfl : e = .returned (.int .i64 0) := he
          have CP := hid (pending_dsk (show Dsk w.heap.size w11 g kb false 0 [] 4 64 K9 [((0 : Int), List.replicate 64 0)] (a - 1 + 1) from hd11))
          have HK11 := hid ((HK10.out.alloc _).trans hk11)
          clear hd11 hk11
          go_wp2_with (go_at_call 19; refine CP.out.mono ?_; rintro e _ ⟨rfl, y12, rfl⟩)
          go_ret
          exact ⟨rfl, (HK11.out.trans y12.gr.kp).gr⟩
        · rw [if_neg hAM]
          have hg9 := HGJ.out
          obtain ⟨K9, P9, hd9, hl9, hp9⟩ := hg9
          rw [decide_eq_false hAM, if_neg hAM, if_neg hAM] at hd9
          have HD9 := hid hd9
          clear hd9 hl9 hp9
          have CO := off_gr HD9.out
          have CW := writes_gr HD9.out
          have hlw := HD9.out.lt
          go_wp2_with (first | (go_at_call 21; refine (CO.out _ (by first | exact Gr.refl _ | exact Ext.gr _)).mono ?_; rintro e _ ⟨rfl, y1, rfl⟩) | (go_at_call 14; refine (CW.out _ (by first | exact Gr.refl _ | exact Ext.gr _)).mono ?_; rintro e _ ⟨rfl, y1, rfl⟩))
          go_ret
          exact ⟨rfl, (HKJ.out.trans y1.gr.kp).gr⟩
end Go.Proofs.Ytkgmienjioplaaa
