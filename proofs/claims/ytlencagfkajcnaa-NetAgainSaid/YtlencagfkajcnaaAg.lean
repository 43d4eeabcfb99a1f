import Derived.Test.YtlencagfkajcnaaK1
namespace Go.Proofs.Ytlencagfkajcnaa
open Go.RowKit Go.Ext Go.BigFrame Go.Maps
attribute [local go_sem] Ext.cell Ext.frozen Ext.lt Ext.le s1 s2 s3 s4 s5 s6 t1 t2 t3 t4 t5 t6
attribute [local go_sem ↓] Go.wp_at_zero Go.wp_at_succ

/-- What others sent ahead. -/
def preP (k : Nat) : List Pk := (List.range k).map fun (i : Nat) => ((1 : Int), (0 : Int), (i : Int), [UInt8.ofNat i])
theorem preP_len (k : Nat) : (preP k).length = k := by simp [preP]
theorem preP_succ (k : Nat) : preP (k + 1) = preP k ++ [(1, 0, (k : Int), [UInt8.ofNat k])] := by simp [preP, List.range_succ]
theorem dup_rep (O m : Nat) (p : Pk) : dupF (preP O ++ List.replicate (m + 1) p) O = preP O ++ List.replicate (m + 2) p := by
  have hg : ∀ t, O ≤ t → t < O + (m + 1) → (preP O ++ List.replicate (m + 1) p).getD t p0 = p := fun t h1 h2 => by
    rw [List.getD_eq_getElem?_getD, List.getElem?_append_right (by rw [preP_len]; exact h1), preP_len, List.getElem?_replicate, if_pos (by omega)]; rfl
  have hl : (preP O ++ List.replicate (m + 1) p).length = O + (m + 1) := by rw [List.length_append, preP_len, List.length_replicate]
  have ha : atF (preP O ++ List.replicate (m + 1) p) O = O + (m + 1) := atF_eq _ O _ (by omega) (by omega) (fun t h1 h2 => by rw [hg t h1 h2, hg O (by omega) (by omega)]) (fun h => by omega)
  unfold dupF
  rw [ha, hg O (by omega) (by omega), List.take_of_length_le (by omega), List.drop_eq_nil_of_le (by omega), List.append_assoc]
  congr 1
  rw [List.replicate_succ' (n := m + 1)]
theorem out_rep (O m : Nat) (p : Pk) : outF (preP O ++ List.replicate (m + 1) p) O = preP O ++ List.replicate m p := by
  unfold outF
  rw [List.take_left' (preP_len O), List.drop_append, preP_len, List.drop_eq_nil_of_le (by rw [preP_len]; omega), List.nil_append, show O + 1 - O = 1 by omega]
  simp
theorem get_rep (O m : Nat) (p : Pk) : (preP O ++ List.replicate (m + 1) p).getD O p0 = p := by
  rw [List.getD_eq_getElem?_getD, List.getElem?_append_right (by rw [preP_len]; omega), preP_len, Nat.sub_self]; simp
theorem pre_clear (O : Nat) : (preP O).filter (fun p => !qK 0 p) = [] := by
  rw [List.filter_eq_nil_iff]
  intro p hp
  obtain ⟨i, _, rfl⟩ := List.mem_map.1 hp
  simp [qK]
theorem len_rep (O m : Nat) (p : Pk) : (preP O ++ List.replicate m p).length = O + m := by rw [List.length_append, preP_len, List.length_replicate]

set_option maxRecDepth 100000 in
set_option maxHeartbeats 4000000 in
/-- The law NetAgain, where it is to be shown. -/
theorem again_law (A : Option Addr) (c T O : Nat) (bs : List UInt8) (w : World) (hd : Bys w (.slice A bs.length c) bs) (hT : T ≤ 50) (hO : O ≤ 50) (hb : bs.length ≤ 100) : Calls Try.prog 5 #[.slice A bs.length c, .int .i64 T, .int .i64 O] w (RetE (.bool true) w) := by
  refine retE ?_
  have HD := hid hd
  clear hd
  have hz : ¬ (100 : Int) < (bs.length : Int) := by omega
  have hzb : decide ((100 : Int) < (bs.length : Int)) = false := decide_eq_false hz
  have hT0 : ¬ (T : Int) < 0 := by omega
  have hT1 : ¬ (50 : Int) < (T : Int) := by omega
  have hO0 : ¬ (O : Int) < 0 := by omega
  have hO1 : ¬ (50 : Int) < (O : Int) := by omega
  go_enter Try.func5, Try.ntmps5
  go_wp2_with (go_at_call 7; refine (known_any _).mono ?_; rintro e _ ⟨rfl, y1, rfl⟩)
  refine (new_any 2 y1.val w.heap.size y1.gr.size).mono ?_
  rintro en w1 (⟨hno, _⟩ | ⟨_, g, rfl, hn1, g1⟩)
  · exact absurd ⟨by omega, by omega⟩ hno
  have H1 := hid hn1
  have G1 := hid (y1.gr.trans g1)
  clear hn1 g1
  go_wp2_with fail
  go_loopw [9] (fun i wr => ∃ k : Nat, k ≤ O ∧ i = .int .i64 k ∧ Gr w wr ∧ Nt w.heap.size wr g 2 k 0 (fun _ => false) (preP k)) (fun i _ => O - (intOf i).toNat)
  case atStart => exact ⟨0, Nat.zero_le _, rfl, G1.out, H1.out⟩
  case round =>
    obtain ⟨k, hk, rfl, hg, hn⟩ := hrel
    have HG := hid hg
    have HN := hid hn
    clear hg hn
    by_cases hlt : k < O
    · go_wp2_with fail
      have hku : ((UInt8.ofNat k).toNat : Int) = (k : Int) := by simp; omega
      have GA : Gr wr (wr.alloc (.cells #[.int .u8 (k : Int)] 5)) := (Gr.refl wr).alloc _
      have hb1 := heap_alloc_new wr (.cells #[.int .u8 (k : Int)] 5)
      rw [← hku] at hb1
      have hby := bys_lit (UInt8.ofNat k) hb1
      rw [hku] at hby
      refine (send_any w.heap.size g 0 2 k 1 0 (fun _ => false) (preP k) _ [UInt8.ofNat k] _ (HN.out.gr GA) hby (by rw [preP_len]; omega) (by omega) (HG.out.trans GA).size).mono ?_
      rintro en w2 ⟨rfl, h2, m2⟩
      have e2 : sendF 2 k (fun _ => false) (preP k) 1 0 [UInt8.ofNat k] = (0, preP (k + 1), (k : Int) + 1) := by rw [preP_succ]; simp [sendF, isN, opF]
      rw [e2] at h2
      have H2 := hid h2
      have G2 := hid (m2.gr (Nat.le_refl _) (HG.out.trans GA))
      clear h2 m2 e2 GA hb1 hby hku
      go_wp2_with fail
      go_roundw
      case rel => exact ⟨k + 1, by omega, by go_num, G2.out, H2.out⟩
      case measure => simp [intOf]; omega
    · obtain rfl : k = O := by omega
      go_wp2_with fail
      refine (send_any w.heap.size g 0 2 k 0 1 (fun _ => false) (preP k) _ bs _ HN.out (HD.out.gr HG.out) (by rw [preP_len]; omega) (by omega) HG.out.size).mono ?_
      rintro en w3 ⟨rfl, h3, m3⟩
      have e3 : sendF 2 k (fun _ => false) (preP k) 0 1 bs = (0, preP k ++ List.replicate (0 + 1) (0, 1, (k : Int), bs), (k : Int) + 1) := by
        have : ¬ 1048576 < bs.length := by omega
        simp [sendF, isN, opF, this]
      rw [e3] at h3
      have H3 := hid h3
      have G3 := hid (m3.gr (Nat.le_refl _) HG.out)
      clear h3 m3 e3
      go_wp2_with fail
      go_loopw [10] (fun i wr2 => ∃ j : Nat, j ≤ T ∧ i = .int .i64 j ∧ Gr w wr2 ∧ Nt w.heap.size wr2 g 2 ((k : Int) + 1) 0 (fun _ => false) (preP k ++ List.replicate (j + 1) (0, 1, (k : Int), bs))) (fun i _ => T - (intOf i).toNat)
      case atStart => exact ⟨0, Nat.zero_le _, rfl, G3.out, H3.out⟩
      case round =>
        obtain ⟨j, hj, rfl, hg2, hn2⟩ := hrel
        have HG2 := hid hg2
        have HN2 := hid hn2
        clear hg2 hn2
        by_cases hlt2 : j < T
        · have hA := hid (again_any w.heap.size g 0 2 ((k : Int) + 1) k (fun _ => false) (preP k ++ List.replicate (j + 1) (0, 1, (k : Int), bs)) _ HN2.out (by rw [len_rep]; omega))
          have hok : okN (preP k ++ List.replicate (j + 1) ((0, 1, (k : Int), bs) : Pk)) (k : Int) = true := by
            unfold okN
            rw [len_rep]
            simp
            omega
          have hcd : againC (preP k ++ List.replicate (j + 1) ((0, 1, (k : Int), bs) : Pk)) (k : Int) = 0 := by
            unfold againC
            rw [hok, if_pos rfl, if_neg (by rw [len_rep]; omega)]
          have hpp : againP (preP k ++ List.replicate (j + 1) ((0, 1, (k : Int), bs) : Pk)) (k : Int) = preP k ++ List.replicate (j + 1 + 1) (0, 1, (k : Int), bs) := by
            unfold againP
            rw [hok, if_pos rfl, if_neg (by rw [len_rep]; omega), Int.toNat_natCast, dup_rep]
          rw [hcd, hpp] at hA
          clear hok hcd hpp
          go_wp2_with (go_at_call 10; refine hA.out.mono ?_; rintro en w4 ⟨rfl, h4, m4⟩; have H4 := hid h4; have G4 := hid (m4.gr (Nat.le_refl _) HG2.out); clear h4 m4)
          go_roundw
          case rel => exact ⟨j + 1, by omega, by go_num, G4.out, H4.out⟩
          case measure => simp [intOf]; omega
        · obtain rfl : j = T := by omega
          go_wp2_with fail
          go_loopw [11] (fun i wr3 => ∃ m : Nat, m ≤ j + 1 ∧ i = .int .i64 m ∧ Gr w wr3 ∧ Nt w.heap.size wr3 g 2 ((k : Int) + 1) 0 (fun _ => false) (preP k ++ List.replicate (j + 1 - m) (0, 1, (k : Int), bs))) (fun i _ => j + 1 - (intOf i).toNat)
          case atStart => exact ⟨0, Nat.zero_le _, rfl, HG2.out, HN2.out⟩
          case round =>
            obtain ⟨m, hm, rfl, hg3, hn3⟩ := hrel
            have HG3 := hid hg3
            have HN3 := hid hn3
            clear hg3 hn3
            by_cases hlt3 : m ≤ j
            · obtain ⟨r, hr⟩ : ∃ r, j + 1 - m = r + 1 := ⟨j - m, by omega⟩
              rw [hr] at HN3
              have hr1 : j + 1 - (m + 1) = r := by omega
              have HR1 := hid hr1
              have hok : okN (preP k ++ List.replicate (r + 1) ((0, 1, (k : Int), bs) : Pk)) (k : Int) = true := by
                unfold okN
                rw [len_rep]
                simp
                omega
              have HOK := hid hok
              have hrl : r ≤ 50 := by omega
              clear hr hr1 hok
              go_wp2_with fail
              refine (take_any w.heap.size g 0 2 ((k : Int) + 1) k (fun _ => false) (preP k ++ List.replicate (r + 1) (0, 1, (k : Int), bs)) _ HN3.out (by rw [len_rep]; omega)).mono ?_
              rintro en w9 (⟨hno, _⟩ | ⟨_, i, ⟨y1', y2', y3', A9, l9, c9⟩, hi1, hi2, rfl, hone, h9, m9⟩)
              · rw [HOK.out] at hno; cases hno
              obtain rfl : i = k := by omega
              rw [get_rep] at hone
              rw [out_rep] at h9
              obtain ⟨o1, o2, o3, o4, o5⟩ := hone
              simp only [sl] at o1 o2 o3 o4
              subst o1 o2 o3
              have H9 := hid h9
              have G9 := hid (m9.gr (Nat.le_refl _) HG3.out)
              have GX : Gr w9 (w9.alloc (.cells #[.int .i64 0, .int .i64 1, .int .i64 i, .slice A9 l9 c9] 33)) := (Gr.refl w9).alloc _
              have hca := conv_bys (Bys.gr (Bys.of_own (bs := bs) o4 o5) GX)
              have hcb := conv_bys (HD.out.gr (G9.out.trans GX))
              clear h9 m9 o4 o5 GX hi1 hi2
              simp only [iv]
              generalize sb bs = s0 at *
              go_wp2_with fail
              go_roundw
              case rel => exact ⟨m + 1, by omega, by go_num, G9.out.alloc _, by rw [HR1.out]; exact H9.out.gr ((Gr.refl w9).alloc _)⟩
              case measure => simp [intOf]; omega
            · have hme : j + 1 - m = 0 := by omega
              rw [hme, List.replicate_zero, List.append_nil] at HN3
              have hmj : ¬ (m : Int) ≤ (j : Int) := by omega
              clear hme
              go_wp2_with fail
              refine (wait_any w.heap.size g 0 2 ((k : Int) + 1) (fun _ => false) (preP k) _ HN3.out (by rw [preP_len]; omega)).mono ?_
              rintro en _ ⟨u, y7, rfl, rfl, L', ho7, hd7⟩
              have hl7 : L'.length = k := by rw [hd7.len, preP_len]
              rw [hl7] at ho7
              obtain ⟨AU, cU, rfl⟩ := own_shape ho7
              have H7 := hid (HN3.out.gr y7.gr)
              have G7 := hid (HG3.out.ext y7)
              clear ho7 hd7 hl7
              go_wp2_with fail
              refine (clear_any w.heap.size g 0 2 ((k : Int) + 1) 0 (fun _ => false) (preP k) _ H7.out (by rw [preP_len]; omega)).mono ?_
              rintro en w8 ⟨rfl, h8, m8⟩
              rw [pre_clear, preP_len, List.length_nil]
              have G8 := hid (m8.gr (Nat.le_refl _) G7.out)
              clear h8 m8
              go_wp2_with fail
              go_ret
              exact ⟨by simp, G8.out⟩

/-- The law NetAgain. -/
theorem netagain_any (A : Option Addr) (c : Nat) (T O : Int) (bs : List UInt8) (w : World) (hd : Bys w (.slice A bs.length c) bs) : Calls Try.prog 5 #[.slice A bs.length c, .int .i64 T, .int .i64 O] w (RetE (.bool true) w) := by
  by_cases hb : 100 < bs.length
  · refine retE ?_
    clear hd
    have hz : (100 : Int) < (bs.length : Int) := by omega
    have hzb : decide ((100 : Int) < (bs.length : Int)) = true := decide_eq_true hz
    go_enter Try.func5, Try.ntmps5
    go_wp2_with (go_at_call 7; refine (known_any _).mono ?_; rintro e _ ⟨rfl, y1, rfl⟩)
    go_ret
    exact ⟨rfl, y1.gr⟩
  have hz : ¬ (100 : Int) < (bs.length : Int) := by omega
  have hzb : decide ((100 : Int) < (bs.length : Int)) = false := decide_eq_false hz
  by_cases hT0 : T < 0
  · refine retE ?_
    clear hd
    have hT0b : decide (T < 0) = true := decide_eq_true hT0
    go_enter Try.func5, Try.ntmps5
    go_wp2_with (go_at_call 7; refine (known_any _).mono ?_; rintro e _ ⟨rfl, y1, rfl⟩)
    go_ret
    exact ⟨rfl, y1.gr⟩
  have hT0b : decide (T < 0) = false := decide_eq_false hT0
  by_cases hT1 : 50 < T
  · refine retE ?_
    clear hd
    have hT1b : decide (50 < T) = true := decide_eq_true hT1
    go_enter Try.func5, Try.ntmps5
    go_wp2_with (go_at_call 7; refine (known_any _).mono ?_; rintro e _ ⟨rfl, y1, rfl⟩)
    go_ret
    exact ⟨rfl, y1.gr⟩
  have hT1b : decide (50 < T) = false := decide_eq_false hT1
  by_cases hO0 : O < 0
  · refine retE ?_
    clear hd
    have hO0b : decide (O < 0) = true := decide_eq_true hO0
    go_enter Try.func5, Try.ntmps5
    go_wp2_with (go_at_call 7; refine (known_any _).mono ?_; rintro e _ ⟨rfl, y1, rfl⟩)
    go_ret
    exact ⟨rfl, y1.gr⟩
  have hO0b : decide (O < 0) = false := decide_eq_false hO0
  by_cases hO1 : 50 < O
  · refine retE ?_
    clear hd
    have hO1b : decide (50 < O) = true := decide_eq_true hO1
    go_enter Try.func5, Try.ntmps5
    go_wp2_with (go_at_call 7; refine (known_any _).mono ?_; rintro e _ ⟨rfl, y1, rfl⟩)
    go_ret
    exact ⟨rfl, y1.gr⟩
  obtain ⟨T', rfl⟩ : ∃ T' : Nat, T = T' := ⟨T.toNat, by omega⟩
  obtain ⟨O', rfl⟩ : ∃ O' : Nat, O = O' := ⟨O.toNat, by omega⟩
  exact again_law A c T' O' bs w hd (by omega) (by omega) (by omega)
end Go.Proofs.Ytlencagfkajcnaa
