import Derived.Test.YtlencagfkajcnaaF2
import Derived.Deep.Cut
import Derived.Deep.CutRange
namespace Go.Proofs.Ytlencagfkajcnaa
open Go.RowKit Go.Ext Go.BigFrame Go.Maps
attribute [local go_sem] Ext.cell Ext.frozen Ext.lt Ext.le s1 s2 s3 s4 s5 s6 t1 t2 t3 t4 t5 t6
attribute [local go_sem ↓] Go.wp_at_zero Go.wp_at_succ

/-- What is for a node from c on. -/
def toF (P : List Pk) (c : Nat) : List Pk := P.filter fun p => decide ((c : Int) ≤ p.2.1)
theorem toF_zero {P : List Pk} (h : ∀ p ∈ P, 0 ≤ p.2.1 ∧ p.2.1 ≤ 3) : toF P 0 = P := by
  unfold toF
  rw [List.filter_eq_self]
  intro p hp
  have := (h p hp).1
  simpa using this
theorem toF_four {P : List Pk} (h : ∀ p ∈ P, 0 ≤ p.2.1 ∧ p.2.1 ≤ 3) : toF P 4 = [] := by
  unfold toF
  rw [List.filter_eq_nil_iff]
  intro p hp
  have := (h p hp).2
  simp
  omega
theorem toF_succ (P : List Pk) (c : Nat) : (toF P c).filter (fun p => !qK c p) = toF P (c + 1) := by
  unfold toF
  rw [List.filter_filter]
  apply List.filter_congr
  intro p _
  unfold qK
  rw [Bool.eq_iff_iff]
  simp
  omega
theorem toF_le (P : List Pk) (c : Nat) : (toF P c).length ≤ P.length := List.length_filter_le _ _
theorem toF_mono (P : List Pk) (c : Nat) : (toF P (c + 1)).length ≤ (toF P c).length := by
  rw [← toF_succ]
  exact List.length_filter_le _ _

set_option maxRecDepth 100000 in
set_option maxHeartbeats 40000000 in
/-- The law NetLoses, where it is to be shown. -/
theorem loses_law (A : Option Addr) (c : Nat) (acts : List Ac) (a b : Int) (w : World) (hr : RowC w A acts) (hl : acts.length ≤ 4398046511103) (ha : 0 ≤ a ∧ a ≤ 3) (hb : 0 ≤ b ∧ b ≤ 3) (hab : a ≠ b) : Calls Try.prog 4 #[.slice A acts.length c, .int .i64 a, .int .i64 b] w (RetE (.bool true) w) := by
  refine retE ?_
  have HR := hid hr
  clear hr
  obtain ⟨ha0, ha3⟩ := ha
  obtain ⟨hb0, hb3⟩ := hb
  have qa0 : decide (a < 0) = false := decide_eq_false (by omega)
  have qb0 : decide (b < 0) = false := decide_eq_false (by omega)
  have qa3 : decide (3 < a) = false := decide_eq_false (by omega)
  have qb3 : decide (3 < b) = false := decide_eq_false (by omega)
  have qab : (a == b) = false := by simpa using hab
  have HAB := hid hab
  clear hab
  go_enter Try.func4, Try.ntmps4
  go_wp2_with (go_at_call 7; refine (known_any _).mono ?_; rintro e _ ⟨rfl, y1, rfl⟩)
  refine (few_any A c acts y1.val (HR.out.gr y1.gr) hl).mono ?_
  rintro en _ ⟨r, rfl, hfew, rfl⟩
  cases r
  · clear hfew
    go_wp2_with fail
    go_ret
    exact ⟨rfl, y1.gr⟩
  obtain ⟨hn200, hlen⟩ := hfew rfl
  have HLN := hid hlen
  clear hfew hlen
  go_wp2_with fail
  refine (new_any 4 y1.val w.heap.size y1.gr.size).mono ?_
  rintro en w1 (⟨hno, _⟩ | ⟨_, g, rfl, hn1, g1⟩)
  · exact absurd ⟨by omega, by omega⟩ hno
  have H1 := hid hn1
  have G1 := hid (y1.gr.trans g1)
  clear hn1 g1
  have hok : okC 4 a b = true := by
    unfold okC isN
    rw [decide_eq_true ha0, decide_eq_true (show a < 4 by omega), decide_eq_true hb0, decide_eq_true (show b < 4 by omega), decide_eq_false HAB.out]
    rfl
  go_wp2_with fail
  refine (cut_good w.heap.size g 0 4 0 a b (fun _ => false) [] w1 H1.out hok (by simp) (by omega)).mono ?_
  rintro en w2 ⟨rfl, h2, m2⟩
  have H2 := hid (show Nt w.heap.size w2 g 4 0 1 (cutS (fun _ => false) a b) [] from h2)
  have G2 := hid (m2.gr (Nat.le_refl _) G1.out)
  clear h2 m2 hok
  go_wp2_with fail
  go_loopw [9, 10] (fun u i wr => ∃ (k : Nat) (s : Int) (P : List Pk), k ≤ acts.length ∧ i = .int .i64 k ∧ u = .int .i64 P.length ∧ Gr w wr ∧ Nt w.heap.size wr g 4 s 1 (cutS (fun _ => false) a b) P ∧ Ok a b P s ∧ P.length ≤ k ∧ 0 ≤ s ∧ s ≤ k) (fun _ i _ => acts.length - (intOf i).toNat)
  case atStart => exact ⟨0, 0, [], Nat.zero_le _, rfl, rfl, G2.out, H2.out, Ok.nil _ _ _, Nat.le_refl _, by omega, by omega⟩
  case round =>
    obtain ⟨k, s, P, hk, rfl, rfl, hg, hn, hokp, hpk, hs0, hsk⟩ := hrel
    have HG := hid hg
    have HN := hid hn
    have HOK := hid hokp
    clear hg hn hokp
    by_cases hlt : k < acts.length
    · obtain ⟨bb, off, A', c', rfl, hbw, d0, d1, d2, d3, d4⟩ := (HR.out.gr HG.out).at_ hlt
      have hln := HLN.out k hlt
      obtain ⟨⟨op, x', y', bs⟩, hy⟩ : ∃ y, acts.getD k a0 = y := ⟨_, rfl⟩
      rw [hy] at d0 d1 d2 d3 d4 hln
      simp only at d0 d1 d2 d3 d4 hln
      clear hy
      obtain ⟨x, hx3, hx⟩ := and3 x'
      obtain ⟨y, hy3, hy⟩ := and3 y'
      have HD4 := hid d4
      clear d4
      by_cases h1 : op = 1
      · subst h1
        have hsend := send_cut (a := a) (b := b) (s := s) (x := (x : Int)) (y := (y : Int)) (P := P) (bs := bs) ⟨by omega, by omega⟩ ⟨by omega, by omega⟩ hln
        have HC := hid (send_any w.heap.size g 1 4 s x y (cutS (fun _ => false) a b) P (.slice A' bs.length c') bs _ HN.out HD4.out (by omega) (by omega) HG.out.size)
        rw [hsend] at HC
        clear hsend
        have hpq := pr_eq (x : Int) (y : Int) a b
        have hab2 := HAB.out
        by_cases e1 : (x : Int) = a
        · have q1 : ((x : Int) == a) = true := by simp [e1]
          have q3 : ((x : Int) == b) = false := by rw [beq_eq_false_iff_ne]; omega
          by_cases e2 : (y : Int) = b
          · have q2 : ((y : Int) == b) = true := by simp [e2]
            have hc : pr (x : Int) (y : Int) = pr a b := hpq.2 (by omega)
            rw [if_pos hc] at HC
            clear hc hpq
            clear e1 e2 hab2
            go_wp2_with (go_at_call 9; refine HC.out.mono ?_; rintro en w4 ⟨rfl, h4, m4⟩; have H4 := hid h4; have G4 := hid (m4.gr (Nat.le_refl _) HG.out); clear h4 m4)
            go_roundw
            case rel => exact ⟨k + 1, s + 1, P, by omega, by go_num, rfl, G4.out, H4.out, HOK.out.more, by omega, by omega, by omega⟩
            case measure => simp [intOf]; omega
          · have q2 : ((y : Int) == b) = false := by rw [beq_eq_false_iff_ne]; exact e2
            have hc : ¬ pr (x : Int) (y : Int) = pr a b := fun h => by have := hpq.1 h; omega
            have HCC := hid hc
            rw [if_neg hc] at HC
            clear hc hpq
            clear e1 e2 hab2
            go_wp2_with (go_at_call 9; refine HC.out.mono ?_; rintro en w4 ⟨rfl, h4, m4⟩; have H4 := hid h4; have G4 := hid (m4.gr (Nat.le_refl _) HG.out); clear h4 m4)
            go_roundw
            case rel => exact ⟨k + 1, s + 1, P ++ [((x : Int), (y : Int), s, bs)], by omega, by go_num, by rw [List.length_append, List.length_singleton]; go_num, G4.out, H4.out, HOK.out.add (by omega) (by omega) HCC.out, by rw [List.length_append, List.length_singleton]; omega, by omega, by omega⟩
            case measure => simp [intOf]; omega
        · have q1 : ((x : Int) == a) = false := by rw [beq_eq_false_iff_ne]; exact e1
          by_cases e3 : (x : Int) = b
          · have q3 : ((x : Int) == b) = true := by simp [e3]
            by_cases e4 : (y : Int) = a
            · have q4 : ((y : Int) == a) = true := by simp [e4]
              have hc : pr (x : Int) (y : Int) = pr a b := hpq.2 (by omega)
              rw [if_pos hc] at HC
              clear hc hpq
              clear e1 e3 e4 hab2
              go_wp2_with (go_at_call 9; refine HC.out.mono ?_; rintro en w4 ⟨rfl, h4, m4⟩; have H4 := hid h4; have G4 := hid (m4.gr (Nat.le_refl _) HG.out); clear h4 m4)
              go_roundw
              case rel => exact ⟨k + 1, s + 1, P, by omega, by go_num, rfl, G4.out, H4.out, HOK.out.more, by omega, by omega, by omega⟩
              case measure => simp [intOf]; omega
            · have q4 : ((y : Int) == a) = false := by rw [beq_eq_false_iff_ne]; exact e4
              have hc : ¬ pr (x : Int) (y : Int) = pr a b := fun h => by have := hpq.1 h; omega
              have HCC := hid hc
              rw [if_neg hc] at HC
              clear hc hpq
              clear e1 e3 e4 hab2
              go_wp2_with (go_at_call 9; refine HC.out.mono ?_; rintro en w4 ⟨rfl, h4, m4⟩; have H4 := hid h4; have G4 := hid (m4.gr (Nat.le_refl _) HG.out); clear h4 m4)
              go_roundw
              case rel => exact ⟨k + 1, s + 1, P ++ [((x : Int), (y : Int), s, bs)], by omega, by go_num, by rw [List.length_append, List.length_singleton]; go_num, G4.out, H4.out, HOK.out.add (by omega) (by omega) HCC.out, by rw [List.length_append, List.length_singleton]; omega, by omega, by omega⟩
              case measure => simp [intOf]; omega
          · have q3 : ((x : Int) == b) = false := by rw [beq_eq_false_iff_ne]; exact e3
            have hc : ¬ pr (x : Int) (y : Int) = pr a b := fun h => by have := hpq.1 h; omega
            have HCC := hid hc
            rw [if_neg hc] at HC
            clear hc hpq
            clear e1 e3 hab2
            go_wp2_with (go_at_call 9; refine HC.out.mono ?_; rintro en w4 ⟨rfl, h4, m4⟩; have H4 := hid h4; have G4 := hid (m4.gr (Nat.le_refl _) HG.out); clear h4 m4)
            go_roundw
            case rel => exact ⟨k + 1, s + 1, P ++ [((x : Int), (y : Int), s, bs)], by omega, by go_num, by rw [List.length_append, List.length_singleton]; go_num, G4.out, H4.out, HOK.out.add (by omega) (by omega) HCC.out, by rw [List.length_append, List.length_singleton]; omega, by omega, by omega⟩
            case measure => simp [intOf]; omega
      · have h1b : (op == 1) = false := by simpa using h1
        have h1c : (op != 1) = true := by simpa using h1
        go_wp2_with fail
        go_roundw
        case rel => exact ⟨k + 1, s, P, by omega, by go_num, rfl, HG.out, HN.out, HOK.out, by omega, by omega, by omega⟩
        case measure => simp [intOf]; omega
    · have hke : k = acts.length := by omega
      subst hke
      go_wp2_with fail
      refine (wait_any w.heap.size g 1 4 s (cutS (fun _ => false) a b) P _ HN.out (by omega)).mono ?_
      rintro en _ ⟨u, y7, rfl, rfl, L', ho7, hd7⟩
      have hl7 : L'.length = P.length := hd7.len
      obtain ⟨AU, cU, rfl⟩ := own_shape ho7
      have HRW := hid (Row.of_own (L := L') ho7)
      have HDT := hid hd7
      have H7 := hid (HN.out.gr y7.gr)
      have G7 := hid (HG.out.ext y7)
      have HL7 := hid hl7
      have hlp : L'.length ≤ 200 := by omega
      clear ho7 hd7 hl7
      go_wp2_with fail
      go_loopw [14] (fun i wr2 => ∃ j : Nat, j ≤ L'.length ∧ i = .int .i64 j ∧ Gr y7.val wr2) (fun i _ => L'.length - (intOf i).toNat)
      case atStart => exact ⟨0, Nat.zero_le _, rfl, Gr.refl _⟩
      case round =>
        obtain ⟨j, hj, rfl, hg2⟩ := hrel
        have HG2 := hid hg2
        clear hg2
        by_cases hlt2 : j < L'.length
        · go_upto_region 23 with fail
          go_cut [174] from 117 to 174 (fun s wx => s = .bool false ∧ ∃ z : Ext wr, wx = z.val)
          case first =>
            have hab2 := HAB.out
            have hjp : j < P.length := by have := HL7.out; omega
            have hmem : P.getD j p0 ∈ P := by simp [List.getD, hjp]
            have hne := HOK.out.apart _ hmem
            obtain ⟨o1, o2, o3, _⟩ := HDT.out.get j hlt2
            obtain ⟨bb2, off2, eA, hb2, u0, u1, u2, _⟩ := (HRW.out.gr HG2.out).at_ hlt2
            rw [o1] at u0
            rw [o2] at u1
            rw [o3] at u2
            rcases j with _ | m
            · obtain ⟨⟨f, t, q, bs⟩, hp⟩ : ∃ p, P.getD 0 p0 = p := ⟨_, rfl⟩
              rw [hp] at u0 u1 u2 hne
              simp only at u0 u1 u2 hne
              have hpq : ¬ ((f = a ∧ t = b) ∨ (f = b ∧ t = a)) := fun h => hne ((pr_eq f t a b).2 h)
              subst eA
              simp only [Nat.zero_mul, Nat.add_zero] at u0 u1 u2
              clear hne hp o1 o2 o3 hmem hjp
              by_cases e1 : f = a
              · have q1 : (f == a) = true := by simp [e1]
                have q2 : (t == b) = false := by rw [beq_eq_false_iff_ne]; omega
                have q3 : (f == b) = false := by rw [beq_eq_false_iff_ne]; omega
                clear e1 hpq hab2
                refine wp_region_ext (by kernel_rfl) (by kernel_rfl) ?_
                repeat (go_big_quiet_step (fail))
                refine wpQuiet_nil ?_
                rintro _ ⟨z, rfl⟩
                go_wp2_with fail
                go_meet
                exact ⟨rfl, z, rfl⟩
              · have q1 : (f == a) = false := by rw [beq_eq_false_iff_ne]; exact e1
                by_cases e3 : f = b
                · have q3 : (f == b) = true := by simp [e3]
                  have q4 : (t == a) = false := by rw [beq_eq_false_iff_ne]; omega
                  clear e1 e3 hpq hab2
                  refine wp_region_ext (by kernel_rfl) (by kernel_rfl) ?_
                  repeat (go_big_quiet_step (fail))
                  refine wpQuiet_nil ?_
                  rintro _ ⟨z, rfl⟩
                  go_wp2_with fail
                  go_meet
                  exact ⟨rfl, z, rfl⟩
                · have q3 : (f == b) = false := by rw [beq_eq_false_iff_ne]; exact e3
                  clear e1 e3 hpq hab2
                  refine wp_region_ext (by kernel_rfl) (by kernel_rfl) ?_
                  repeat (go_big_quiet_step (fail))
                  refine wpQuiet_nil ?_
                  rintro _ ⟨z, rfl⟩
                  go_wp2_with fail
                  go_meet
                  exact ⟨rfl, z, rfl⟩
            · obtain ⟨_, _, o3', _⟩ := HDT.out.get m (by omega)
              obtain ⟨bb3, off3, eA3, _, _, _, v2, _⟩ := (HRW.out.gr HG2.out).at_ (i := m) (by omega)
              rw [eA] at eA3
              injection eA3 with eA3
              injection eA3 with ea3 eo3 _
              subst ea3 eo3
              rw [o3'] at v2
              have hlt9 : (P.getD m p0).2.2.1 < (P.getD (m + 1) p0).2.2.1 := by
                have hmp : m < P.length := by omega
                have := List.pairwise_iff_getElem.1 HOK.out.rise m (m + 1) hmp hjp (by omega)
                simpa [List.getD, hmp, hjp] using this
              obtain ⟨⟨f, t, q, bs⟩, hp⟩ : ∃ p, P.getD (m + 1) p0 = p := ⟨_, rfl⟩
              rw [hp] at u0 u1 u2 hne hlt9
              simp only at u0 u1 u2 hne hlt9
              generalize (P.getD m p0).2.2.1 = q' at *
              have hpq : ¬ ((f = a ∧ t = b) ∨ (f = b ∧ t = a)) := fun h => hne ((pr_eq f t a b).2 h)
              have hqq : ¬ q ≤ q' := by omega
              have hqd : decide (q ≤ q') = false := decide_eq_false hqq
              have hm1 : (0 : Int) < (m : Int) + 1 := by omega
              have hml : m < L'.length := by omega
              have hmz : (m : Int) < (L'.length : Int) := by omega
              subst eA
              clear hne hp o1 o2 o3 o3' hmem hjp hlt9 hqq
              by_cases e1 : f = a
              · have q1 : (f == a) = true := by simp [e1]
                have q2 : (t == b) = false := by rw [beq_eq_false_iff_ne]; omega
                have q3 : (f == b) = false := by rw [beq_eq_false_iff_ne]; omega
                clear e1 hpq hab2
                refine wp_region_ext (by kernel_rfl) (by kernel_rfl) ?_
                repeat (go_big_quiet_step (fail))
                refine wpQuiet_nil ?_
                rintro _ ⟨z, rfl⟩
                go_wp2_with fail
                go_meet
                exact ⟨rfl, z, rfl⟩
              · have q1 : (f == a) = false := by rw [beq_eq_false_iff_ne]; exact e1
                by_cases e3 : f = b
                · have q3 : (f == b) = true := by simp [e3]
                  have q4 : (t == a) = false := by rw [beq_eq_false_iff_ne]; omega
                  clear e1 e3 hpq hab2
                  refine wp_region_ext (by kernel_rfl) (by kernel_rfl) ?_
                  repeat (go_big_quiet_step (fail))
                  refine wpQuiet_nil ?_
                  rintro _ ⟨z, rfl⟩
                  go_wp2_with fail
                  go_meet
                  exact ⟨rfl, z, rfl⟩
                · have q3 : (f == b) = false := by rw [beq_eq_false_iff_ne]; exact e3
                  clear e1 e3 hpq hab2
                  refine wp_region_ext (by kernel_rfl) (by kernel_rfl) ?_
                  repeat (go_big_quiet_step (fail))
                  refine wpQuiet_nil ?_
                  rintro _ ⟨z, rfl⟩
                  go_wp2_with fail
                  go_meet
                  exact ⟨rfl, z, rfl⟩
          case rest =>
            obtain ⟨rfl, z, rfl⟩ := hcut
            go_wp2_with fail
            go_roundw
            case rel => exact ⟨j + 1, by omega, by go_num, HG2.out.ext z⟩
            case measure => simp [intOf]; omega
        · obtain rfl : j = L'.length := by omega
          have H8 := hid (H7.out.gr HG2.out)
          have G8 := hid (G7.out.trans HG2.out)
          go_wp2_with fail
          go_loopw [15, 16] (fun u i wr3 => ∃ cc : Nat, cc ≤ 4 ∧ i = .int .i64 cc ∧ u = .int .i64 ((P.length : Int) - (toF P cc).length) ∧ Gr w wr3 ∧ Nt w.heap.size wr3 g 4 s 1 (cutS (fun _ => false) a b) (toF P cc)) (fun _ i _ => 4 - (intOf i).toNat)
          case atStart => exact ⟨0, by omega, rfl, by rw [toF_zero HOK.out.dst]; simp, G8.out, by rw [toF_zero HOK.out.dst]; exact H8.out⟩
          case round =>
            obtain ⟨cc, hcc, rfl, rfl, hg3, hn3⟩ := hrel
            have HG3 := hid hg3
            have HN3 := hid hn3
            clear hg3 hn3
            have hle := toF_le P cc
            by_cases hlt3 : cc < 4
            · have hC := hid (clear_any w.heap.size g 1 4 s cc (cutS (fun _ => false) a b) (toF P cc) _ HN3.out (by omega))
              rw [toF_succ] at hC
              have hle2 := toF_mono P cc
              have hci : (cc : Int) < 4 := by omega
              go_wp2_with (go_at_call 15; refine hC.out.mono ?_; rintro en w4 ⟨rfl, h4, m4⟩; have H4 := hid h4; have G4 := hid (m4.gr (Nat.le_refl _) HG3.out); clear h4 m4)
              go_roundw
              case rel => exact ⟨cc + 1, by omega, by go_num, by go_num, G4.out, H4.out⟩
              case measure => simp [intOf]; omega
            · obtain rfl : cc = 4 := by omega
              rw [toF_four HOK.out.dst] at HN3
              have hWT := hid (wait_any w.heap.size g 1 4 s (cutS (fun _ => false) a b) [] _ HN3.out (by simp))
              have hz4 : ((P.length : Int) - ((toF P 4).length : Int)) = (P.length : Int) := by rw [toF_four HOK.out.dst]; simp
              have e7 := HL7.out
              clear hle
              rw [hz4, e7]
              clear hz4 e7
              go_wp2_with (go_at_call 11
                           refine hWT.out.mono ?_
                           rintro en _ ⟨u, y9, rfl, rfl, L9, ho9, hd9⟩
                           obtain rfl : L9 = [] := List.eq_nil_of_length_eq_zero hd9.len
                           obtain ⟨A9, c9, rfl⟩ := own_shape ho9
                           clear ho9 hd9)
              go_ret
              exact ⟨by simp, HG3.out.ext y9⟩
end Go.Proofs.Ytlencagfkajcnaa
