import Derived.Test.YtkgmienjioplaaaD8
import Derived.Test.YtkgmienjioplaaaPlan
namespace Go.Proofs.Ytkgmienjioplaaa
open Go.RowKit Go.Ext Go.BigFrame
attribute [local go_sem] Ext.cell Ext.frozen Ext.lt Ext.le s1 s2 s3 s4 s5 s6 t1 t2 t3 t4 t5 t6
attribute [local go_sem ↓] Go.wp_at_zero Go.wp_at_succ

set_option maxRecDepth 100000 in
set_option maxHeartbeats 4000000 in
theorem outlasts_any (A B C : Option Addr) (c d e : Nat) (L M : List ActM) (ks : List Bool) (w : World) (hA : Acts w A L) (hB : Acts w B M) (hk : Bls w C ks) (hLl : L.length ≤ 4398046511000) (hMl : M.length ≤ 4398046511000) (hkl : ks.length ≤ 140737488351232) :
    Calls Try.prog 5 #[.slice A L.length c, .slice B M.length d, .slice C ks.length e] w (RetE (.bool true) w) := by
  refine retE ?_
  have KN := hid (known_any w)
  have HA := hid hA
  have HB := hid hB
  have HC := hid hk
  have F1 := hid (fun (y : Ext w) => few_any A c L y.val (hA.gr y.gr) hLl)
  have F2 := hid (fun (W : World) (g : Gr w W) => few_any B d M W (hB.gr g) hMl)
  clear hA hB hk
  obtain ⟨n, hn⟩ : ∃ n, L.length = n := ⟨_, rfl⟩
  obtain ⟨m, hm⟩ : ∃ m, M.length = m := ⟨_, rfl⟩
  obtain ⟨q, hq⟩ : ∃ q, ks.length = q := ⟨_, rfl⟩
  have HN := hid hn
  have HM := hid hm
  have HQ := hid hq
  rw [hn] at hLl F1 ⊢
  rw [hm] at hMl F2 ⊢
  rw [hq] at hkl ⊢
  clear hn hm hq
  go_enter Try.func5, Try.ntmps5
  go_wp2_with (go_at_call 8; (with_reducible refine KN.out.mono ?_); rintro e _ ⟨rfl, y0, rfl⟩)
  go_at_call 17
  refine (F1.out y0).mono ?_
  rintro e w1 ⟨b1, rfl, hb1, hg1⟩
  have G1 := hid (y0.gr.trans hg1)
  clear hg1
  cases b1
  · go_wp2_with fail
    go_ret
    exact ⟨rfl, G1.out⟩
  have hb1' := hb1 rfl
  clear hb1
  go_wp2_with fail
  go_at_call 17
  refine (F2.out w1 G1.out).mono ?_
  rintro e w2 ⟨b2, rfl, hb2, hg2⟩
  have G2 := hid (G1.out.trans hg2)
  clear hg2
  cases b2
  · go_wp2_with fail
    go_ret
    exact ⟨rfl, G2.out⟩
  have hb2' := hb2 rfl
  clear hb2
  by_cases hq1 : 1000 < q
  · go_wp2_with fail
    go_ret
    exact ⟨rfl, G2.out⟩
  have N := hid (show Calls Try.prog 9 #[.int .i64 8, .int .i64 64] w2 _ from new_dsk w.heap.size 8 64 w2 G2.out.size (by omega) (by omega) (by omega) (by omega))
  go_wp2_with (go_at_call 9; (with_reducible refine N.out.mono ?_); rintro e w3 ⟨g, kb, rfl, hd, hgr⟩; have HD := hid hd; have G3 := hid (G2.out.trans hgr); clear hd hgr)
  go_loopw [9] (fun i wr => ∃ j : Nat, j ≤ n ∧ i = .int .i64 j ∧ (∃ x : Int, 0 ≤ x ∧ x ≤ j + 1000 ∧ Dsk w.heap.size wr g kb false 0 [] 8 64 (List.replicate (8 * 64) 0) (PW 8 64 L j) x) ∧ Kp (TK kb) w.heap.size w wr) (fun i _ => n - (intOf i).toNat)
  case atStart => exact ⟨0, Nat.zero_le _, rfl, ⟨0, by omega, by omega, HD.out⟩, G3.out.kp⟩
  case round =>
    obtain ⟨j, hj, rfl, ⟨x, hx0, hxj, hd⟩, hk⟩ := hrel
    have HDJ := hid hd
    have HKW := hid hk
    have HKJ := hid (show Kp (TK kb) w.heap.size w wr from hk)
    have hkb := hd.klt
    clear hd hk
    by_cases hlt : j < n
    · have hjL : j < L.length := by rw [HN.out]; exact hlt
      obtain ⟨bA, oA, D, vb, vc, K', vk, vkc, rfl, hbA0, k0, k1, k2, k3, k4, k5, hby, hbl⟩ := HA.out j hjL
      obtain ⟨a, ha⟩ : ∃ a, L[j] = a := ⟨_, rfl⟩
      rw [ha] at k0 k1 k2 k4 hby
      have hbA : bA < wr.heap.size := Nat.lt_of_lt_of_le hbA0 HKJ.out.gr.size
      have hcw := fun o => HKJ.out.gr.cell (p := ⟨bA, o, none⟩) hbA0
      have h0 := (hcw _).trans k0
      have h1 := (hcw _).trans k1
      have h2 := (hcw _).trans k2
      have h3 := (hcw _).trans k3
      have h4 := (hcw _).trans k4
      have h5 := (hcw _).trans k5
      clear hcw
      have HBY := hid (hby.gr HKJ.out.gr)
      have HLJ := hid ha
      clear hby hbl ha
      go_wp2_with fail
      go_region_held3 (fun w' => w'.cell? ⟨bA, oA + j * 6, none⟩ = some (.int .i64 a.op) ∧ w'.cell? ⟨bA, oA + j * 6 + 1, none⟩ = some (.int .i64 a.sector) ∧ w'.cell? ⟨bA, oA + j * 6 + 2, none⟩ = some (.int .u8 (a.fill.toNat : Int)) ∧ w'.cell? ⟨bA, oA + j * 6 + 3, none⟩ = some (.slice D vb vc) ∧ w'.cell? ⟨bA, oA + j * 6 + 4, none⟩ = some (.int .i64 a.n) ∧ w'.cell? ⟨bA, oA + j * 6 + 5, none⟩ = some (.slice K' vk vkc)) (first | go_keep | (refine ⟨?_, ?_, ?_, ?_, ?_, ?_⟩ <;> (rw [hS7]; assumption)) | (refine ⟨?_, ?_, ?_, ?_, ?_, ?_⟩ <;> go_simp; done))
        (first
          | (go_at_call 18
             refine (calls_grC (w0 := wr) (Gr.refl _).drew (data_any wr wr.drew kb 64 a D K' vb vc vk vkc (Gr.refl _).drew HBY.out hkb (by omega) (by omega))).mono ?_
             rintro e _ ⟨v6, y6, rfl, rfl, hv6⟩
             obtain ⟨D6, n6, rfl⟩ : ∃ D6 n6, v6 = .slice D6 (dataF a 64).length n6 := by obtain ⟨A', c'', e, _⟩ := hv6; exact ⟨A', c'', e⟩)
          | (go_at_call 10
             refine (write_any0 a.sector _ _ _ _ (HDJ.out.gr y6.gr) (Byt.bts hv6) (by have := PW_len 8 64 L j (by omega); omega) hx0 (by omega)).mono ?_
             rintro e w7 ⟨⟨r7, rfl⟩, hd7, hk7⟩
             have hS7 := fun o => ((HKJ.out.trans y6.gr.kp).trans hk7).gr.cell (p := ⟨bA, o, none⟩) hbA0))
      have HD7 := hid (show Dsk w.heap.size w7 g kb false 0 [] 8 64 (List.replicate (8 * 64) 0) (PW 8 64 L (j + 1)) _ from by rw [PW_succ 8 64 L j hjL, HLJ.out]; exact hd7)
      have HK7 := hid ((HKW.out.trans y6.gr.kp).trans hk7)
      have hel := entOf_len 8 64 a.sector (dataF a 64)
      clear hd7 hk7 hS7 hv6
      go_wp2_with fail
      go_roundw
      case rel => exact ⟨j + 1, by omega, by go_num, ⟨_, by omega, by omega, HD7.out⟩, HK7.out⟩
      case measure => simp [intOf]; omega
    · have hje : n = j := by omega
      subst hje
      have hPl := PW_len 8 64 L n (by rw [HN.out]; omega)
      go_wp2_with fail
      go_at_call 15
      refine (show Calls Try.prog 15 #[.pointer (some ⟨g, 0, none⟩)] wr (fun e w' => e = .returned (.int .i64 0) ∧ Dsk w.heap.size w' g kb false 0 [] 8 64 (layF 64 (fun _ => true) (List.replicate (8 * 64) 0) (PW 8 64 L n) (PW 8 64 L n).length) [] x ∧ Kp (TK kb) w.heap.size wr w') from sync_dsk HDJ.out).mono ?_
      rintro e w4 ⟨rfl, hd4, hk4⟩
      obtain ⟨K1, hK1⟩ : ∃ K1, layF 64 (fun _ => true) (List.replicate (8 * 64) 0) (PW 8 64 L n) (PW 8 64 L n).length = K1 := ⟨_, rfl⟩
      rw [hK1] at hd4
      have HD4 := hid hd4
      have HK4 := hid (HKJ.out.trans hk4)
      have hK1l := hid (show K1.length = 8 * 64 from by obtain ⟨_, _, d1, _⟩ := hd4; exact d1.size)
      have CB := hid (show Calls Try.prog 16 #[.pointer (some ⟨g, 0, none⟩)] w4 _ from (by obtain ⟨_, _, d1, _⟩ := hd4; exact bytes_any d1))
      clear hK1 hd4 hk4
      go_wp2_with (go_at_call 16; refine CB.out.mono ?_; rintro e _ ⟨v5, y5, rfl, rfl, hv5, ho5⟩)
      obtain ⟨qw, cw, rfl, hcw⟩ : ∃ qw cw, v5 = .slice (some ⟨qw, 0, none⟩) 512 cw ∧ 512 ≤ cw := by
        have hl := hK1l.out
        rcases ho5.2 with ⟨_, h0⟩ | ⟨q', cap, cur, hv, _, _, hc, _⟩
        · omega
        · exact ⟨q', cap, by rw [hv, hl], by omega⟩
      have HV5 := hid hv5
      have HK5 := hid (HK4.out.trans y5.gr.kp)
      have HD5 := hid (HD4.out.gr y5.gr)
      clear hv5 ho5
      go_loopw [11] (fun i wr => ∃ j : Nat, j ≤ m ∧ i = .int .i64 j ∧ (∃ x : Int, 0 ≤ x ∧ x ≤ j + 10000 ∧ Dsk w.heap.size wr g kb false 0 [] 8 64 K1 (PW 8 64 M j) x) ∧ Kp (TK kb) w.heap.size y5.val wr) (fun i _ => m - (intOf i).toNat)
      case atStart => exact ⟨0, Nat.zero_le _, rfl, ⟨x, hx0, by omega, HD5.out⟩, Kp.refl _ _ _⟩
      case round =>
        obtain ⟨j, hj, rfl, ⟨x, hx0, hxj, hd⟩, hk⟩ := hrel
        have HDJ := hid hd
        have HKW := hid hk
        have HKJ := hid (show Kp (TK kb) w.heap.size w wr from HK5.out.trans hk)
        have hkb := hd.klt
        clear hd hk
        by_cases hlt : j < m
        · have hjL : j < M.length := by rw [HM.out]; exact hlt
          obtain ⟨bA, oA, D, vb, vc, K', vk, vkc, rfl, hbA0, k0, k1, k2, k3, k4, k5, hby, hbl⟩ := HB.out j hjL
          obtain ⟨a, ha⟩ : ∃ a, M[j] = a := ⟨_, rfl⟩
          rw [ha] at k0 k1 k2 k4 hby
          have hbA : bA < wr.heap.size := Nat.lt_of_lt_of_le hbA0 HKJ.out.gr.size
          have hcw := fun o => HKJ.out.gr.cell (p := ⟨bA, o, none⟩) hbA0
          have h0 := (hcw _).trans k0
          have h1 := (hcw _).trans k1
          have h2 := (hcw _).trans k2
          have h3 := (hcw _).trans k3
          have h4 := (hcw _).trans k4
          have h5 := (hcw _).trans k5
          clear hcw
          have HBY := hid (hby.gr HKJ.out.gr)
          have HLJ := hid ha
          clear hby hbl ha
          go_wp2_with fail
          go_region_held3 (fun w' => w'.cell? ⟨bA, oA + j * 6, none⟩ = some (.int .i64 a.op) ∧ w'.cell? ⟨bA, oA + j * 6 + 1, none⟩ = some (.int .i64 a.sector) ∧ w'.cell? ⟨bA, oA + j * 6 + 2, none⟩ = some (.int .u8 (a.fill.toNat : Int)) ∧ w'.cell? ⟨bA, oA + j * 6 + 3, none⟩ = some (.slice D vb vc) ∧ w'.cell? ⟨bA, oA + j * 6 + 4, none⟩ = some (.int .i64 a.n) ∧ w'.cell? ⟨bA, oA + j * 6 + 5, none⟩ = some (.slice K' vk vkc)) (first | go_keep | (refine ⟨?_, ?_, ?_, ?_, ?_, ?_⟩ <;> (rw [hS7]; assumption)) | (refine ⟨?_, ?_, ?_, ?_, ?_, ?_⟩ <;> go_simp; done))
            (first
              | (go_at_call 18
                 refine (calls_grC (w0 := wr) (Gr.refl _).drew (data_any wr wr.drew kb 64 a D K' vb vc vk vkc (Gr.refl _).drew HBY.out hkb (by omega) (by omega))).mono ?_
                 rintro e _ ⟨v6, y6, rfl, rfl, hv6⟩
                 obtain ⟨D6, n6, rfl⟩ : ∃ D6 n6, v6 = .slice D6 (dataF a 64).length n6 := by obtain ⟨A', c'', e, _⟩ := hv6; exact ⟨A', c'', e⟩)
              | (go_at_call 10
                 refine (write_any0 a.sector _ _ _ _ (HDJ.out.gr y6.gr) (Byt.bts hv6) (by have := PW_len 8 64 M j (by omega); omega) hx0 (by omega)).mono ?_
                 rintro e w7 ⟨⟨r7, rfl⟩, hd7, hk7⟩
                 have hS7 := fun o => ((HKJ.out.trans y6.gr.kp).trans hk7).gr.cell (p := ⟨bA, o, none⟩) hbA0))
          have HD7 := hid (show Dsk w.heap.size w7 g kb false 0 [] 8 64 K1 (PW 8 64 M (j + 1)) _ from by rw [PW_succ 8 64 M j hjL, HLJ.out]; exact hd7)
          have HK7 := hid ((HKW.out.trans y6.gr.kp).trans hk7)
          have hel := entOf_len 8 64 a.sector (dataF a 64)
          clear hd7 hk7 hS7 hv6
          go_wp2_with fail
          go_roundw
          case rel => exact ⟨j + 1, by omega, by go_num, ⟨_, by omega, by omega, HD7.out⟩, HK7.out⟩
          case measure => simp [intOf]; omega
        · have hje : m = j := by omega
          subst hje
          go_wp2_with fail
          go_at_call 11
          refine (cut_dsk C e q ks HDJ.out (Rd.gr HC.out HKJ.out.gr) HQ.out (fun hne b o e => by have := Bls.lt HC.out hne b o e; obtain ⟨_, _, d1, _⟩ := HDJ.out; have := d1.lk; omega)).mono ?_
          rintro e w8 ⟨rfl, hd8, hk8⟩
          obtain ⟨K2, hK2⟩ : ∃ K2, layF 64 (fun j => ks.getD j false) K1 (PW 8 64 M m) (PW 8 64 M m).length = K2 := ⟨_, rfl⟩
          rw [hK2] at hd8
          have eK2 : layF 64 (fun j => ks.getD j false) K1 (PW 8 64 M M.length) (PW 8 64 M M.length).length = K2 := by rw [HM.out]; exact hK2
          have OL0 := fun s => outlasts_law M (fun j => ks.getD j false) K1 s hK1l.out
          rw [eK2] at OL0
          have OL := hid OL0
          clear OL0 eK2
          have HD8 := hid hd8
          have HK8 := hid (HKW.out.trans hk8)
          clear hd8 hk8 hK2
          go_wp2_with fail
          go_at_call 12
          refine (on_dsk HD8.out).mono ?_
          rintro e w9 ⟨rfl, hd9, hk9⟩
          have HD9 := hid hd9
          have HK9 := hid (HK8.out.trans hk9)
          have HKA := hid (HK5.out.trans HK9.out)
          have HV9 := hid (HV5.out.kp HK9.out)
          clear hd9 hk9
          go_wp2_with fail
          go_loopw [12] (fun i wr => ∃ s : Nat, s ≤ 8 ∧ i = .int .i64 s ∧ Gr w9 wr) (fun i _ => 8 - (intOf i).toNat)
          case atStart => exact ⟨0, Nat.zero_le _, rfl, Gr.refl _⟩
          case round =>
            obtain ⟨s, hs, rfl, hg⟩ := hrel
            have HGW := hid hg
            clear hg
            by_cases hlt : s < 8
            · have RD := read_sec s (by omega) HD9.out _ rfl
              have hl2 : (sec 64 K2 s).length = 64 := by
                have : K2.length = 8 * 64 := by obtain ⟨_, _, d1, _⟩ := HD9.out; exact d1.size
                simp [sec]; omega
              obtain ⟨X, hX⟩ : ∃ X, sec 64 K2 s = X := ⟨_, rfl⟩
              have HX := hid hX
              rw [hX] at RD hl2
              clear hX
              go_wp2_with (go_at_call 13; refine (RD.out _ HGW.out).mono ?_; rintro e _ ⟨v, rfl, hv, y7, rfl⟩; obtain ⟨Dv, nv, rfl⟩ : ∃ Dv nv, v = .slice Dv 64 nv := (by obtain ⟨A', c'', e, _⟩ := hv; exact ⟨A', c'', by rw [← hl2]; exact e⟩); have HV7 := hid hv; clear hv)
              have q1 := fun x : Ext y7.val => conv_bts (Byt.bts (Byt.kp HV7.out x.gr.kp))
              have q2 := fun x : Ext y7.val => conv_bts (Bts.sec (s := s) (sz := 64) (m := (s + 1) * 64 - s * 64) (c' := cw - s * 64) (Byt.bts (Byt.kp HV9.out (y7.gr.trans x.gr).kp)) (by rw [hK1l.out]; omega) (by omega) (by omega))
              obtain ⟨Y, hY⟩ : ∃ Y, sec 64 K1 s = Y := ⟨_, rfl⟩
              have HY := hid hY
              rw [hY] at q2
              clear hY
              refine wp_region_ext (by kernel_rfl) (by kernel_rfl) ?_
              repeat (go_big_quiet_step (fail))
              refine wpQuiet_nil ?_
              rintro _ ⟨x9, rfl⟩
              go_wp2_with fail
              obtain ⟨b0, hb0⟩ : ∃ b0, ((sb X).toList == (sb Y).toList) = b0 := ⟨_, rfl⟩
              have HB0 := hid (show X = Y → b0 = true from fun e => by rw [← hb0, e]; exact beq_self_eq_true _)
              rw [hb0]
              clear hb0 q1 q2
              have HG9 := hid ((HKA.out.gr.trans y7.gr).trans x9.gr)
              go_loopw [15, 16] (fun ok i wr => ∃ j : Nat, j ≤ m ∧ i = .int .i64 j ∧ (∃ b : Bool, ok = .bool b ∧ (X = Y → b = true) ∧ (∀ i, (hi : i < M.length) → i < j → M[i].sector = (s : Int) → dataF M[i] 64 = X → b = true)) ∧ Gr x9.val wr) (fun _ i _ => m - (intOf i).toNat)
              case atStart => exact ⟨0, Nat.zero_le _, rfl, ⟨b0, rfl, HB0.out, fun i hi h => absurd h (by omega)⟩, Gr.refl _⟩
              case round =>
                obtain ⟨j, hj, rfl, ⟨b, rfl, hb1, hb2⟩, hg⟩ := hrel
                have HGV := hid hg
                have HGX := hid (HG9.out.trans hg)
                have HBX := hid hb1
                have HBJ := hid hb2
                clear hg hb1 hb2
                by_cases hlt2 : j < m
                · have hjL : j < M.length := by rw [HM.out]; exact hlt2
                  obtain ⟨bA, oA, D, vb, vc, K', vk, vkc, rfl, hbA0, k0, k1, k2, k3, k4, k5, hby, hbl⟩ := HB.out j hjL
                  obtain ⟨a, ha⟩ : ∃ a, M[j] = a := ⟨_, rfl⟩
                  rw [ha] at k0 k1 k2 k4 hby
                  have hgw := HGX.out
                  have hbA : bA < wr.heap.size := Nat.lt_of_lt_of_le hbA0 hgw.size
                  have hcw2 := fun o => hgw.cell (p := ⟨bA, o, none⟩) hbA0
                  have h0 := (hcw2 _).trans k0
                  have h1 := (hcw2 _).trans k1
                  have h2 := (hcw2 _).trans k2
                  have h3 := (hcw2 _).trans k3
                  have h4 := (hcw2 _).trans k4
                  have h5 := (hcw2 _).trans k5
                  clear hcw2
                  have HBY := hid (hby.gr hgw)
                  have HLJ := hid ha
                  clear hby hbl ha hgw k0 k1 k2 k3 k4 k5
                  cases b
                  · by_cases hsj : a.sector = (s : Int)
                    · have hsj' : (a.sector == (s : Int)) = true := by simpa using hsj
                      have HSJ := hid hsj
                      clear hsj
                      have hkb9 : kb < wr.heap.size := by have := HD9.out.klt; have := y7.gr.size; have := x9.gr.size; have := HGV.out.size; omega
                      have qk := fun (W : World) (g : Gr wr W) => conv_bts (Byt.bts (Byt.kp HV7.out ((x9.gr.trans HGV.out).trans g).kp))
                      go_wp2_with fail
                      refine wp_region_noPanic ?_
                      refine wp_region_plan ((List.range 14).map (·, false) ++ [(16, false), (17, false), (14, true), (15, false), (18, false), (19, false), (20, false), (21, false)]) (fun w' => w'.cell? ⟨bA, oA + j * 6, none⟩ = some (.int .i64 a.op) ∧ w'.cell? ⟨bA, oA + j * 6 + 1, none⟩ = some (.int .i64 a.sector) ∧ w'.cell? ⟨bA, oA + j * 6 + 2, none⟩ = some (.int .u8 (a.fill.toNat : Int)) ∧ w'.cell? ⟨bA, oA + j * 6 + 3, none⟩ = some (.slice D vb vc) ∧ w'.cell? ⟨bA, oA + j * 6 + 4, none⟩ = some (.int .i64 a.n) ∧ w'.cell? ⟨bA, oA + j * 6 + 5, none⟩ = some (.slice K' vk vkc) ∧ (convert 22 9 (.slice Dv 64 nv)).run Try.prog w' = .ok (.string (sb X)) w') (by kernel_rfl) (by kernel_rfl) (fun _ _ _ _ _ h => h) (by refine ⟨?_, ?_, ?_, ?_, ?_, ?_, qk _ (Gr.refl _).drew⟩ <;> go_simp; done) (fun hHeld => ?_)
                      have e14 : (List.range 14).map (fun i => (i, false)) = [(0, false), (1, false), (2, false), (3, false), (4, false), (5, false), (6, false), (7, false), (8, false), (9, false), (10, false), (11, false), (12, false), (13, false)] := rfl
                      rw [e14]
                      simp only [List.cons_append, List.nil_append]
                      iterate 16 (refine pl_take (v := ?_) rfl (by rfl) ?_ ?_; rotate_left; (focus (intro W9 hW9; (try dsimp only at hW9); go_simp; (try with_reducible rfl); done)); (try simp only [Act.put, List.setIfInBounds_toArray, List.set_cons_zero, List.set_cons_succ]))
                      refine pl_call rfl (by rfl) (fun K hK => ?_)
                      go_simp
                      go_at_call 18
                      refine (calls_grC (w0 := wr) (Gr.refl _).drew (data_any wr wr.drew kb 64 a D K' vb vc vk vkc (Gr.refl _).drew HBY.out hkb9 (by omega) (by omega))).mono ?_
                      rintro e _ ⟨v6, y6, rfl, rfl, hv6⟩
                      obtain ⟨D6, n6, rfl⟩ : ∃ D6 n6, v6 = .slice D6 (dataF a 64).length n6 := by obtain ⟨A', c'', e, _⟩ := hv6; exact ⟨A', c'', e⟩
                      have q9 := conv_bts (Byt.bts hv6)
                      refine hK.out (fun W => W = y6.val) _ _ rfl (fun W e => by subst e; refine ⟨?_, ?_, ?_, ?_, ?_, ?_, qk _ y6.gr⟩ <;> go_simp; done) (fun _ => ?_)
                      (try simp only [Act.put, List.setIfInBounds_toArray, List.set_cons_zero, List.set_cons_succ])
                      iterate 5 (refine pl_take (v := ?_) rfl (by rfl) ?_ ?_; rotate_left; (focus (intro W9 hW9; subst hW9; go_simp; (try with_reducible rfl); done)); (try simp only [Act.put, List.setIfInBounds_toArray, List.set_cons_zero, List.set_cons_succ]))
                      refine pl_done (NoPanic.normal ?_)
                      all_goals (
                        obtain ⟨b1, hb1⟩ : ∃ b1, ((sb (dataF a 64)).toList == (sb X).toList) = b1 := ⟨_, rfl⟩
                        have HB1 := hid (show dataF a 64 = X → b1 = true from fun e => by rw [← hb1, e]; exact beq_self_eq_true _)
                        rw [hb1]
                        clear hb1 q9 qk hv6
                        go_wp2_with fail
                        go_roundw
                        case rel => exact ⟨j + 1, by omega, by go_num, ⟨b1, rfl, fun e => (by have := HBX.out e; cases this), fun i hi hij e1 e2 => by
                          by_cases e : i = j
                          · subst e
                            rw [HLJ.out] at e2
                            exact HB1.out e2
                          · have := HBJ.out i hi (by omega) e1 e2
                            cases this⟩, HGV.out.trans y6.gr⟩
                        case measure => simp [intOf]; omega)
                    · have hsj' : (a.sector == (s : Int)) = false := by simpa using hsj
                      have HSJ := hid hsj
                      clear hsj
                      go_wp2_with fail
                      refine wp_region_ext (by kernel_rfl) (by kernel_rfl) ?_
                      repeat (go_big_quiet_step (fail))
                      refine wpQuiet_nil ?_
                      rintro _ ⟨x8, rfl⟩
                      go_wp2_with fail
                      go_roundw
                      case rel => exact ⟨j + 1, by omega, by go_num, ⟨false, rfl, HBX.out, fun i hi hij e1 e2 => by
                        by_cases e : i = j
                        · subst e
                          rw [HLJ.out] at e1
                          exact absurd e1 HSJ.out
                        · exact HBJ.out i hi (by omega) e1 e2⟩, HGV.out.trans x8.gr⟩
                      case measure => simp [intOf]; omega
                  · go_wp2_with fail
                    refine wp_region_ext (by kernel_rfl) (by kernel_rfl) ?_
                    repeat (go_big_quiet_step (fail))
                    refine wpQuiet_nil ?_
                    rintro _ ⟨x8, rfl⟩
                    go_wp2_with fail
                    go_roundw
                    case rel => exact ⟨j + 1, by omega, by go_num, ⟨true, rfl, fun _ => rfl, fun _ _ _ _ _ => rfl⟩, HGV.out.trans x8.gr⟩
                    case measure => simp [intOf]; omega
                · have hje : m = j := by omega
                  subst hje
                  obtain rfl : b = true := by
                    rcases OL.out s with h | ⟨i, hi, h1, h2⟩
                    · exact HBX.out (by rw [← HX.out, ← HY.out]; exact h)
                    · exact HBJ.out i hi (by rw [← HM.out]; exact hi) h1 (h2.trans HX.out)
                  go_wp2_with fail
                  go_roundw
                  case rel => exact ⟨s + 1, by omega, by go_num, ((y7.gr.trans x9.gr).trans HGV.out)⟩
                  case measure => simp [intOf]; omega
            · have hse : s = 8 := by omega
              subst hse
              have CP := pending_gr HD9.out
              go_wp2_with (go_at_call 19; refine (CP.out _ HGW.out).mono ?_; rintro e _ ⟨rfl, y7, rfl⟩)
              go_ret
              exact ⟨rfl, HKA.out.gr.trans y7.gr⟩
end Go.Proofs.Ytkgmienjioplaaa
