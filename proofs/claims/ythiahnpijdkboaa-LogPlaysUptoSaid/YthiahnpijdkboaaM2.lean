import Derived.Test.YthiahnpijdkboaaM1
namespace Go.Proofs.Ythiahnpijdkboaa
open Go.RowKit Go.Ext Go.BigFrame
attribute [local go_sem] Ext.cell Ext.frozen Ext.lt Ext.le s1 s2 s3 s4 s5 s6 t1 t2 t3 t4 t5 t6
attribute [local go_sem ↓] Go.wp_at_zero Go.wp_at_succ

/-- A slice of integers. -/
def Ints (w : World) (A : Option Addr) (n : Nat) : Prop := ∀ j, j < n → ∃ b off z, A = some ⟨b, off, none⟩ ∧ w.cell? ⟨b, off + j, none⟩ = some (.int .i64 z) ∧ b < w.heap.size ∧ -9223372036854775808 ≤ z ∧ z ≤ 9223372036854775807
theorem Ints.gr {w w' : World} {A : Option Addr} {n : Nat} (h : Ints w A n) (g : Gr w w') : Ints w' A n := fun j hj => by
  obtain ⟨b, off, z, e, h1, h2, h3⟩ := h j hj
  exact ⟨b, off, z, e, (g.cell (p := ⟨b, off + j, none⟩) h2).trans h1, Nat.lt_of_lt_of_le h2 g.size, h3⟩

theorem RefAt.mod {base g gr : Nat} {idx term : Int} {L : List Ent} {v : Value} {w w' : World} {cs : Array Value} (h : RefAt base w gr idx term L v) (m : Mod (fun b => b = g) w w') (hg : w.heap[g]? = some (.cells cs 65 (0, 0))) (hlo : base ≤ g) : RefAt base w' gr idx term L v := by
  have hlt := h.lt
  have hne : gr ≠ g := fun e => by subst e; have := h.blk; rw [hg] at this; injection this with this; injection this with _ ht _; cases ht
  have hk : Kp TB base w w' := m.kp (by
    rintro k rfl ⟨_, h1 | ⟨cs', t, fz, h1, h2⟩⟩
    · omega
    · rw [hg] at h1
      injection h1 with h1
      injection h1 with _ ht _
      subst ht
      cases h2)
  obtain ⟨ys, h1, h2⟩ := h.row
  refine ⟨(m.block gr hlt hne).trans h.blk, h.lo, ⟨ys, ⟨h1.1, ?_⟩, h2.kp hk⟩, h.i0, h.i1, h.len⟩
  rcases h1.2 with h3 | ⟨g', cap, cur, hv, hb, hh, r⟩
  · exact .inl h3
  · have hne' : g' ≠ g := fun e => by subst e; rw [hg] at hh; injection hh with hh; injection hh with _ ht _; cases ht
    exact .inr ⟨g', cap, cur, hv, hb, (m.block g' (Array.getElem?_eq_some_iff.1 hh).1 hne').trans hh, r⟩

theorem tmod_nat (z : Int) (n : Nat) : ∃ q : Nat, q ≤ n ∧ (z.tmod ((n : Int) + 1) = q ∨ (z.tmod ((n : Int) + 1) = -(q : Int) ∧ 0 < q)) := by
  have h1 := Int.natAbs_tmod z ((n : Int) + 1)
  have h2 : z.natAbs % ((n : Int) + 1).natAbs < ((n : Int) + 1).natAbs := Nat.mod_lt _ (by omega)
  rw [← h1] at h2
  refine ⟨(z.tmod ((n : Int) + 1)).natAbs, by omega, ?_⟩
  rcases Int.natAbs_eq (z.tmod ((n : Int) + 1)) with h | h <;> omega
theorem sl_take {base : Nat} {w : World} {A : Option Addr} {L : List Ent} (h : Sl base w A L) (m : Nat) : Sl base w A (L.take m) := by
  obtain ⟨xs, h1, h2⟩ := h
  rcases Nat.le_total m L.length with hm | hm
  · exact ⟨_, rd_take h1, h2.take m hm⟩
  · rw [List.take_of_length_le hm]
    exact ⟨xs, h1, h2⟩

theorem get_one (base g k : Nat) (G : List Ent) (v : Value) (w : World) (h : LogAt base w g 0 0 G v) (hk : k < G.length) (hb : base ≤ w.heap.size) :
    Calls Try.prog 18 #[.pointer (some ⟨g, 0, none⟩), .int .i64 ((k : Int) + 1), .int .i64 ((k : Int) + 2)] w (RetP (fun w' v => OwnE base w.heap.size w' v [G.getD k (0, [])]) w) := by
  have := get_any base g 0 0 ((k : Int) + 1) ((k : Int) + 2) G v w h hb
  have e := getL_one (L := G) (k := 0) (j := k + 1) (by omega) (by omega)
  rw [List.drop_zero, show ((0 : Nat) : Int) = 0 from rfl, show ((k + 1 : Nat) : Int) = (k : Int) + 1 by omega, show (k : Int) + 1 + 1 = (k : Int) + 2 by omega] at e
  rw [e] at this
  exact this

theorem mt_of {G : List Ent} {k : Nat} (h : k < G.length) : mtB 0 0 G ((k : Int) + 1) (G.getD k (0, [])).1 = true := by
  unfold mtB tmB tmT
  rw [decide_eq_true (by omega), if_neg (by omega), if_pos (by omega)]
  have : ((k : Int) + 1 - 0 - 1).toNat = k := by omega
  rw [this]
  simp

/-- What holds from round to round. -/
def Inv (base g gr : Nat) (M T : List Ent) (vR : Value) (w5 w : World) : Prop :=
  Mod (fun b => b = g) w5 w ∧ RefAt base w gr 0 0 T vR ∧ ∃ G v, LogAt base w g 0 0 G v ∧ Mixed M T G

theorem inv_step {base g gr : Nat} {M T G G' : List Ent} {vR vG v' : Value} {w5 wr wa wb wc : World} (h1 : Mod (fun b => b = g) w5 wr) (hR : RefAt base wr gr 0 0 T vR) (hL : LogAt base wr g 0 0 G vG) (k1 : Gr wr wa) (m : Mod (fun b => b = g) wa wb) (hL' : LogAt base wb g 0 0 G' v') (hmx : Mixed M T G') (k2 : Gr wb wc) : Inv base g gr M T vR w5 wc :=
  ⟨((h1.gr k1).trans m (fun _ _ h => h)).gr k2, ((hR.gr k1).mod m (hL.gr k1).blk hL.lo).gr k2, G', v', hL'.gr k2, hmx⟩

set_option maxRecDepth 100000 in
set_option maxHeartbeats 4000000 in
theorem merges_true (A B C : Option Addr) (c d n e : Nat) (M T : List Ent) (w : World) (hs : Sl w.heap.size w A M) (ht : Sl w.heap.size w B T) (hC : Ints w C n) (hl : M.length ≤ 4398046511000) (hm' : T.length ≤ 4398046511000) (hd : T.length ≤ d) (hB : B = none → d = 0) (hn : n ≤ 17592186044416) :
    Calls Try.prog 4 #[.slice A M.length c, .slice B T.length d, .slice C n e] w (RetE (.bool true) w) := by
  refine retE ?_
  obtain ⟨base, hbase⟩ : ∃ b, w.heap.size = b := ⟨_, rfl⟩
  rw [hbase] at hs ht
  have hb : base ≤ w.heap.size := by omega
  have HL := hid hs
  have HM := hid ht
  have HC := hid hC
  clear hs ht hC
  go_enter Try.func4, Try.ntmps4
  go_wp2_with (go_at_call 8; (with_reducible refine (known_any w).mono ?_); rintro e _ ⟨rfl, y0, rfl⟩)
  go_at_call 9
  refine (few_nil base A c M y0.val (HL.out.gr y0.gr) (by omega)).mono ?_
  rintro e _ ⟨b1, rfl, rfl⟩
  cases b1
  · go_wp2_with fail
    go_ret
    exact ⟨rfl, y0.gr⟩
  go_wp2_with fail
  go_at_call 9
  refine (few_nil base B d T y0.val (HM.out.gr y0.gr) (by omega)).mono ?_
  rintro e _ ⟨b2, rfl, rfl⟩
  cases b2
  · go_wp2_with fail
    go_ret
    exact ⟨rfl, y0.gr⟩
  by_cases hc : 100 < n
  · go_wp2_with fail
    go_ret
    exact ⟨rfl, y0.gr⟩
  have hb0 : base ≤ y0.val.heap.size := Nat.le_trans hb y0.gr.size
  by_cases h1 : NewOk 0 0 M
  · go_wp2_with (go_at_call 10; (with_reducible refine (new_ok base 0 0 A c M y0.val (HL.out.gr y0.gr) (by omega) h1 (by decide) hb0).mono ?_); rintro e _ ⟨g, v, y1, rfl, rfl, hl1, hg1⟩; have HG1 := hid hl1; clear hl1)
    go_at_call 14
    refine (of_any base B d T y1.val ((HM.out.gr y0.gr).gr y1.gr) (by omega) (Nat.le_trans hb0 y1.gr.size)).mono ?_
    rintro e _ ⟨vo, y2, rfl, rfl, ho⟩
    obtain ⟨Ao, co, rfl, hso, _⟩ := ho.shape
    have HSO := hid hso
    clear ho hso
    by_cases h2 : NewOk 0 0 T
    · go_wp2_with (go_at_call 13; (with_reducible refine (newR_ok base 0 0 Ao co T y2.val HSO.out (by omega) h2 (by decide) (Nat.le_trans (Nat.le_trans hb0 y1.gr.size) y2.gr.size)).mono ?_); rintro e _ ⟨gr, vR, y3, rfl, rfl, hl3, hg3⟩; have HR3 := hid hl3; clear hl3)
      have hgw := HG1.out.lt
      have HG := hid (show Gr w y3.val from y0.gr.trans (y1.gr.trans (y2.gr.trans y3.gr)))
      have HGB := hid (show y3.val.heap[g]? = some (.cells #[.int .i64 0, .int .i64 0, v] 65 (0, 0)) from (HG1.out.gr (y2.gr.trans y3.gr)).blk)
      have hgb : base ≤ g := HG1.out.lo
      have hgb2 : w.heap.size ≤ g := by have := y0.gr.size; omega
      have HINV := hid (show Inv base g gr M T vR y3.val y3.val from ⟨(Gr.refl _).mod _, HR3.out, M, v, HG1.out.gr (y2.gr.trans y3.gr), fun k hk => .inl ⟨hk, rfl⟩⟩)
      go_loopw [11, 12, 13, 14, 15, 16, 17, 18, 19, 20, 21] (fun i _ _ _ _ _ _ _ _ _ _ wr => ∃ j : Nat, j ≤ n ∧ i = .int .i64 j ∧ Hid (Inv base g gr M T vR y3.val wr)) (fun i _ _ _ _ _ _ _ _ _ _ _ => n - (intOf i).toNat)
      case atStart => exact ⟨0, Nat.zero_le _, rfl, HINV⟩
      case round =>
        obtain ⟨j, hj, rfl, HI⟩ := hrel
        have GW := hid (show Gr w wr from gr_mod HG.out HI.out.1 (by rintro k rfl; exact hgb2))
        by_cases hlt : j < n
        · obtain ⟨bc, oc, z, rfl, z1, z2, z3, z4⟩ := (HC.out.gr GW.out) j hlt
          obtain ⟨hw1, hw2, G, vG, hw3, hw4⟩ := HI.out
          have HR := hid hw2
          have HLG := hid hw3
          have HMX := hid hw4
          have HW1 := hid hw1
          have hbr : base ≤ wr.heap.size := Nat.le_trans hb GW.out.size
          clear hw1 hw2 hw3 hw4 HI
          obtain ⟨q, hq, hz⟩ := tmod_nat z T.length
          have HTm := hid (show tmB 0 T.length q = true from decide_eq_true (by omega))
          have CT := hid ((termR_any base gr 0 0 q T vR wr HR.out (by omega)).mono (R' := RetE (.tuple #[.int .i64 (tmT 0 0 T q), .bool true]) wr) (fun _ _ h => by rwa [HTm.out] at h))
          by_cases hT0 : T = []
          · have hT1 : T.length ≤ 0 := by rw [hT0]; simp
            have hq0 : q = 0 := by omega
            subst hq0
            have ht0 : tmT 0 0 T (0 : Nat) = 0 := by unfold tmT; simp
            have hmt0 : mtB 0 0 G (0 : Nat) (tmT 0 0 T (0 : Nat)) = true := by
              rw [ht0]
              unfold mtB tmB tmT
              rw [decide_eq_true (by simp)]
              simp
            have CM := fun (W : World) (hW : Gr wr W) => hid (show Calls Try.prog 16 #[.pointer (some ⟨g, 0, none⟩), .int .i64 0, .int .i64 0] W (RetE (.bool true) W) from (by have := (match_any base g 0 0 (0 : Nat) (tmT 0 0 T (0 : Nat)) G vG W (HLG.out.gr hW) (by omega)).mono (R' := RetE (.bool true) W) (fun _ _ h => by rwa [hmt0] at h); rw [ht0] at this; exact this))
            have CG := fun (X : Option Addr) (n' c' : Nat) (W : World) (hW : Gr wr W) (hn : n' = 0) =>
              hid (show Calls Try.prog 17 #[.pointer (some ⟨g, 0, none⟩), .int .i64 0, .slice X n' c'] W (RetG base g M T 0 0 W) from merge_mix base g 0 0 n' M T G vG X c' W (HLG.out.gr hW) HMX.out h2 hm' (by omega) hmt0 ⟨[], Rd.nil _ _, by rw [List.take_zero]; exact ents_nil _ _⟩ (fun h => absurd h (by omega)) hn (by omega) (Nat.le_trans hbr hW.size))
            have CT' := hid (show Calls Try.prog 15 #[.pointer (some ⟨gr, 0, none⟩), .int .i64 0] wr (RetE (.tuple #[.int .i64 0, .bool true]) wr) from by have := CT.out; rw [ht0] at this; exact this)
            have hz' : z.tmod ((T.length : Int) + 1) = 0 := by omega
            clear hmt0 ht0 CT hz HTm hT0
            rcases B with _ | ⟨bB, oB, sB⟩
            · have hd0 := hB rfl
              subst hd0
              go_wp2_with (first | (go_at_call 15; (with_reducible refine CT'.out.mono ?_); rintro e _ ⟨rfl, y4, rfl⟩) | (go_at_call 16; (with_reducible refine (CM y4.val y4.gr).out.mono ?_); rintro e _ ⟨rfl, y5, rfl⟩))
              go_at_call 17
              refine (CG _ _ _ y5.val (y4.gr.trans y5.gr) (by omega)).out.mono ?_
              rintro e w6 ⟨f6, more6, G6, v6, rfl, hl6, hx6, _, hm6⟩
              have HI6 := hid fun (W : World) (hW : Gr w6 W) => inv_step (v' := v6) HW1.out HR.out HLG.out (y4.gr.trans y5.gr) hm6 hl6 hx6 hW
              clear hl6 hx6 hm6 CG CM CT'
              go_wp2_with fail
              go_loopw [20, 21] (fun i _ wr => ∃ k : Nat, k ≤ 0 ∧ i = .int .i64 k ∧ Gr w6 wr) (fun i _ _ => 0 - (intOf i).toNat)
              case atStart => exact ⟨0, by omega, rfl, Gr.refl _⟩
              case round =>
                obtain ⟨k, hk2, rfl, hg⟩ := hrel
                have HG6 := hid hg
                clear hg
                go_wp2_with fail
                go_roundw
                case rel => exact ⟨j + 1, by omega, by go_num, hid (HI6.out _ HG6.out)⟩
                case measure => simp [intOf]; omega
            · go_wp2_with (first | (go_at_call 15; (with_reducible refine CT'.out.mono ?_); rintro e _ ⟨rfl, y4, rfl⟩) | (go_at_call 16; (with_reducible refine (CM y4.val y4.gr).out.mono ?_); rintro e _ ⟨rfl, y5, rfl⟩))
              go_at_call 17
              refine (CG _ _ _ y5.val (y4.gr.trans y5.gr) (by omega)).out.mono ?_
              rintro e w6 ⟨f6, more6, G6, v6, rfl, hl6, hx6, _, hm6⟩
              have HI6 := hid fun (W : World) (hW : Gr w6 W) => inv_step (v' := v6) HW1.out HR.out HLG.out (y4.gr.trans y5.gr) hm6 hl6 hx6 hW
              clear hl6 hx6 hm6 CG CM CT'
              go_wp2_with fail
              go_loopw [20, 21] (fun i _ wr => ∃ k : Nat, k ≤ 0 ∧ i = .int .i64 k ∧ Gr w6 wr) (fun i _ _ => 0 - (intOf i).toNat)
              case atStart => exact ⟨0, by omega, rfl, Gr.refl _⟩
              case round =>
                obtain ⟨k, hk2, rfl, hg⟩ := hrel
                have HG6 := hid hg
                clear hg
                go_wp2_with fail
                go_roundw
                case rel => exact ⟨j + 1, by omega, by go_num, hid (HI6.out _ HG6.out)⟩
                case measure => simp [intOf]; omega
          obtain ⟨bB, oB, rfl, hBg⟩ : ∃ bB oB, B = some ⟨bB, oB, none⟩ ∧ bB ≠ g := by
            obtain ⟨b, off, D, c', e, _, _, _, h4⟩ := HM.out.at_ (i := 0) (List.length_pos_iff.2 hT0)
            exact ⟨b, off, e, fun e2 => by omega⟩
          obtain ⟨ad, had, hsl⟩ : ∃ ad : Addr, (if d = q then some ⟨bB, oB, none⟩ else some ⟨bB, oB + q * 2, none⟩) = some ad ∧ Sl base w (some ad) (T.drop q) ∧ ad.block = bB := by
            by_cases e : d = q
            · rw [if_pos e]
              refine ⟨_, rfl, ?_, rfl⟩
              rw [List.drop_eq_nil_of_le (by omega)]
              exact ⟨[], Rd.nil _ _, ents_nil _ _⟩
            · rw [if_neg e]
              exact ⟨_, rfl, HM.out.drop q, rfl⟩
          have HSL := hid hsl
          clear hsl
          have CM := fun (W : World) (hW : Gr wr W) => hid (match_any base g 0 0 q (tmT 0 0 T q) G vG W (HLG.out.gr hW) (by omega))
          have CG := fun (m n' : Nat) (W : World) (hW : Gr wr W) (hm : q + m ≤ T.length) (hn : n' = m) (hmt : mtB 0 0 G q (tmT 0 0 T q) = true) =>
            hid (merge_mix base g q m n' M T G vG (some ad) (d - q) W (HLG.out.gr hW) HMX.out h2 hm' hm hmt (sl_take ((HSL.out.1.gr GW.out).gr hW) m) (fun _ b off e => by injection e with e; have h := HSL.out.2; rw [e] at h; intro e2; exact hBg (h.symm.trans e2)) hn (by omega) (Nat.le_trans hbr hW.size))
          obtain ⟨mb, hmb⟩ : ∃ mb, mtB 0 0 G q (tmT 0 0 T q) = mb := ⟨_, rfl⟩
          rw [hmb] at CM
          have HMB := hid hmb
          clear hmb HTm
          generalize tmT 0 0 T q = tq at *
          cases mb
          · rcases hz with hz | ⟨hz, hz0⟩
            all_goals (
              by_cases h3 : q + 3 ≤ T.length)
            all_goals (
              go_wp2_with (first | (go_at_call 15; (with_reducible refine CT.out.mono ?_); rintro e _ ⟨rfl, y4, rfl⟩) | (go_at_call 16; (with_reducible refine (CM y4.val y4.gr).out.mono ?_); rintro e _ ⟨rfl, y5, rfl⟩))
              go_roundw
              case rel => exact ⟨j + 1, by omega, by go_num, hid ⟨HW1.out.gr (y4.gr.trans y5.gr), HR.out.gr (y4.gr.trans y5.gr), G, vG, HLG.out.gr (y4.gr.trans y5.gr), HMX.out⟩⟩
              case measure => simp [intOf]; omega)
          · rcases hz with hz | ⟨hz, hz0⟩
            · by_cases h3 : q + 3 ≤ T.length
              · skip
                go_wp2_with (first | (go_at_call 15; (with_reducible refine CT.out.mono ?_); rintro e _ ⟨rfl, y4, rfl⟩) | (go_at_call 16; (with_reducible refine (CM y4.val y4.gr).out.mono ?_); rintro e _ ⟨rfl, y5, rfl⟩))
                go_at_call 17
                refine (CG (3) _ y5.val (y4.gr.trans y5.gr) (by omega) rfl HMB.out).out.mono ?_
                rintro e w6 ⟨f6, more6, G6, v6, rfl, hl6, hx6, ht6, hm6⟩
                have HL6 := hid hl6
                have HX6 := hid hx6
                have HT6 := hid ht6
                have HI6 := hid fun (W : World) (hW : Gr w6 W) => inv_step (v' := v6) HW1.out HR.out HLG.out (y4.gr.trans y5.gr) hm6 hl6 hx6 hW
                have G66 := hid (show Gr w w6 from gr_mod (GW.out.trans (y4.gr.trans y5.gr)) hm6 (by rintro k rfl; exact hgb2))
                clear hl6 hx6 ht6 hm6 CG CM CT
                have hb6 : base ≤ w6.heap.size := Nat.le_trans hb G66.out.size
                have hPT : q + 3 ≤ T.length := by omega
                go_wp2_with fail
                go_loopw [20, 21] (fun i _ wr => ∃ k : Nat, q ≤ k ∧ k ≤ q + 3 ∧ i = .int .i64 k ∧ Gr w6 wr) (fun i _ _ => q + 3 - (intOf i).toNat)
                case atStart => exact ⟨q, Nat.le_refl _, by omega, rfl, Gr.refl _⟩
                case round =>
                  obtain ⟨k, hk1, hk2, rfl, hg⟩ := hrel
                  have HG6 := hid hg
                  clear hg
                  by_cases hkP : k < q + 3
                  · obtain ⟨t1, t2⟩ := HT6.out k hk1 (by omega)
                    have CGet := hid (get_one base g k G6 v6 wr (HL6.out.gr HG6.out) t1 (Nat.le_trans hb6 HG6.out.size))
                    obtain ⟨⟨tk, tb⟩, htk⟩ : ∃ e, T.getD k (0, []) = e := ⟨_, rfl⟩
                    obtain ⟨⟨gk, gb⟩, hgk⟩ : ∃ e, G6.getD k (0, []) = e := ⟨_, rfl⟩
                    rw [htk, hgk] at t2
                    simp only at t2
                    subst t2
                    rw [hgk] at CGet
                    have HTK := hid htk
                    have HGK := hid hgk
                    clear htk hgk
                    have hk9 : k < T.length := by omega
                    go_wp2_with (go_at_call 18; (with_reducible refine CGet.out.mono ?_); rintro e _ ⟨_, y7, rfl, rfl, ho⟩; obtain ⟨gx, cx, D1, k1, rfl, x1, x2, x3, x4⟩ := own_one ho; clear ho)
                    obtain ⟨b', off', D, c', eB, d1, d2, d3, d4⟩ := (HM.out.gr (G66.out.trans (HG6.out.trans y7.gr))).at_ (i := k) hk9
                    injection eB with eB
                    injection eB with eB1 eB2
                    subst eB1 eB2
                    rw [HTK.out] at d1 d2 d3
                    have q1 := fun x : Ext y7.val => conv_ext x4 x
                    have q2 := fun x : Ext y7.val => conv_ext d3 x
                    clear x4 d3
                    by_cases hsb : ((sb gb).toList == (sb tb).toList) = true
                    · generalize sb gb = s1 at *
                      generalize sb tb = s2 at *
                      refine wp_region_ext (by kernel_rfl) (by kernel_rfl) ?_
                      repeat (go_big_quiet_step (fail))
                      refine wpQuiet_nil ?_
                      rintro _ ⟨x, rfl⟩
                      go_wp2_with fail
                      go_roundw
                      case rel => exact ⟨k + 1, by omega, by omega, by go_num, HG6.out.trans (y7.gr.trans x.gr)⟩
                      case measure => simp [intOf]; omega
                    · have hmine : k < M.length ∧ M.getD k (0, []) = (gk, gb) := by
                        rcases HX6.out k t1 with ⟨m1, m2⟩ | ⟨_, m2⟩
                        · exact ⟨m1, by rw [← m2, HGK.out]⟩
                        · rw [HGK.out, HTK.out] at m2
                          injection m2 with _ m2
                          exact absurd (by rw [m2]; simp) hsb
                      have CMt := fun (W : World) (hW : Gr wr W) => hid ((match_any base g 0 0 ((k : Int) + 1) gk G6 v6 W (HL6.out.gr (HG6.out.trans hW)) (by omega)).mono (R' := RetE (.bool true) W) (fun _ _ h => by
                        have e := mt_of (G := G6) t1
                        rw [HGK.out] at e
                        rwa [e] at h))
                      have CFr := fun (W : World) (hW : Gr wr W) => hid ((fresh_any base k gk A c M W (HL.out.gr (G66.out.trans (HG6.out.trans hW))) (by omega)).mono (R' := RetE (.bool false) W) (fun _ _ h => by
                        have e : (decide (M.length ≤ k) || (M.getD k (0, [])).1 != gk) = false := by
                          rw [hmine.2, decide_eq_false (by omega)]
                          simp
                        rwa [e] at h))
                      generalize sb gb = s1 at *
                      generalize sb tb = s2 at *
                      have hs1 : (s1.toList == s2.toList) = false := by simpa using hsb
                      clear hsb
                      clear hmine
                      refine wp_region_ext (by kernel_rfl) (by kernel_rfl) ?_
                      repeat (go_big_quiet_step (first | (go_at_call 16; rename_i x; exact calls_ext _ (CMt _ (y7.gr.trans (Ext.gr _))).out) | (go_at_call 19; rename_i x; exact calls_ext _ (CFr _ (y7.gr.trans (Ext.gr _))).out)))
                      refine wpQuiet_nil ?_
                      rintro _ ⟨x, rfl⟩
                      go_wp2_with fail
                      go_roundw
                      case rel => exact ⟨k + 1, by omega, by omega, by go_num, HG6.out.trans (y7.gr.trans x.gr)⟩
                      case measure => simp [intOf]; omega
                  · go_wp2_with fail
                    go_roundw
                    case rel => exact ⟨j + 1, by omega, by go_num, hid (HI6.out _ HG6.out)⟩
                    case measure => simp [intOf]; omega
              · skip
                go_wp2_with (first | (go_at_call 15; (with_reducible refine CT.out.mono ?_); rintro e _ ⟨rfl, y4, rfl⟩) | (go_at_call 16; (with_reducible refine (CM y4.val y4.gr).out.mono ?_); rintro e _ ⟨rfl, y5, rfl⟩))
                go_at_call 17
                refine (CG (T.length - q) _ y5.val (y4.gr.trans y5.gr) (by omega) rfl HMB.out).out.mono ?_
                rintro e w6 ⟨f6, more6, G6, v6, rfl, hl6, hx6, ht6, hm6⟩
                have HL6 := hid hl6
                have HX6 := hid hx6
                have HT6 := hid ht6
                have HI6 := hid fun (W : World) (hW : Gr w6 W) => inv_step (v' := v6) HW1.out HR.out HLG.out (y4.gr.trans y5.gr) hm6 hl6 hx6 hW
                have G66 := hid (show Gr w w6 from gr_mod (GW.out.trans (y4.gr.trans y5.gr)) hm6 (by rintro k rfl; exact hgb2))
                clear hl6 hx6 ht6 hm6 CG CM CT
                have hb6 : base ≤ w6.heap.size := Nat.le_trans hb G66.out.size
                have hPT : T.length ≤ T.length := by omega
                go_wp2_with fail
                go_loopw [20, 21] (fun i _ wr => ∃ k : Nat, q ≤ k ∧ k ≤ T.length ∧ i = .int .i64 k ∧ Gr w6 wr) (fun i _ _ => T.length - (intOf i).toNat)
                case atStart => exact ⟨q, Nat.le_refl _, by omega, rfl, Gr.refl _⟩
                case round =>
                  obtain ⟨k, hk1, hk2, rfl, hg⟩ := hrel
                  have HG6 := hid hg
                  clear hg
                  by_cases hkP : k < T.length
                  · obtain ⟨t1, t2⟩ := HT6.out k hk1 (by omega)
                    have CGet := hid (get_one base g k G6 v6 wr (HL6.out.gr HG6.out) t1 (Nat.le_trans hb6 HG6.out.size))
                    obtain ⟨⟨tk, tb⟩, htk⟩ : ∃ e, T.getD k (0, []) = e := ⟨_, rfl⟩
                    obtain ⟨⟨gk, gb⟩, hgk⟩ : ∃ e, G6.getD k (0, []) = e := ⟨_, rfl⟩
                    rw [htk, hgk] at t2
                    simp only at t2
                    subst t2
                    rw [hgk] at CGet
                    have HTK := hid htk
                    have HGK := hid hgk
                    clear htk hgk
                    have hk9 : k < T.length := by omega
                    go_wp2_with (go_at_call 18; (with_reducible refine CGet.out.mono ?_); rintro e _ ⟨_, y7, rfl, rfl, ho⟩; obtain ⟨gx, cx, D1, k1, rfl, x1, x2, x3, x4⟩ := own_one ho; clear ho)
                    obtain ⟨b', off', D, c', eB, d1, d2, d3, d4⟩ := (HM.out.gr (G66.out.trans (HG6.out.trans y7.gr))).at_ (i := k) hk9
                    injection eB with eB
                    injection eB with eB1 eB2
                    subst eB1 eB2
                    rw [HTK.out] at d1 d2 d3
                    have q1 := fun x : Ext y7.val => conv_ext x4 x
                    have q2 := fun x : Ext y7.val => conv_ext d3 x
                    clear x4 d3
                    by_cases hsb : ((sb gb).toList == (sb tb).toList) = true
                    · generalize sb gb = s1 at *
                      generalize sb tb = s2 at *
                      refine wp_region_ext (by kernel_rfl) (by kernel_rfl) ?_
                      repeat (go_big_quiet_step (fail))
                      refine wpQuiet_nil ?_
                      rintro _ ⟨x, rfl⟩
                      go_wp2_with fail
                      go_roundw
                      case rel => exact ⟨k + 1, by omega, by omega, by go_num, HG6.out.trans (y7.gr.trans x.gr)⟩
                      case measure => simp [intOf]; omega
                    · have hmine : k < M.length ∧ M.getD k (0, []) = (gk, gb) := by
                        rcases HX6.out k t1 with ⟨m1, m2⟩ | ⟨_, m2⟩
                        · exact ⟨m1, by rw [← m2, HGK.out]⟩
                        · rw [HGK.out, HTK.out] at m2
                          injection m2 with _ m2
                          exact absurd (by rw [m2]; simp) hsb
                      have CMt := fun (W : World) (hW : Gr wr W) => hid ((match_any base g 0 0 ((k : Int) + 1) gk G6 v6 W (HL6.out.gr (HG6.out.trans hW)) (by omega)).mono (R' := RetE (.bool true) W) (fun _ _ h => by
                        have e := mt_of (G := G6) t1
                        rw [HGK.out] at e
                        rwa [e] at h))
                      have CFr := fun (W : World) (hW : Gr wr W) => hid ((fresh_any base k gk A c M W (HL.out.gr (G66.out.trans (HG6.out.trans hW))) (by omega)).mono (R' := RetE (.bool false) W) (fun _ _ h => by
                        have e : (decide (M.length ≤ k) || (M.getD k (0, [])).1 != gk) = false := by
                          rw [hmine.2, decide_eq_false (by omega)]
                          simp
                        rwa [e] at h))
                      generalize sb gb = s1 at *
                      generalize sb tb = s2 at *
                      have hs1 : (s1.toList == s2.toList) = false := by simpa using hsb
                      clear hsb
                      clear hmine
                      refine wp_region_ext (by kernel_rfl) (by kernel_rfl) ?_
                      repeat (go_big_quiet_step (first | (go_at_call 16; rename_i x; exact calls_ext _ (CMt _ (y7.gr.trans (Ext.gr _))).out) | (go_at_call 19; rename_i x; exact calls_ext _ (CFr _ (y7.gr.trans (Ext.gr _))).out)))
                      refine wpQuiet_nil ?_
                      rintro _ ⟨x, rfl⟩
                      go_wp2_with fail
                      go_roundw
                      case rel => exact ⟨k + 1, by omega, by omega, by go_num, HG6.out.trans (y7.gr.trans x.gr)⟩
                      case measure => simp [intOf]; omega
                  · go_wp2_with fail
                    go_roundw
                    case rel => exact ⟨j + 1, by omega, by go_num, hid (HI6.out _ HG6.out)⟩
                    case measure => simp [intOf]; omega
            · by_cases h3 : q + 3 ≤ T.length
              · skip
                go_wp2_with (first | (go_at_call 15; (with_reducible refine CT.out.mono ?_); rintro e _ ⟨rfl, y4, rfl⟩) | (go_at_call 16; (with_reducible refine (CM y4.val y4.gr).out.mono ?_); rintro e _ ⟨rfl, y5, rfl⟩))
                go_at_call 17
                refine (CG (3) _ y5.val (y4.gr.trans y5.gr) (by omega) rfl HMB.out).out.mono ?_
                rintro e w6 ⟨f6, more6, G6, v6, rfl, hl6, hx6, ht6, hm6⟩
                have HL6 := hid hl6
                have HX6 := hid hx6
                have HT6 := hid ht6
                have HI6 := hid fun (W : World) (hW : Gr w6 W) => inv_step (v' := v6) HW1.out HR.out HLG.out (y4.gr.trans y5.gr) hm6 hl6 hx6 hW
                have G66 := hid (show Gr w w6 from gr_mod (GW.out.trans (y4.gr.trans y5.gr)) hm6 (by rintro k rfl; exact hgb2))
                clear hl6 hx6 ht6 hm6 CG CM CT
                have hb6 : base ≤ w6.heap.size := Nat.le_trans hb G66.out.size
                have hPT : q + 3 ≤ T.length := by omega
                go_wp2_with fail
                go_loopw [20, 21] (fun i _ wr => ∃ k : Nat, q ≤ k ∧ k ≤ q + 3 ∧ i = .int .i64 k ∧ Gr w6 wr) (fun i _ _ => q + 3 - (intOf i).toNat)
                case atStart => exact ⟨q, Nat.le_refl _, by omega, rfl, Gr.refl _⟩
                case round =>
                  obtain ⟨k, hk1, hk2, rfl, hg⟩ := hrel
                  have HG6 := hid hg
                  clear hg
                  by_cases hkP : k < q + 3
                  · obtain ⟨t1, t2⟩ := HT6.out k hk1 (by omega)
                    have CGet := hid (get_one base g k G6 v6 wr (HL6.out.gr HG6.out) t1 (Nat.le_trans hb6 HG6.out.size))
                    obtain ⟨⟨tk, tb⟩, htk⟩ : ∃ e, T.getD k (0, []) = e := ⟨_, rfl⟩
                    obtain ⟨⟨gk, gb⟩, hgk⟩ : ∃ e, G6.getD k (0, []) = e := ⟨_, rfl⟩
                    rw [htk, hgk] at t2
                    simp only at t2
                    subst t2
                    rw [hgk] at CGet
                    have HTK := hid htk
                    have HGK := hid hgk
                    clear htk hgk
                    have hk9 : k < T.length := by omega
                    go_wp2_with (go_at_call 18; (with_reducible refine CGet.out.mono ?_); rintro e _ ⟨_, y7, rfl, rfl, ho⟩; obtain ⟨gx, cx, D1, k1, rfl, x1, x2, x3, x4⟩ := own_one ho; clear ho)
                    obtain ⟨b', off', D, c', eB, d1, d2, d3, d4⟩ := (HM.out.gr (G66.out.trans (HG6.out.trans y7.gr))).at_ (i := k) hk9
                    injection eB with eB
                    injection eB with eB1 eB2
                    subst eB1 eB2
                    rw [HTK.out] at d1 d2 d3
                    have q1 := fun x : Ext y7.val => conv_ext x4 x
                    have q2 := fun x : Ext y7.val => conv_ext d3 x
                    clear x4 d3
                    by_cases hsb : ((sb gb).toList == (sb tb).toList) = true
                    · generalize sb gb = s1 at *
                      generalize sb tb = s2 at *
                      refine wp_region_ext (by kernel_rfl) (by kernel_rfl) ?_
                      repeat (go_big_quiet_step (fail))
                      refine wpQuiet_nil ?_
                      rintro _ ⟨x, rfl⟩
                      go_wp2_with fail
                      go_roundw
                      case rel => exact ⟨k + 1, by omega, by omega, by go_num, HG6.out.trans (y7.gr.trans x.gr)⟩
                      case measure => simp [intOf]; omega
                    · have hmine : k < M.length ∧ M.getD k (0, []) = (gk, gb) := by
                        rcases HX6.out k t1 with ⟨m1, m2⟩ | ⟨_, m2⟩
                        · exact ⟨m1, by rw [← m2, HGK.out]⟩
                        · rw [HGK.out, HTK.out] at m2
                          injection m2 with _ m2
                          exact absurd (by rw [m2]; simp) hsb
                      have CMt := fun (W : World) (hW : Gr wr W) => hid ((match_any base g 0 0 ((k : Int) + 1) gk G6 v6 W (HL6.out.gr (HG6.out.trans hW)) (by omega)).mono (R' := RetE (.bool true) W) (fun _ _ h => by
                        have e := mt_of (G := G6) t1
                        rw [HGK.out] at e
                        rwa [e] at h))
                      have CFr := fun (W : World) (hW : Gr wr W) => hid ((fresh_any base k gk A c M W (HL.out.gr (G66.out.trans (HG6.out.trans hW))) (by omega)).mono (R' := RetE (.bool false) W) (fun _ _ h => by
                        have e : (decide (M.length ≤ k) || (M.getD k (0, [])).1 != gk) = false := by
                          rw [hmine.2, decide_eq_false (by omega)]
                          simp
                        rwa [e] at h))
                      generalize sb gb = s1 at *
                      generalize sb tb = s2 at *
                      have hs1 : (s1.toList == s2.toList) = false := by simpa using hsb
                      clear hsb
                      clear hmine
                      refine wp_region_ext (by kernel_rfl) (by kernel_rfl) ?_
                      repeat (go_big_quiet_step (first | (go_at_call 16; rename_i x; exact calls_ext _ (CMt _ (y7.gr.trans (Ext.gr _))).out) | (go_at_call 19; rename_i x; exact calls_ext _ (CFr _ (y7.gr.trans (Ext.gr _))).out)))
                      refine wpQuiet_nil ?_
                      rintro _ ⟨x, rfl⟩
                      go_wp2_with fail
                      go_roundw
                      case rel => exact ⟨k + 1, by omega, by omega, by go_num, HG6.out.trans (y7.gr.trans x.gr)⟩
                      case measure => simp [intOf]; omega
                  · go_wp2_with fail
                    go_roundw
                    case rel => exact ⟨j + 1, by omega, by go_num, hid (HI6.out _ HG6.out)⟩
                    case measure => simp [intOf]; omega
              · skip
                go_wp2_with (first | (go_at_call 15; (with_reducible refine CT.out.mono ?_); rintro e _ ⟨rfl, y4, rfl⟩) | (go_at_call 16; (with_reducible refine (CM y4.val y4.gr).out.mono ?_); rintro e _ ⟨rfl, y5, rfl⟩))
                go_at_call 17
                refine (CG (T.length - q) _ y5.val (y4.gr.trans y5.gr) (by omega) rfl HMB.out).out.mono ?_
                rintro e w6 ⟨f6, more6, G6, v6, rfl, hl6, hx6, ht6, hm6⟩
                have HL6 := hid hl6
                have HX6 := hid hx6
                have HT6 := hid ht6
                have HI6 := hid fun (W : World) (hW : Gr w6 W) => inv_step (v' := v6) HW1.out HR.out HLG.out (y4.gr.trans y5.gr) hm6 hl6 hx6 hW
                have G66 := hid (show Gr w w6 from gr_mod (GW.out.trans (y4.gr.trans y5.gr)) hm6 (by rintro k rfl; exact hgb2))
                clear hl6 hx6 ht6 hm6 CG CM CT
                have hb6 : base ≤ w6.heap.size := Nat.le_trans hb G66.out.size
                have hPT : T.length ≤ T.length := by omega
                go_wp2_with fail
                go_loopw [20, 21] (fun i _ wr => ∃ k : Nat, q ≤ k ∧ k ≤ T.length ∧ i = .int .i64 k ∧ Gr w6 wr) (fun i _ _ => T.length - (intOf i).toNat)
                case atStart => exact ⟨q, Nat.le_refl _, by omega, rfl, Gr.refl _⟩
                case round =>
                  obtain ⟨k, hk1, hk2, rfl, hg⟩ := hrel
                  have HG6 := hid hg
                  clear hg
                  by_cases hkP : k < T.length
                  · obtain ⟨t1, t2⟩ := HT6.out k hk1 (by omega)
                    have CGet := hid (get_one base g k G6 v6 wr (HL6.out.gr HG6.out) t1 (Nat.le_trans hb6 HG6.out.size))
                    obtain ⟨⟨tk, tb⟩, htk⟩ : ∃ e, T.getD k (0, []) = e := ⟨_, rfl⟩
                    obtain ⟨⟨gk, gb⟩, hgk⟩ : ∃ e, G6.getD k (0, []) = e := ⟨_, rfl⟩
                    rw [htk, hgk] at t2
                    simp only at t2
                    subst t2
                    rw [hgk] at CGet
                    have HTK := hid htk
                    have HGK := hid hgk
                    clear htk hgk
                    have hk9 : k < T.length := by omega
                    go_wp2_with (go_at_call 18; (with_reducible refine CGet.out.mono ?_); rintro e _ ⟨_, y7, rfl, rfl, ho⟩; obtain ⟨gx, cx, D1, k1, rfl, x1, x2, x3, x4⟩ := own_one ho; clear ho)
                    obtain ⟨b', off', D, c', eB, d1, d2, d3, d4⟩ := (HM.out.gr (G66.out.trans (HG6.out.trans y7.gr))).at_ (i := k) hk9
                    injection eB with eB
                    injection eB with eB1 eB2
                    subst eB1 eB2
                    rw [HTK.out] at d1 d2 d3
                    have q1 := fun x : Ext y7.val => conv_ext x4 x
                    have q2 := fun x : Ext y7.val => conv_ext d3 x
                    clear x4 d3
                    by_cases hsb : ((sb gb).toList == (sb tb).toList) = true
                    · generalize sb gb = s1 at *
                      generalize sb tb = s2 at *
                      refine wp_region_ext (by kernel_rfl) (by kernel_rfl) ?_
                      repeat (go_big_quiet_step (fail))
                      refine wpQuiet_nil ?_
                      rintro _ ⟨x, rfl⟩
                      go_wp2_with fail
                      go_roundw
                      case rel => exact ⟨k + 1, by omega, by omega, by go_num, HG6.out.trans (y7.gr.trans x.gr)⟩
                      case measure => simp [intOf]; omega
                    · have hmine : k < M.length ∧ M.getD k (0, []) = (gk, gb) := by
                        rcases HX6.out k t1 with ⟨m1, m2⟩ | ⟨_, m2⟩
                        · exact ⟨m1, by rw [← m2, HGK.out]⟩
                        · rw [HGK.out, HTK.out] at m2
                          injection m2 with _ m2
                          exact absurd (by rw [m2]; simp) hsb
                      have CMt := fun (W : World) (hW : Gr wr W) => hid ((match_any base g 0 0 ((k : Int) + 1) gk G6 v6 W (HL6.out.gr (HG6.out.trans hW)) (by omega)).mono (R' := RetE (.bool true) W) (fun _ _ h => by
                        have e := mt_of (G := G6) t1
                        rw [HGK.out] at e
                        rwa [e] at h))
                      have CFr := fun (W : World) (hW : Gr wr W) => hid ((fresh_any base k gk A c M W (HL.out.gr (G66.out.trans (HG6.out.trans hW))) (by omega)).mono (R' := RetE (.bool false) W) (fun _ _ h => by
                        have e : (decide (M.length ≤ k) || (M.getD k (0, [])).1 != gk) = false := by
                          rw [hmine.2, decide_eq_false (by omega)]
                          simp
                        rwa [e] at h))
                      generalize sb gb = s1 at *
                      generalize sb tb = s2 at *
                      have hs1 : (s1.toList == s2.toList) = false := by simpa using hsb
                      clear hsb
                      clear hmine
                      refine wp_region_ext (by kernel_rfl) (by kernel_rfl) ?_
                      repeat (go_big_quiet_step (first | (go_at_call 16; rename_i x; exact calls_ext _ (CMt _ (y7.gr.trans (Ext.gr _))).out) | (go_at_call 19; rename_i x; exact calls_ext _ (CFr _ (y7.gr.trans (Ext.gr _))).out)))
                      refine wpQuiet_nil ?_
                      rintro _ ⟨x, rfl⟩
                      go_wp2_with fail
                      go_roundw
                      case rel => exact ⟨k + 1, by omega, by omega, by go_num, HG6.out.trans (y7.gr.trans x.gr)⟩
                      case measure => simp [intOf]; omega
                  · go_wp2_with fail
                    go_roundw
                    case rel => exact ⟨j + 1, by omega, by go_num, hid (HI6.out _ HG6.out)⟩
                    case measure => simp [intOf]; omega
        · go_wp2_with fail
          go_ret
          exact ⟨rfl, GW.out⟩
    · go_wp2_with (go_at_call 13; (with_reducible refine (newR_bad base 0 0 Ao co T y2.val HSO.out (by omega) h2).mono ?_); rintro e _ ⟨rfl, y3, rfl⟩)
      go_ret
      exact ⟨rfl, y0.gr.trans (y1.gr.trans (y2.gr.trans y3.gr))⟩
  · go_wp2_with (go_at_call 10; (with_reducible refine (new_bad base 0 0 A c M y0.val (HL.out.gr y0.gr) (by omega) h1).mono ?_); rintro e _ ⟨rfl, y1, rfl⟩)
    go_at_call 14
    refine (of_any base B d T y1.val ((HM.out.gr y0.gr).gr y1.gr) (by omega) (Nat.le_trans hb0 y1.gr.size)).mono ?_
    rintro e _ ⟨vo, y2, rfl, rfl, ho⟩
    obtain ⟨Ao, co, rfl, hso, _⟩ := ho.shape
    have HSO := hid hso
    clear ho hso
    by_cases h2 : NewOk 0 0 T
    · go_wp2_with (go_at_call 13; (with_reducible refine (newR_ok base 0 0 Ao co T y2.val HSO.out (by omega) h2 (by decide) (Nat.le_trans (Nat.le_trans hb0 y1.gr.size) y2.gr.size)).mono ?_); rintro e _ ⟨gr, vR, y3, rfl, rfl, hl3, hg3⟩)
      go_ret
      exact ⟨rfl, y0.gr.trans (y1.gr.trans (y2.gr.trans y3.gr))⟩
    · go_wp2_with (go_at_call 13; (with_reducible refine (newR_bad base 0 0 Ao co T y2.val HSO.out (by omega) h2).mono ?_); rintro e _ ⟨rfl, y3, rfl⟩)
      go_ret
      exact ⟨rfl, y0.gr.trans (y1.gr.trans (y2.gr.trans y3.gr))⟩
end Go.Proofs.Ythiahnpijdkboaa
