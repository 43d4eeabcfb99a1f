import Derived.Test.YtdgkgmlnjolloaaDoorS13
namespace Go.Proofs.YtdgkgmlnjolloaaDoor
open Go.RowKit Go.Ext Go.BigFrame
attribute [local go_sem] Ext.cell Ext.frozen Ext.lt Ext.le s1 s2 s3 s4 s5 s6 t1 t2 t3 t4 t5 t6
attribute [local go_sem ↓] Go.wp_at_zero Go.wp_at_succ

/-! ### FrontWraps -/
theorem ch_nil (n : Int) (w : World) : Ch w [] (some n) (.iface 29 (.int .i64 n)) := rfl
theorem method_f (f : Nat) {ws : List ByteArray} {n : Int} {v : Value} {w : World} (hf : f = if ws = [] then 9 else 49) (h : Ch w ws (some n) v) (hl : (txt (some n) ws).size ≤ 1000000) : ∃ t x, v = .iface t x ∧ (∀ W, (Go.method 207 t x "Error").run Tryd.prog W = .ok (f, x) W) ∧ (∀ W, Gr w W → Calls Tryd.prog f #[x] W (RetE (.string (txt (some n) ws)) W)) := by
  cases ws with
  | nil => rw [if_pos rfl] at hf; subst hf; exact ⟨29, _, h, V.mError29 _, fun W _ => errno_eb n W⟩
  | cons x r =>
    rw [if_neg (by simp)] at hf
    subst hf
    obtain ⟨k, u, rfl, hb, hc⟩ := h
    exact ⟨59, _, rfl, V.mError59 _, fun W g => said_any (some n) r x k u W ((g.block k (Array.getElem?_eq_some_iff.1 hb).1).trans hb) (hc.gr g) hl⟩

set_option maxRecDepth 100000 in
set_option maxHeartbeats 4000000 in
theorem wraps_short (n : Int) (ws : List ByteArray) (A : Option Addr) (c : Nat) (w : World) (he : Et w) (hr : Rd w A (wc ws)) (hl : ws.length + sm ws ≤ 1152921504606846976) :
    Calls Tryd.prog 4 #[.int .i64 n, .slice A ws.length c] w (RetE (.bool true) w) := by
  have HE := hid he
  have HR := hid hr
  have HL := hid hl
  have HSM := hid (sm_le ws)
  clear hr he
  refine retE ?_
  go_enter Tryd.func4, Tryd.ntmps4
  go_wp2_with (go_at_call 5; refine (known_any _ HE.out).mono ?_; rintro e _ ⟨rfl, y1, rfl⟩)
  go_loopg [5, 6] ws.length (fun k a i wr => ∃ j, j ≤ ws.length ∧ k = ws.length - j ∧ a = .int .i64 (sm (ws.take j) : Int) ∧ i = .int .i64 j ∧ y1.val = wr)
  case atStart => exact ⟨0, by omega, by omega, by simp [sm], rfl, rfl⟩
  case round =>
    obtain ⟨j, hj, rfl, rfl, rfl, rfl⟩ := hrel
    by_cases hjl : j < ws.length
    · obtain ⟨s, hs⟩ : ∃ s, ws[j]? = some s := ⟨ws[j], List.getElem?_eq_getElem hjl⟩
      obtain ⟨B, off, rfl, hcell⟩ := HR.out.at_ (j := j) (u := .string s) (by simp [wc, hs])
      have c0 : y1.val.cell? ⟨B, off + j, none⟩ = some (.string s) := (y1.gr.cell (p := ⟨B, off + j, none⟩) (World.block_lt_of_cell? w _ hcell)).trans hcell
      have hlz : (j : Int) < (ws.length : Int) := by omega
      have HST := hid (sm_take ws j s hs)
      have hs1 := HSM.out (j + 1)
      have hs2 := HSM.out j
      rw [HST.out] at hs1
      clear hcell hs
      go_wp2_with fail
      go_roundg (ws.length - (j + 1))
      case measure => omega
      case rel => exact ⟨j + 1, by omega, rfl, by rw [HST.out]; simp, by simp, rfl⟩
    · obtain rfl : j = ws.length := by omega
      rw [List.take_length]
      clear hjl hj
      by_cases hbig : (50 : Int) < (ws.length : Int)
      · go_wp2_with fail
        go_ret
        exact ⟨rfl, y1.gr⟩
      by_cases hbig2 : (2000 : Int) < (sm ws : Int)
      · go_wp2_with fail
        go_ret
        exact ⟨rfl, y1.gr⟩
      have HTS := hid (txt_size (some n) ws)
      have HB := hid hbig
      have HB2 := hid hbig2
      go_wp2_with (go_at_call 16
                   (with_reducible refine (wrap_any ws A c [] (some n) (.iface 29 (.int .i64 n)) _ (ch_nil n _) (HR.out.gr y1.gr) (by omega)).mono ?_)
                   rintro e w2 ⟨v2, rfl, hg2, hc2⟩
                   rw [List.append_nil] at hc2
                   obtain ⟨tt, xx, rfl⟩ := hc2.shape
                   have G2 := hid (y1.gr.trans hg2)
                   have HC2 := hid hc2
                   clear hg2 hc2)
      clear hbig hbig2
      go_loopg [8, 9] ws.length (fun k v i wr => ∃ t x, v = .iface t x ∧ i = .int .i64 ((k : Int) - 1) ∧ k ≤ ws.length ∧ Gr w2 wr ∧ Ch wr (ws.drop k) (some n) v)
      case atStart => exact ⟨_, _, rfl, rfl, Nat.le_refl _, Gr.refl _, by simp [Ch, bv]⟩
      case round =>
        obtain ⟨t, x, rfl, rfl, hk, hg, hc⟩ := hrel
        have HG := hid hg
        have HC := hid hc
        cases gk with
        | succ k =>
          obtain ⟨s, hs⟩ : ∃ s, ws[k]? = some s := ⟨ws[k]'(by omega), List.getElem?_eq_getElem (by omega)⟩
          obtain ⟨B, off, rfl, hcell⟩ := HR.out.at_ (j := k) (u := .string s) (by simp [wc, hs])
          have c0 : wr.cell? ⟨B, off + k, none⟩ = some (.string s) := ((G2.out.trans HG.out).cell (p := ⟨B, off + k, none⟩) (World.block_lt_of_cell? w _ hcell)).trans hcell
          have hdrop : ws.drop k = s :: ws.drop (k + 1) := by
            rw [List.drop_eq_getElem_cons (by omega)]
            congr 1
            rw [List.getElem?_eq_getElem (by omega)] at hs
            injection hs
          have HD := hid hdrop
          have e2 : ((k + 1 : Nat) : Int) - 1 = (k : Int) := by omega
          rw [e2]
          clear e2 hcell hc hg hdrop hs
          go_wp2_with (go_at_call 16
                       have hh := wrap_any [s] (some ⟨wr.heap.size, 0, none⟩) 1 (ws.drop (k + 1)) (some n) _ _ (HC.out.gr ((Gr.refl wr).alloc (.cells #[.string s] 9))) (rd_new wr [.string s] _) (by simp)
                       refine hh.mono ?_
                       clear hh
                       rintro e w3 ⟨v3, rfl, hg3, hc3⟩
                       obtain ⟨t3, x3, rfl⟩ := hc3.shape
                       have G3 := hid ((HG.out.alloc _).trans hg3)
                       have HC3 := hid hc3
                       clear hg3 hc3)
          go_roundg k
          case measure => omega
          case rel =>
            refine ⟨_, _, rfl, rfl, by omega, G3.out, ?_⟩
            rw [HD.out]
            exact HC3.out
        | zero =>
          clear hc hg
          have e1 : (0 ≤ ((0 : Nat) : Int) - 1) = False := by simp
          rw [List.drop_zero] at HC
          have hts : (txt (some n) ws).size ≤ 1000000 := by have := HTS.out; have := HB.out; have := HB2.out; omega
          have HC1 := hid (HC2.out.gr HG.out)
          have G0 := hid (G2.out.trans HG.out)
          have HMW := hid (fun (f : Nat) (hf : f = if ws = [] then 9 else 49) (v : Value) (W : World) (h : Ch W ws (some n) v) => method_f f hf h hts)
          have HS1 := hid (fun W (g : Gr wr W) => sort_any ws (some n) _ W (HC1.out.gr g) ((HE.out.gr G0.out).gr g))
          have HS2 := hid (fun W (g : Gr wr W) => sort_any ws (some n) _ W (HC.out.gr g) ((HE.out.gr G0.out).gr g))
          have HD1 := hid (fun W (g : Gr wr W) => code_any ws (some n) _ W (HC1.out.gr g) ((HE.out.gr G0.out).gr g))
          have HD2 := hid (fun W (g : Gr wr W) => code_any ws (some n) _ W (HC.out.gr g) ((HE.out.gr G0.out).gr g))
          have HWR := hid (fun W (g : Gr wr W) => wrap_any [] none 0 ws (some n) _ W (HC1.out.gr g) (Rd.nil _ _) (by simp))
          have HT2 := hid (fun W (g : Gr wr W) => isTop_any ws (some n) _ n W (HC.out.gr g))
          have HT3 := hid (fun v W (h : Ch W ws (some n) v) => isTop_any ws (some n) v n W h)
          rw [show decide (some n = some n) = true by simp] at HT2 HT3
          have GX := hid (Gr.refl wr)
          clear hts HTS
          generalize txt (some n) ws = T at *
          by_cases hws : ws = []
          · obtain ⟨q1, q2, hq, hm1, hc1⟩ := HMW.out 9 (by rw [if_pos hws]) _ _ HC1.out
            injection hq with hq1 hq2
            subst hq1 hq2
            obtain ⟨q1, q2, hq, hm2, hc2⟩ := HMW.out 9 (by rw [if_pos hws]) _ _ HC.out
            injection hq with hq1 hq2
            subst hq1 hq2
            have HR1 := hid hc1
            have HR2 := hid hc2
            have HM3 := hid (fun v W (h : Ch W ws (some n) v) => HMW.out 9 (by rw [if_pos hws]) v W h)
            clear hc1 hc2 HMW
            go_wp2_with (first
              | (go_at_call 10; (with_reducible refine (HS1.out _ GX.out).mono ?_); rintro e _ ⟨rfl, y, rfl⟩; have GX := hid (GX.out.ext y))
              | (go_at_call 10; (with_reducible refine (HS2.out _ GX.out).mono ?_); rintro e _ ⟨rfl, y, rfl⟩; have GX := hid (GX.out.ext y))
              | (go_at_call 12; (with_reducible refine (HD1.out _ GX.out).mono ?_); rintro e _ ⟨rfl, y, rfl⟩; have GX := hid (GX.out.ext y))
              | (go_at_call 12; (with_reducible refine (HD2.out _ GX.out).mono ?_); rintro e _ ⟨rfl, y, rfl⟩; have GX := hid (GX.out.ext y))
              | (go_at_call 16
                 have hh := HWR.out _ GX.out
                 refine hh.mono ?_
                 clear hh
                 rintro e w6 ⟨v6, rfl, hg6, hc6⟩
                 have GX := hid (GX.out.trans hg6)
                 rw [List.nil_append] at hc6
                 obtain ⟨t6, x6, rfl, hm3, hc3⟩ := HM3.out _ _ hc6
                 have HC6 := hid hc6
                 have HR3 := hid hc3
                 have GY := hid (Gr.refl w6)
                 clear hg6 hc6 hc3)
              | (go_at_call 15; (with_reducible refine (HT2.out _ GX.out).mono ?_); rintro e _ ⟨rfl, rfl⟩)
              | (go_at_call 15; (with_reducible refine (HT3.out _ _ (HC6.out.gr GY.out)).mono ?_); rintro e _ ⟨rfl, rfl⟩)
              | ((with_reducible refine (HR3.out _ GY.out).mono ?_); rintro e _ ⟨rfl, y, rfl⟩; have GX := hid (GX.out.ext y); have GY := hid (GY.out.ext y))
              | ((with_reducible refine (HR1.out _ GX.out).mono ?_); rintro e _ ⟨rfl, y, rfl⟩; have GX := hid (GX.out.ext y); (try have GY := hid (GY.out.ext y)))
              | ((with_reducible refine (HR2.out _ GX.out).mono ?_); rintro e _ ⟨rfl, y, rfl⟩; have GX := hid (GX.out.ext y)))
            go_ret
            exact ⟨rfl, G0.out.trans GX.out⟩
          · obtain ⟨q1, q2, hq, hm1, hc1⟩ := HMW.out 49 (by rw [if_neg hws]) _ _ HC1.out
            injection hq with hq1 hq2
            subst hq1 hq2
            obtain ⟨q1, q2, hq, hm2, hc2⟩ := HMW.out 49 (by rw [if_neg hws]) _ _ HC.out
            injection hq with hq1 hq2
            subst hq1 hq2
            have HR1 := hid hc1
            have HR2 := hid hc2
            have HM3 := hid (fun v W (h : Ch W ws (some n) v) => HMW.out 49 (by rw [if_neg hws]) v W h)
            clear hc1 hc2 HMW
            go_wp2_with (first
              | (go_at_call 10; (with_reducible refine (HS1.out _ GX.out).mono ?_); rintro e _ ⟨rfl, y, rfl⟩; have GX := hid (GX.out.ext y))
              | (go_at_call 10; (with_reducible refine (HS2.out _ GX.out).mono ?_); rintro e _ ⟨rfl, y, rfl⟩; have GX := hid (GX.out.ext y))
              | (go_at_call 12; (with_reducible refine (HD1.out _ GX.out).mono ?_); rintro e _ ⟨rfl, y, rfl⟩; have GX := hid (GX.out.ext y))
              | (go_at_call 12; (with_reducible refine (HD2.out _ GX.out).mono ?_); rintro e _ ⟨rfl, y, rfl⟩; have GX := hid (GX.out.ext y))
              | (go_at_call 16
                 have hh := HWR.out _ GX.out
                 refine hh.mono ?_
                 clear hh
                 rintro e w6 ⟨v6, rfl, hg6, hc6⟩
                 have GX := hid (GX.out.trans hg6)
                 rw [List.nil_append] at hc6
                 obtain ⟨t6, x6, rfl, hm3, hc3⟩ := HM3.out _ _ hc6
                 have HC6 := hid hc6
                 have HR3 := hid hc3
                 have GY := hid (Gr.refl w6)
                 clear hg6 hc6 hc3)
              | (go_at_call 15; (with_reducible refine (HT2.out _ GX.out).mono ?_); rintro e _ ⟨rfl, rfl⟩)
              | (go_at_call 15; (with_reducible refine (HT3.out _ _ (HC6.out.gr GY.out)).mono ?_); rintro e _ ⟨rfl, rfl⟩)
              | ((with_reducible refine (HR3.out _ GY.out).mono ?_); rintro e _ ⟨rfl, y, rfl⟩; have GX := hid (GX.out.ext y); have GY := hid (GY.out.ext y))
              | ((with_reducible refine (HR1.out _ GX.out).mono ?_); rintro e _ ⟨rfl, y, rfl⟩; have GX := hid (GX.out.ext y); (try have GY := hid (GY.out.ext y)))
              | ((with_reducible refine (HR2.out _ GX.out).mono ?_); rintro e _ ⟨rfl, y, rfl⟩; have GX := hid (GX.out.ext y)))
            go_ret
            exact ⟨rfl, G0.out.trans GX.out⟩
end Go.Proofs.YtdgkgmlnjolloaaDoor
