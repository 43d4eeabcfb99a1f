import Derived.Test.YtdgkgmlnjolloaaDoorS12
namespace Go.Proofs.YtdgkgmlnjolloaaDoor
open Go.RowKit Go.Ext Go.BigFrame
attribute [local go_sem] Ext.cell Ext.frozen Ext.lt Ext.le s1 s2 s3 s4 s5 s6 t1 t2 t3 t4 t5 t6
attribute [local go_sem ↓] Go.wp_at_zero Go.wp_at_succ

/-! ### FrontErrors -/
def sm : List ByteArray → Nat
  | [] => 0
  | x :: r => x.size + sm r
theorem sm_app (a b : List ByteArray) : sm (a ++ b) = sm a + sm b := by
  induction a with
  | nil => simp [sm]
  | cons x r ih => simp [sm, ih, Nat.add_assoc]
theorem sm_take (ws : List ByteArray) (k : Nat) (s : ByteArray) (h : ws[k]? = some s) : sm (ws.take (k + 1)) = sm (ws.take k) + s.size := by
  rw [List.take_add_one, h, sm_app]
  simp [sm]
theorem sm_le (ws : List ByteArray) (k : Nat) : sm (ws.take k) ≤ sm ws := by
  conv => rhs; rw [← List.take_append_drop k ws, sm_app]
  omega
def pre : List ByteArray → ByteArray
  | ws => ws.foldl (fun a x => (a ++ x) ++ colon) ⟨#[]⟩
theorem pre_take (ws : List ByteArray) (k : Nat) (s : ByteArray) (h : ws[k]? = some s) : pre (ws.take (k + 1)) = (pre (ws.take k) ++ s) ++ colon := by
  rw [List.take_add_one, h]
  simp [pre]
theorem fold_txt (b : Option Int) : ∀ (ws : List ByteArray) (a : ByteArray), ws.foldl (fun a x => (a ++ x) ++ colon) a ++ eb b = a ++ txt b ws
  | [], a => rfl
  | x :: r, a => by
    rw [List.foldl_cons, fold_txt b r, txt]
    simp only [ByteArray.append_assoc]
theorem pre_txt (b : Option Int) (ws : List ByteArray) : pre ws ++ eb b = txt b ws := by
  rw [pre, fold_txt]
  exact ByteArray.empty_append
theorem pre_size : ∀ (ws : List ByteArray), (pre ws).size = sm ws + 2 * ws.length := by
  intro ws
  have : ∀ (ws : List ByteArray) (a : ByteArray), (ws.foldl (fun a x => (a ++ x) ++ colon) a).size = a.size + sm ws + 2 * ws.length := by
    intro ws
    induction ws with
    | nil => intro a; simp [sm]
    | cons x r ih =>
      intro a
      rw [List.foldl_cons, ih]
      simp only [ByteArray.size_append, sm, List.length_cons]
      have : colon.size = 2 := rfl
      omega
  rw [pre, this]
  have : (⟨#[]⟩ : ByteArray).size = 0 := rfl
  omega
theorem txt_size (b : Option Int) (ws : List ByteArray) : (txt b ws).size ≤ sm ws + 2 * ws.length + 7 := by
  rw [← pre_txt, ByteArray.size_append, pre_size]
  have := eb_size b
  omega
theorem sortB_bo (n : Int) : sortB (bo n) = sortF n := by
  unfold sortB bo
  split
  · rename_i h; subst h; rfl
  · rfl
theorem codeB_bo (n : Int) : codeB (bo n) = codeF n := by
  unfold codeB bo
  split
  · rename_i h; subst h; rfl
  · rfl

set_option maxRecDepth 100000 in
set_option maxHeartbeats 4000000 in
theorem errors_short (n : Int) (ws : List ByteArray) (A : Option Addr) (c : Nat) (m : Int) (w : World) (he : Et w) (hr : Rd w A (wc ws)) (hl : ws.length + sm ws ≤ 1152921504606846976) :
    Calls Tryd.prog 3 #[.int .i64 n, .slice A ws.length c, .int .i64 m] w (RetE (.bool true) w) := by
  have HE := hid he
  have HR := hid hr
  have HL := hid hl
  have HSM := hid (sm_le ws)
  clear hr he
  refine retE ?_
  go_enter Tryd.func3, Tryd.ntmps3
  go_wp2_with (go_at_call 5; refine (known_any _ HE.out).mono ?_; rintro e _ ⟨rfl, y1, rfl⟩)
  go_loopg [7, 8] ws.length (fun k a i wr => ∃ j, j ≤ ws.length ∧ k = ws.length - j ∧ a = .int .i64 (sm (ws.take j) : Int) ∧ i = .int .i64 j ∧ y1.val = wr)
  case atStart => exact ⟨0, by omega, by omega, by simp [sm], rfl, rfl⟩
  case round =>
    obtain ⟨j, hj, rfl, rfl, rfl, rfl⟩ := hrel
    by_cases hjl : j < ws.length
    · obtain ⟨s, hs⟩ : ∃ s, ws[j]? = some s := ⟨ws[j], List.getElem?_eq_getElem hjl⟩
      obtain ⟨B, off, rfl, hcell⟩ := HR.out.at_ (j := j) (u := .string s) (by simp [wc, hs])
      have c0 : y1.val.cell? ⟨B, off + j, none⟩ = some (.string s) := (y1.gr.cell (p := ⟨B, off + j, none⟩) (World.block_lt_of_cell? w _ hcell)).trans hcell
      have hlz : (j : Int) < (ws.length : Int) := by omega
      have HST := hid (sm_take ws j s hs)
      have hs1 := HSM.out (j + 1)
      have hs2 := HSM.out j
      rw [HST.out] at hs1
      clear hcell hs
      go_wp2_with fail
      go_roundg (ws.length - (j + 1))
      case measure => omega
      case rel => exact ⟨j + 1, by omega, rfl, by rw [HST.out]; simp, by simp, rfl⟩
    · obtain rfl : j = ws.length := by omega
      rw [List.take_length]
      clear hjl hj
      by_cases hbig : (50 : Int) < (ws.length : Int)
      · go_wp2_with fail
        go_ret
        exact ⟨rfl, y1.gr⟩
      by_cases hbig2 : (2000 : Int) < (sm ws : Int)
      · go_wp2_with fail
        go_ret
        exact ⟨rfl, y1.gr⟩
      have HTS := hid (txt_size (bo n) ws)
      have HB := hid hbig
      have HB2 := hid hbig2
      obtain ⟨nm, hnm1, hnm2⟩ := name_any m
      have HN1 := hid hnm1
      have HN2 := hid hnm2
      clear hnm1 hnm2
      go_wp2_with (first
        | (go_at_call 6
           (with_reducible refine (wrapped_any n ws A c _ (HR.out.gr y1.gr) (by omega)).mono ?_)
           rintro e w2 ⟨v2, rfl, hg2, hc2⟩
           obtain ⟨tt, xx, rfl⟩ := hc2.shape
           have G2 := hid (y1.gr.trans hg2)
           have HC2 := hid hc2
           clear hg2 hc2)
        | (go_at_call 7; (with_reducible refine (HN1.out _).mono ?_); rintro e _ ⟨rfl, y3, rfl⟩)
        | (go_at_call 8; (with_reducible refine (HN2.out _).mono ?_); rintro e _ ⟨rfl, y4, rfl⟩))
      have G4 := hid ((G2.out.ext y3).ext y4)
      have HC4 := hid (HC2.out.gr (y3.gr.ext y4))
      clear HC2 G2 hbig hbig2
      generalize y4.val = W4 at *
      clear y4 y3
      go_loopg [11, 12] ws.length (fun k a i wr => ∃ j, j ≤ ws.length ∧ k = ws.length - j ∧ a = .string (pre (ws.take j)) ∧ i = .int .i64 j ∧ W4 = wr)
      case atStart => exact ⟨0, by omega, by omega, rfl, rfl, rfl⟩
      case round =>
        obtain ⟨j, hj, rfl, rfl, rfl, rfl⟩ := hrel
        by_cases hjl : j < ws.length
        · obtain ⟨s, hs⟩ : ∃ s, ws[j]? = some s := ⟨ws[j], List.getElem?_eq_getElem hjl⟩
          obtain ⟨B, off, rfl, hcell⟩ := HR.out.at_ (j := j) (u := .string s) (by simp [wc, hs])
          have c0 : W4.cell? ⟨B, off + j, none⟩ = some (.string s) := (G4.out.cell (p := ⟨B, off + j, none⟩) (World.block_lt_of_cell? w _ hcell)).trans hcell
          have hlz : (j : Int) < (ws.length : Int) := by omega
          have HST := hid (pre_take ws j s hs)
          have hs1 := HSM.out (j + 1)
          rw [sm_take ws j s hs] at hs1
          have hp := pre_size (ws.take j)
          have hp2 : (ws.take j).length = j := by rw [List.length_take]; omega
          have a1 : ∀ W, (Op.stringOp .add (pre (ws.take j)) s).run Tryd.prog W = .ok (.string (pre (ws.take j) ++ s)) W := fun W => run_string_add_sum W _ _ (by omega)
          have a2 : ∀ W, (Op.stringOp .add (pre (ws.take j) ++ s) ⟨#[58, 32]⟩).run Tryd.prog W = .ok (.string ((pre (ws.take j) ++ s) ++ colon)) W := fun W => run_string_add_sum W _ _ (by rw [ByteArray.size_append]; have : (⟨#[58, 32]⟩ : ByteArray).size = 2 := rfl; omega)
          clear hcell hs hs1 hp hp2
          go_wp2_with fail
          go_roundg (ws.length - (j + 1))
          case measure => omega
          case rel => exact ⟨j + 1, by omega, rfl, by rw [HST.out], by simp, rfl⟩
        · obtain rfl : j = ws.length := by omega
          rw [List.take_length]
          clear hjl hj
          have hps := pre_size ws
          have hts : (txt (bo n) ws).size ≤ 1000000 := by have := HTS.out; have := HB.out; have := HB2.out; omega
          obtain ⟨t, x, f, hf, hv, hm, hcl⟩ := method_any HC4.out
          injection hv with hv1 hv2
          subst hv1 hv2
          have HER := hid (fun W (g : Gr W4 W) => hcl hts W g)
          have HSB := hid (fun W (g : Gr W4 W) => sort_any ws (bo n) _ W (HC4.out.gr g) ((HE.out.gr G4.out).gr g))
          have HCB := hid (fun W (g : Gr W4 W) => code_any ws (bo n) _ W (HC4.out.gr g) ((HE.out.gr G4.out).gr g))
          have HSR := hid (fun W => sortR_any n W)
          have HCR := hid (fun W => codeR_any n W)
          rw [sortB_bo] at HSB
          rw [codeB_bo] at HCB
          have HAS := hid (fun W (g : Gr W4 W) => as_any ws (bo n) _ ⟨W.heap.size, 0, none⟩ (.int .i64 0) _ (HC4.out.gr (g.alloc (.cells #[.int .i64 0] 29))) ((HE.out.gr G4.out).gr (g.alloc _)) (by rw [World.cell?_alloc_at _ _ _ _ (by simp)]; rfl) (fz1 (heap_alloc_new W _)))
          clear hcl hts
          have HTOP := hid (fun W (g : Gr W4 W) => isTop_any ws (bo n) _ n W (HC4.out.gr g))
          by_cases hn : n = -1
          · subst hn
            have hbo : bo (-1) = none := rfl
            rw [hbo] at HAS HTOP HER
            have hpt : pre ws ++ (⟨#[120]⟩ : ByteArray) = txt none ws := pre_txt none ws
            have a1 : ∀ W, (Op.stringOp .add (pre ws) ⟨#[120]⟩).run Tryd.prog W = .ok (.string (txt none ws)) W := fun W => by
              rw [← hpt]
              exact run_string_add_sum W _ _ (by have : (⟨#[120]⟩ : ByteArray).size = 1 := rfl; have := HB.out; have := HB2.out; omega)
            clear hpt hps HTS
            generalize txt none ws = T at *
            rcases hf with rfl | rfl | rfl
            all_goals
              go_wp2_with (first
                | (go_at_call 10; (with_reducible refine (HSB.out _ y5.gr).mono ?_); rintro e _ ⟨rfl, y6, rfl⟩)
                | (go_at_call 11; (with_reducible refine (HSR.out _).mono ?_); rintro e _ ⟨rfl, y7, rfl⟩)
                | (go_at_call 12; (with_reducible refine (HCB.out _ ((y5.gr.ext y6).ext y7)).mono ?_); rintro e _ ⟨rfl, y8, rfl⟩)
                | (go_at_call 13
                   (with_reducible refine (HCR.out _).mono ?_)
                   rintro e _ ⟨rfl, y9, rfl⟩
                   have G9 := hid ((((y5.gr.ext y6).ext y7).ext y8).ext y9)
                   generalize y9.val = W9 at *
                   clear y9 y8 y7 y6 y5)
                | (go_at_call 14
                   (with_reducible refine (HAS.out _ G9.out).mono ?_)
                   rintro e _ ⟨rfl, w10, hg10, rfl⟩
                   have G10 := hid ((G9.out.alloc _).trans hg10)
                   clear hg10
                   simp only)
                | (go_at_call 16; (with_reducible refine (wrap_nil _ _).mono ?_); rintro e _ ⟨rfl, rfl⟩)
                | (go_at_call 12; (with_reducible refine (code_nil _).mono ?_); rintro e _ ⟨rfl, y11, rfl⟩)
                | (go_at_call 15; (with_reducible refine (HTOP.out _ G10.out).mono ?_); rintro e _ ⟨rfl, rfl⟩)
                | ((with_reducible refine (HER.out _ (Gr.refl _)).mono ?_); rintro e _ ⟨rfl, y5, rfl⟩))
            all_goals
              go_ret
              exact ⟨rfl, (G4.out.trans G10.out).ext y11⟩
          · have b0 : (n == -1) = false := by rw [beq_eq_false_iff_ne]; exact hn
            have hbo : bo n = some n := if_neg hn
            rw [hbo] at HAS HTOP HER
            have hts2 := eb_size (some n)
            have hpt : pre ws ++ eb (some n) = txt (some n) ws := pre_txt (some n) ws
            have HERR := hid (fun W => errno_eb n W)
            have a1 : ∀ W, (Op.stringOp .add (pre ws) (eb (some n))).run Tryd.prog W = .ok (.string (txt (some n) ws)) W := fun W => by
              rw [← hpt]
              exact run_string_add_sum W _ _ (by have := HB.out; have := HB2.out; omega)
            rw [show decide (some n = some n) = true by simp] at HTOP
            clear hpt hps HTS hts2 hbo
            generalize txt (some n) ws = T at *
            generalize eb (some n) = E at *
            rcases hf with rfl | rfl | rfl
            all_goals
              go_wp2_with (first
                | (go_at_call 10; (with_reducible refine (HSB.out _ (ye.gr.ext y5)).mono ?_); rintro e _ ⟨rfl, y6, rfl⟩)
                | (go_at_call 11; (with_reducible refine (HSR.out _).mono ?_); rintro e _ ⟨rfl, y7, rfl⟩)
                | (go_at_call 12; (with_reducible refine (HCB.out _ (((ye.gr.ext y5).ext y6).ext y7)).mono ?_); rintro e _ ⟨rfl, y8, rfl⟩)
                | (go_at_call 13
                   (with_reducible refine (HCR.out _).mono ?_)
                   rintro e _ ⟨rfl, y9, rfl⟩
                   have G9 := hid (((((ye.gr.ext y5).ext y6).ext y7).ext y8).ext y9)
                   generalize y9.val = W9 at *
                   clear y9 y8 y7 y6 y5 ye)
                | (go_at_call 14
                   (with_reducible refine (HAS.out _ G9.out).mono ?_)
                   rintro e _ ⟨rfl, w10, hg10, rfl⟩
                   have hb10 : w10.heap[W9.heap.size]? = some (.cells #[.int .i64 0] 29 (0, 0)) := (hg10.block W9.heap.size (by simp)).trans (heap_alloc_new W9 _)
                   have hl10 : W9.heap.size < w10.heap.size := Nat.lt_of_lt_of_le (by simp) hg10.size
                   have c10 : (w10.setCell ⟨W9.heap.size, 0, none⟩ (.int .i64 n)).cell? ⟨W9.heap.size, 0, none⟩ = some (.int .i64 n) := c_set w10 W9.heap.size n hb10
                   have G10 := hid (show Gr W4 (w10.setCell ⟨W9.heap.size, 0, none⟩ (.int .i64 n)) from Gr.set ((G9.out.alloc _).trans hg10) G9.out.size _)
                   clear hg10 hb10
                   simp only [asW])
                | (go_at_call 16; (with_reducible refine (wrap_nil _ _).mono ?_); rintro e _ ⟨rfl, rfl⟩)
                | (go_at_call 12; (with_reducible refine (code_nil _).mono ?_); rintro e _ ⟨rfl, y11, rfl⟩)
                | (go_at_call 15; (with_reducible refine (HTOP.out _ G10.out).mono ?_); rintro e _ ⟨rfl, rfl⟩)
                | (go_at_call 9; (with_reducible refine (HERR.out _).mono ?_); rintro e _ ⟨rfl, ye, rfl⟩)
                | ((with_reducible refine (HER.out _ ye.gr).mono ?_); rintro e _ ⟨rfl, y5, rfl⟩))
            all_goals
              go_ret
              exact ⟨rfl, (G4.out.trans G10.out).ext y11⟩
end Go.Proofs.YtdgkgmlnjolloaaDoor
