/- Lemmas: what the functions of the engine answer, and which blocks they write. -/
import Derived.Laws.BytesArg
import Derived.Laws.BytesString
import Derived.Test.YtniknicnnaiilaaGreatX06
import Derived.Test.YtniknicnnaiilaaGreatX12
import Derived.Test.YtniknicnnaiilaaGreatX19
import Derived.Test.YtniknicnnaiilaaGreatX23
import Derived.Test.YtniknicnnaiilaaGreatX25
import Derived.Test.YtniknicnnaiilaaGreatX27
import Derived.Test.YtniknicnnaiilaaGreatX31
import Derived.Test.YtniknicnnaiilaaGreatX32
section
namespace Go.Proofs.YtniknicnnaiilaaGreat
set_option maxRecDepth 100000
open Go.RowKit Go.Ext Go.BigFrame Go.Maps Go.MapKept
attribute [local go_sem] Ext.cell Ext.frozen Ext.lt Ext.le s1 s2 s3 s4 s5 s6 t1 t2 t3 t4 t5 t6
attribute [local go_sem ↓] Go.wp_at_zero Go.wp_at_succ
theorem do_anyE (PUT : PutAny) (k : Nat) (E : ES) (c : Call) (d l : Value) (M S : Bl) (w : World) (h : EngR w M S k E) (hE : EOk E) (hdue : E.due.length ≤ 998000) (hc : CallM w M c d l) (hr : rightC c = true) (hnear : c.kind = 8 → E.groups = 1 ∧ E.shard = 0) :
    Calls Tryz.prog 33 #[.pointer (some ⟨k, 0, none⟩), callV c d l] w (RetF M S k (doE (shardN E.groups) E c) w) := by
  unfold rightC at hr
  simp only [Bool.and_eq_true, decide_eq_true_eq] at hr
  obtain ⟨⟨⟨⟨⟨⟨⟨⟨⟨⟨⟨⟨⟨⟨⟨⟨⟨⟨k1, k2⟩, _⟩, _⟩, _⟩, _⟩, _⟩, _⟩, _⟩, _⟩, hn⟩, _⟩, _⟩, _⟩, _⟩, _⟩, _⟩, hl⟩, _⟩ := hr
  have hn' : 0 ≤ c.n ∧ c.n ≤ 1048576 := by
    unfold numB at hn
    simpa using hn
  obtain e | e | e | e | e | e | e | e | e | e | e : c.kind = 1 ∨ c.kind = 2 ∨ c.kind = 3 ∨ c.kind = 4 ∨ c.kind = 5 ∨ c.kind = 6 ∨ c.kind = 7 ∨ c.kind = 8 ∨ c.kind = 9 ∨ c.kind = 10 ∨ c.kind = 11 := by omega
  · exact do_1 PUT k E c d l M S w h hE hdue hc e
  · exact do_2_3_4 PUT k E c d l M S w h hE hdue hc (.inl e)
  · exact do_2_3_4 PUT k E c d l M S w h hE hdue hc (.inr (.inl e))
  · exact do_2_3_4 PUT k E c d l M S w h hE hdue hc (.inr (.inr e))
  · exact do_5 PUT k E c d l M S w h hE hdue hc e
  · exact do_6 PUT k E c d l M S w h hE hdue hc e hn'
  · exact do_7 PUT k E c d l M S w h hE hdue hc e
  · exact do_8 PUT k E c d l M S w h hE hdue hc e ⟨(hnear e).1, (hnear e).2, by omega⟩
  · exact do_9 PUT k E c d l M S w h hE hdue hc e
  · exact do_10_11 PUT k E c d l M S w h hE hdue hc (.inl e)
  · exact do_10_11 PUT k E c d l M S w h hE hdue hc (.inr e)
set_option maxHeartbeats 8000000 in
theorem call_any (PUT : PutAny) (k : Nat) (E : ES) (c : Call) (d l : Value) (M S : Bl) (w : World) (h : EngR w M S k E) (hE : EOk E) (hdue : E.due.length ≤ 998000) (hc : CallM w M c d l) (hll : c.l.length ≤ 140737488351232) (hdd : ∀ d ∈ c.l, d.data.length ≤ 140737488351232) (hnear : c.kind = 8 → E.groups = 1 ∧ E.shard = 0) :
    Calls Tryz.prog 14 #[.pointer (some ⟨k, 0, none⟩), callV c d l] w (RetDo M S k (callE (shardN E.groups) E c).1 (callE (shardN E.groups) E c).2 w) := by
  obtain ⟨Ad, cd, rfl⟩ := hc.1.shape
  obtain ⟨Al, cl, rfl, _⟩ := hc.2.shape
  have HLT := hid h.lt
  have hks : k < w.heap.size := h.lt.1 k (h.lt.2.1 k h.lt.2.2)
  have HE := hid hE
  have HDUE := hid hdue
  obtain ⟨w1, hw1, g1, hb0, hb1⟩ := alloc2 w (.cells #[.int .i64 c.kind, .int .i64 c.flow, .int .i64 c.list, .int .i64 c.n, .int .i64 c.tok.flow, .int .i64 c.tok.run, .int .i64 c.tok.event, .int .i64 c.tok.turn, .slice Ad c.data.length cd, .slice Al c.l.length cl] 35) (.cells #[.int .i64 0, .int .i64 0, .int .i64 0, .bool false, .int .i64 0, .int .i64 0, .int .i64 0, .int .i64 0, .slice none 0 0, .slice none 0 0] 31)
  have G1 := hid g1
  have HB0 := hid hb0
  have HB1 := hid hb1
  have HM1 := hid (show EngR w1 (fun b => M b ∨ b = w.heap.size + 1) S k E from h.more g1 (by omega) (block_lt hb1))
  have HCM := hid (hc.up (⟨g1.mod M, fun b hb e => by
    rcases e with e | e
    · exact e
    · omega⟩ : Up M w (fun b => M b ∨ b = w.heap.size + 1) w1))
  have NS := hid (show ∀ b, w.heap.size ≤ b → ¬ S b from fun b hb e => by have := h.lt.1 b (h.lt.2.1 b e); omega)
  have HS := hid (show ∀ b, S b → b < w.heap.size from fun b e => h.lt.1 b (h.lt.2.1 b e))
  have HCHK := hid (check_any k E c _ _ _ S w1 HM1.out hE HCM.out hll hdd)
  have HDO := hid (fun k' M' S' W (hh : EngR W M' S' k' E) (hc' : CallM W M' c _ _) (hr : rightC c = true) => do_anyE PUT k' E c (.slice Ad c.data.length cd) (.slice Al c.l.length cl) M' S' W hh hE hdue hc' hr hnear)
  obtain ⟨X, hX⟩ : ∃ X, callE (shardN E.groups) E c = X := ⟨_, rfl⟩
  rw [hX]
  have HX := hid hX
  obtain ⟨y, hy⟩ : ∃ y, checkE (shardN E.groups) E c = y := ⟨_, rfl⟩
  have HY := hid hy
  rw [hy] at HCHK
  have hy01 : y = 0 ∧ rightC c = true ∨ y = 1 := by
    rw [← hy]
    unfold checkE
    by_cases hr : rightC c = true
    · split
      · exact .inr rfl
      · exact .inl ⟨rfl, hr⟩
    · exact .inr (by rw [if_pos (.inl (by simpa using hr))])
  have HY01 := hid hy01
  clear hX hc hE hdue h g1 hb0 hb1 hll hdd hnear hy hy01
  rcases c with ⟨ck, cf, cli, cn, ⟨tf, tr, te, tt⟩, cdat, cls⟩
  simp only [callV, callC] at *
  generalize cdat.length = dl at *
  generalize cls.length = ll at *
  have HW1 := hid hw1
  clear hw1
  obtain ⟨a0, a1, a2, a3, a4, a5, a6, a7, a8, a9⟩ := cells10 HB0.out
  obtain ⟨b0, b1, b2, b3, b4, b5, b6, b7, b8, b9⟩ := cells10 HB1.out
  have l0 := block_lt HB0.out
  have l1 := block_lt HB1.out
  rcases HY01.out with ⟨rfl, hright⟩ | rfl
  rotate_left
  · have HXX := hid (show X = (failA 1, E) from by rw [← HX.out]; unfold callE; rw [HY.out]; rfl)
    have HFL := hid (fun W => fail_any 1 W)
    go_enter Tryz.func14, Tryz.ntmps14
    go_upto_region 1 with fail
    rw [HW1.out]
    go_wp2_with (first
      | (go_at_call 31; refine HCHK.out.mono ?_; rintro en _ ⟨rfl, y1, rfl⟩)
      | (go_at_call 32; refine (HFL.out _).mono ?_; rintro en _ ⟨rfl, y2, rfl⟩; (have G4 := hid (y1.gr.trans y2.gr)); (have r4 := (G4.out.block _ l1).trans HB1.out); clear b0 b1 b2 b3 b4 b5 b6 b7 b8 b9; (obtain ⟨b0, b1, b2, b3, b4, b5, b6, b7, b8, b9⟩ := cells10 r4); (have l4 := block_lt r4); (obtain ⟨f0, f1, f2, f3, f4, f5, f6, f7, f8, f9⟩ := FZ r4)))
    have HF := hid (show ∀ w3, Mod (fun x => x = w.heap.size + 1) y2.val w3 → RetDo M S k X.1 X.2 w (.returned (ansV (failA 1) (.slice none 0 0) (.slice none 0 0))) w3 from fun w3 m => by
      rw [HXX.out]
      have hd : BysM y2.val (fun b => M b ∨ b = w.heap.size + 1) (.slice none 0 0) (failA 1).data := BysM.none _ _
      have he : RecsM evR y2.val (fun b => M b ∨ b = w.heap.size + 1) (.slice none 0 0) (failA 1).events := RecsM.none _ _ _
      exact ⟨.slice none 0 0, .slice none 0 0, _, S, rfl, fin_ans HS.out G1.out (by omega) l1 (HM1.out.gr G4.out) ((Along.refl w1 _ S).gr G4.out) hd he m⟩)
    clear r4
    refine bodyPost_ret (v := ansV (failA 1) (.slice none 0 0) (.slice none 0 0)) (by simp [results, Tryz.results14, go_sem, ansV, ansC, failA, ans0, tok0, b0, b1, b2, b3, b4, b5, b6, b7, b8, b9]) rfl ?_
    refine HF.out _ ?_
    exact mod10 y2.val (w.heap.size + 1) _ _ _ _ _ _ _ _ _ _
  · have HRT := hid hright
    go_enter Tryz.func14, Tryz.ntmps14
    go_upto_region 1 with fail
    rw [HW1.out]
    go_wp2_with (go_at_call 31; refine HCHK.out.mono ?_; rintro en _ ⟨rfl, y1, rfl⟩)
    refine (twin_anyE k E _ S _ (HM1.out.gr y1.gr) (Nat.le_trans HDUE.out (by omega))).mono ?_
    rintro en w7 ⟨M7, S7, k7, rfl, g7, heng7, hMM, hMo, hS7⟩
    have HT := hid (And.intro hMM (And.intro hMo hS7))
    have G7 := hid g7
    have HE7 := hid heng7
    have G07 := hid (y1.gr.trans g7)
    clear a0 a1 a2 a3 a4 a5 a6 a7 a8 a9 b0 b1 b2 b3 b4 b5 b6 b7 b8 b9
    obtain ⟨a0, a1, a2, a3, a4, a5, a6, a7, a8, a9⟩ := cells10 ((G07.out.block _ l0).trans HB0.out)
    have l7 := Nat.lt_of_lt_of_le l0 G07.out.size
    clear hMM hMo hS7 g7 heng7
    go_wp2_with fail
    have hup : Up (fun b => M b ∨ b = w.heap.size + 1) w1 M7 w7 := (Gr.up y1.gr _).trans ⟨G7.out.mod _, HT.out.2.1⟩
    refine (HDO.out k7 M7 S7 w7 HE7.out (HCM.out.up hup) HRT.out).mono ?_
    clear hup
    intro en w8 hg
    have hXd : X = (match doE (shardN E.groups) E ⟨ck, cf, cli, cn, ⟨tf, tr, te, tt⟩, cdat, cls⟩ with | (a, some E') => (a, E') | (_, none) => (failA 4, E)) := by
      rw [← HX.out]
      unfold callE
      rw [HY.out]
      rfl
    obtain ⟨x, hx⟩ : ∃ x, doE (shardN E.groups) E ⟨ck, cf, cli, cn, ⟨tf, tr, te, tt⟩, cdat, cls⟩ = x := ⟨_, rfl⟩
    rw [hx] at hg hXd
    have HDOE := hid hx
    clear hx
    rcases x with ⟨a, x⟩
    cases x with
    | none =>
      obtain ⟨⟨v0, v1, v2, v3, ⟨v4, v5, v6, v7⟩, v8, v9⟩, A, n, c', A', n', c'', rfl, m8⟩ := hg
      have HXX := hid hXd
      have G8 := hid (gr_newS (w := y1.val) G7.out m8 HT.out.2.2)
      have G18 := hid (y1.gr.trans G8.out)
      clear m8 a0 a1 a2 a3 a4 a5 a6 a7 a8 a9 hXd
      simp only [ansV, ansC]
      have HFL := hid (fun W => fail_any 4 W)
      have l18 := Nat.lt_of_lt_of_le l1 G18.out.size
      go_upto_region 7 with fail
      have G9 := hid ((Gr.refl w8).alloc (.cells #[.int .i64 v0, .int .i64 v1, .int .i64 v2, .bool v3, .int .i64 v4, .int .i64 v5, .int .i64 v6, .int .i64 v7, .slice A n c', .slice A' n' c''] 31))
      obtain ⟨w9, hw9⟩ : ∃ w9, w8.alloc (.cells #[.int .i64 v0, .int .i64 v1, .int .i64 v2, .bool v3, .int .i64 v4, .int .i64 v5, .int .i64 v6, .int .i64 v7, .slice A n c', .slice A' n' c''] 31) = w9 := ⟨_, rfl⟩
      rw [hw9] at G9 ⊢
      clear hw9
      go_wp2_with (go_at_call 32; refine (HFL.out _).mono ?_; rintro en _ ⟨rfl, y2, rfl⟩; (have G4 := hid ((G18.out.trans G9.out).trans y2.gr)); (have r4 := (G4.out.block _ l1).trans HB1.out); (obtain ⟨b0, b1, b2, b3, b4, b5, b6, b7, b8, b9⟩ := cells10 r4); (have l4 := block_lt r4); (obtain ⟨f0, f1, f2, f3, f4, f5, f6, f7, f8, f9⟩ := FZ r4))
      have HF := hid (show ∀ w3, Mod (fun x => x = w.heap.size + 1) y2.val w3 → RetDo M S k X.1 X.2 w (.returned (ansV (failA 4) (.slice none 0 0) (.slice none 0 0))) w3 from fun w3 m => by
        rw [HXX.out]
        have hd : BysM y2.val (fun b => M b ∨ b = w.heap.size + 1) (.slice none 0 0) (failA 4).data := BysM.none _ _
        have he : RecsM evR y2.val (fun b => M b ∨ b = w.heap.size + 1) (.slice none 0 0) (failA 4).events := RecsM.none _ _ _
        exact ⟨.slice none 0 0, .slice none 0 0, _, S, rfl, fin_ans HS.out G1.out (by omega) l1 (HM1.out.gr G4.out) ((Along.refl w1 _ S).gr G4.out) hd he m⟩)
      clear r4
      refine bodyPost_ret (v := ansV (failA 4) (.slice none 0 0) (.slice none 0 0)) (by simp [results, Tryz.results14, go_sem, ansV, ansC, failA, ans0, tok0, b0, b1, b2, b3, b4, b5, b6, b7, b8, b9]) rfl ?_
      refine HF.out _ ?_
      exact mod10 y2.val (w.heap.size + 1) _ _ _ _ _ _ _ _ _ _
    | some E' =>
      obtain ⟨dv, ev, M8, S8, rfl, heng8, hal8, hdv, hev⟩ := hg
      have HXX := hid hXd
      have HAL8 := hid hal8
      have HDV := hid hdv
      have HEV := hid hev
      obtain ⟨kd8, ka8, md8, ma8, mr8, kh8, hv8, hP8⟩ := heng8
      have HP8 := hid hP8
      have hk7 : k7 < w8.heap.size := hP8.cells.2.2.2.2.2.2.2
      obtain ⟨kd, ka, md, ma, mr, kh, hv, hP⟩ := HM1.out
      have hkl1 : k < w1.heap.size := block_lt hP.cell
      have hS7k : ¬ S7 k := fun e => by have := HT.out.2.2 k e; have := y1.gr.size; omega
      have hk8 := (hal8.mod.block k (Nat.lt_of_lt_of_le hkl1 G07.out.size) hS7k).trans ((G07.out.block k hkl1).trans hP.cell)
      have HK8 := hid hk8
      have hkl8 := block_lt hk8
      obtain ⟨Adv, cdv, rfl⟩ := hdv.shape
      obtain ⟨Aev, cev, rfl, _⟩ := hev.shape
      clear hal8 hdv hev hP8 hk8 hP hXd a0 a1 a2 a3 a4 a5 a6 a7 a8 a9
      rcases a with ⟨v0, v1, v2, v3, ⟨v4, v5, v6, v7⟩, v8, v9⟩
      simp only [ansV, ansC]
      simp only at HDV HEV
      generalize v8.length = v8l at *
      generalize v9.length = v9l at *
      go_upto_region 8 with fail
      have HB9 := hid (heap_alloc_new w8 (.cells #[.int .i64 v0, .int .i64 v1, .int .i64 v2, .bool v3, .int .i64 v4, .int .i64 v5, .int .i64 v6, .int .i64 v7, .slice Adv v8l cdv, .slice Aev v9l cev] 31))
      have G9 := hid ((Gr.refl w8).alloc (.cells #[.int .i64 v0, .int .i64 v1, .int .i64 v2, .bool v3, .int .i64 v4, .int .i64 v5, .int .i64 v6, .int .i64 v7, .slice Adv v8l cdv, .slice Aev v9l cev] 31))
      obtain ⟨w9, hw9⟩ : ∃ w9, w8.alloc (.cells #[.int .i64 v0, .int .i64 v1, .int .i64 v2, .bool v3, .int .i64 v4, .int .i64 v5, .int .i64 v6, .int .i64 v7, .slice Adv v8l cdv, .slice Aev v9l cev] 31) = w9 := ⟨_, rfl⟩
      rw [hw9] at HB9 G9 ⊢
      clear hw9
      have hk7 : k7 < w9.heap.size := Nat.lt_of_lt_of_le hk7 G9.out.size
      obtain ⟨g0, g1, g2, g3, g4, g5, g6, g7⟩ := (HP8.out.gr G9.out).cells
      have hk9 := (G9.out.block k hkl8).trans HK8.out
      have HK9 := hid hk9
      have hkl9 := block_lt hk9
      have z0 := frozen_of (j := 0) hk9
      have z1 := frozen_of (j := 1) hk9
      have z2 := frozen_of (j := 2) hk9
      have z3 := frozen_of (j := 3) hk9
      have z4 := frozen_of (j := 4) hk9
      have z5 := frozen_of (j := 5) hk9
      have z6 := frozen_of (j := 6) hk9
      obtain ⟨y0, y1_, y2, y3, y4, y5, y6⟩ := cells7e hk9
      clear hk9
      go_upto_region 9 with fail
      clear y0 y1_ y2 y3 y4 y5 y6
      obtain ⟨w10, hw10, m10, hc10⟩ := set7_heap (a' := .pointer (some ⟨kd8, 0, none⟩)) (b' := .pointer (some ⟨ka8, 0, none⟩)) (c' := .int .i64 E'.shard) (d' := .int .i64 E'.groups) (e' := .int .i64 E'.now) (f' := .map (some mr8)) (g' := .pointer (some ⟨kh8, 0, none⟩)) HK9.out
      rw [hw10]
      clear hw10
      have hkM : M8 k := HAL8.out.mm k (HT.out.1 k (.inl (HLT.out.2.1 k HLT.out.2.2)))
      have hkS : ¬ S8 k := fun e => hS7k (HAL8.out.s k (Nat.lt_of_lt_of_le hkl1 G07.out.size) e)
      have H10 := hid ((HP8.out.gr G9.out).move m10 hc10 hkM hkS)
      have HAL10 := hid (along_copy (Along.refl w1 (fun b => M b ∨ b = w.heap.size + 1) S) y1.gr G7.out HT.out.1 HT.out.2.1 HT.out.2.2 (HAL8.out.gr G9.out) m10 HLT.out.2.2)
      have U10 := hid ((Gr.up G9.out M8).trans (Mod.up m10 (fun _ _ e => e ▸ hkM)))
      have p4 := (m10.block w8.heap.size (block_lt HB9.out) (by show ¬ w8.heap.size = k; omega)).trans HB9.out
      obtain ⟨p0, p1, p2, p3, p4', p5, p6, p7, p8, p9⟩ := cells10 p4
      have lp := block_lt p4
      have r4 := (HAL10.out.mod.block (w.heap.size + 1) l1 (NS.out _ (Nat.le_succ _))).trans HB1.out
      obtain ⟨b0, b1, b2, b3, b4, b5, b6, b7, b8, b9⟩ := cells10 r4
      have l5 := block_lt r4
      obtain ⟨f0, f1, f2, f3, f4, f5, f6, f7, f8, f9⟩ := FZ r4
      have HF := hid (show ∀ w3, Mod (fun x => x = w.heap.size + 1) w10 w3 → RetDo M S k X.1 X.2 w (.returned (ansV ⟨v0, v1, v2, v3, ⟨v4, v5, v6, v7⟩, v8, v9⟩ (.slice Adv v8l cdv) (.slice Aev v9l cev))) w3 from fun w3 m => by
        rw [HXX.out]
        have hfin := fin_ans (a := ⟨v0, v1, v2, v3, ⟨v4, v5, v6, v7⟩, v8, v9⟩) HS.out G1.out (Nat.le_succ w.heap.size) l1 (show EngR w10 M8 _ k E' from ⟨_, _, _, _, _, _, _, H10.out⟩) HAL10.out (HDV.out.up U10.out) (HEV.out.up U10.out) m
        exact ⟨.slice Adv v8l cdv, .slice Aev v9l cev, M8, _, rfl, hfin⟩)
      clear p4 r4 hc10 hkM hkS g0 g1 g2 g3 g4 g5 g6 g7
      go_wp2_with fail
      refine bodyPost_ret (v := ansV ⟨v0, v1, v2, v3, ⟨v4, v5, v6, v7⟩, v8, v9⟩ (.slice Adv v8l cdv) (.slice Aev v9l cev)) (by simp [results, Tryz.results14, go_sem, ansV, ansC, b0, b1, b2, b3, b4, b5, b6, b7, b8, b9]) rfl ?_
      refine HF.out _ ?_
      exact mod10 w10 (w.heap.size + 1) _ _ _ _ _ _ _ _ _ _
def RetN (M : Bl) (E : ES) (w : World) (e : Ending) (w' : World) : Prop :=
  ∃ M' S' k', e = .returned (.tuple #[.pointer (some ⟨k', 0, none⟩), .int .i64 0]) ∧ Gr w w' ∧ EngR w' M' S' k' E ∧ (∀ b, M b → M' b) ∧ (∀ b, b < w.heap.size → M' b → M b) ∧ ∀ b, S' b → w.heap.size ≤ b
theorem newL_all (w : World) : Calls Tryz.prog 35 #[.int .i64 1024] w (fun e w' => ∃ k' mb', e = .returned (.tuple #[.pointer (some ⟨k', 0, none⟩), .int .i64 0]) ∧ TwL w (fun _ => True) [] k' mb' w') := by
  have hmm := @run_makeMap Tryz.prog
  go_enter Tryz.func35, Tryz.ntmps35
  go_wp2_with fail
  go_ret2
  have G : Gr w ((w.alloc (.map #[] 0)).alloc (.cells #[.int .i64 1024, .map (some w.heap.size)] 135)) := ((Gr.refl w).alloc _).alloc _
  refine ⟨w.heap.size + 1, w.heap.size, ?_, by omega, Nat.le_refl _, by simp, by simp; omega, by omega, G, fun M' _ => ⟨?_, [], ?_, trivial⟩⟩
  · simp
  · have := heap_alloc_new (w.alloc (.map #[] 0)) (.cells #[.int .i64 1024, .map (some w.heap.size)] 135)
    rw [show (w.alloc (.map #[] 0)).heap.size = w.heap.size + 1 by simp] at this
    exact this
  · exact (MI.made w).gr ((Gr.refl _).alloc _)
set_option maxHeartbeats 4000000 in
theorem new_anyE (shard groups : Int) (M : Bl) (w : World) (hM : ∀ b, M b → b < w.heap.size) (hg : 1 ≤ groups ∧ groups ≤ 8) (hs : 0 ≤ shard ∧ shard < groups) : Calls Tryz.prog 17 #[.int .i64 shard, .int .i64 groups] w (RetN M (e0 shard groups) w) := by
  have hmm := @run_makeMap Tryz.prog
  obtain ⟨n1, n2⟩ := hg
  obtain ⟨n3, n4⟩ := hs
  have HM := hid hM
  clear hM
  go_enter Tryz.func17, Tryz.ntmps17
  go_upto_region 4 with (go_at_call 34; refine (new_any _ _ (Nat.le_refl _)).mono ?_; rintro en w2 ⟨rfl, hb2, g2⟩; have HB2 := hid hb2; have G2 := hid g2; clear hb2 g2)
  have HB3 := hid (heap_alloc_new w2 (.cells #[.pointer none, .pointer none, .int .i64 shard, .int .i64 groups, .int .i64 0, .map (some w.heap.size), .pointer (some ⟨w.heap.size + 1, 0, none⟩)] 79))
  have G3 := hid ((Gr.refl w2).alloc (.cells #[.pointer none, .pointer none, .int .i64 shard, .int .i64 groups, .int .i64 0, .map (some w.heap.size), .pointer (some ⟨w.heap.size + 1, 0, none⟩)] 79))
  obtain ⟨w3, hw3⟩ : ∃ w3, w2.alloc (.cells #[.pointer none, .pointer none, .int .i64 shard, .int .i64 groups, .int .i64 0, .map (some w.heap.size), .pointer (some ⟨w.heap.size + 1, 0, none⟩)] 79) = w3 := ⟨_, rfl⟩
  rw [hw3] at HB3 G3 ⊢
  clear hw3
  obtain ⟨ke, hke⟩ : ∃ ke, w2.heap.size = ke := ⟨_, rfl⟩
  rw [hke] at HB3 ⊢
  have HKE := hid hke
  clear hke
  have lke := block_lt HB3.out
  go_upto_region 5 with (go_at_call 35; refine (newL_all _).mono ?_; rintro en w4 ⟨kd, md, rfl, td⟩; (have TD := hid td); (have HB4 := hid ((td.2.2.2.2.2.1.block ke lke).trans HB3.out)); (obtain ⟨y0, y1, y2, y3, y4, y5, y6⟩ := cells7e HB4.out); (have z0 := frozen_of (j := 0) HB4.out); (have lk4 := block_lt HB4.out); clear td)
  have M5 := hid (mod_set (S := fun b => b = ke) ((Gr.refl w4).mod _) (b := ke) (j := 0) (fun _ => rfl) (.pointer (some ⟨kd, 0, none⟩)))
  have HB5 := hid (set1_heap (j := 0) HB4.out (.pointer (some ⟨kd, 0, none⟩)))
  obtain ⟨w5, hw5⟩ : ∃ w5, w4.setCell ⟨ke, 0, none⟩ (.pointer (some ⟨kd, 0, none⟩)) = w5 := ⟨_, rfl⟩
  rw [hw5] at M5 HB5 ⊢
  clear hw5 y0 y1 y2 y3 y4 y5 y6 z0
  have lk5 := block_lt HB5.out
  go_upto_region 6 with (go_at_call 35; refine (newL_all _).mono ?_; rintro en w6 ⟨ka, ma, rfl, ta⟩; (have TA := hid ta); (have HB6 := hid ((ta.2.2.2.2.2.1.block ke lk5).trans HB5.out)); (obtain ⟨y0, y1, y2, y3, y4, y5, y6⟩ := cells7e HB6.out); (have z1 := frozen_of (j := 1) HB6.out); (have lk6 := block_lt HB6.out); clear ta)
  have M7 := hid (mod_set (S := fun b => b = ke) ((Gr.refl w6).mod _) (b := ke) (j := 1) (fun _ => rfl) (.pointer (some ⟨ka, 0, none⟩)))
  have HB7 := hid (set1_heap (j := 1) HB6.out (.pointer (some ⟨ka, 0, none⟩)))
  obtain ⟨w7, hw7⟩ : ∃ w7, w6.setCell ⟨ke, 1, none⟩ (.pointer (some ⟨ka, 0, none⟩)) = w7 := ⟨_, rfl⟩
  rw [hw7] at M7 HB7 ⊢
  clear hw7 y0 y1 y2 y3 y4 y5 y6 z1
  go_wp2_with fail
  go_ret2
  obtain ⟨td1, td2, td3, td4, td5, td6, td7⟩ := TD.out
  obtain ⟨ta1, ta2, ta3, ta4, ta5, ta6, ta7⟩ := TA.out
  have s3 := G3.out.size
  have s5 := M5.out.size
  have s7 := M7.out.size
  have s6 := ta6.size
  have s4 := td6.size
  have hke := HKE.out
  have sz2 := G2.out.size
  simp only [World.size_alloc] at sz2
  have h2 := HB2.out
  rw [show (w.alloc (.map #[] 0)).heap.size = w.heap.size + 1 by simp] at h2
  have G02 : Gr w w2 := ((Gr.refl w).alloc _).trans G2.out
  have G07 : Gr w w7 := gr_k (gr_k (G02.trans (G3.out.trans td6)) M5.out (by omega) |>.trans ta6) M7.out (by omega)
  have m47 : Mod (fun b => b = ke) w4 w7 := ((M5.out.gr ta6).trans M7.out (fun _ _ e => e))
  have hkd : w7.heap[kd]? = w4.heap[kd]? := m47.block kd td3 (by show ¬ kd = ke; omega)
  have hmd : w7.heap[md]? = w4.heap[md]? := m47.block md td4 (by show ¬ md = ke; omega)
  have hka : w7.heap[ka]? = w6.heap[ka]? := M7.out.block ka ta3 (by show ¬ ka = ke; omega)
  have hma : w7.heap[ma]? = w6.heap[ma]? := M7.out.block ma ta4 (by show ¬ ma = ke; omega)
  have hold : ∀ b, b < w.heap.size → (M b ∨ (b = ke ∨ b = md ∨ b = ma ∨ b = w.heap.size ∨ b = w.heap.size + 1)) → M b := fun b hb e => by
    rcases e with e | e | e | e | e | e
    · exact e
    all_goals omega
  refine ⟨fun b => M b ∨ (b = ke ∨ b = md ∨ b = ma ∨ b = w.heap.size ∨ b = w.heap.size + 1), fun b => b = ke ∨ b = md ∨ b = ma ∨ b = w.heap.size ∨ b = w.heap.size + 1, ke, rfl, G07, ⟨kd, ka, md, ma, w.heap.size, w.heap.size + 1, .slice none 0 0, ?_⟩, fun b e => .inl e, hold, fun b e => by rcases e with e | e | e | e | e <;> omega⟩
  have hM := HM.out
  have LD : ListR w7 (fun b => M b ∨ (b = ke ∨ b = md ∨ b = ma ∨ b = w.heap.size ∨ b = w.heap.size + 1)) kd md [] := (td7 _ (fun _ _ _ => trivial)).up ⟨m47.mono (fun b _ e => .inr (.inl e)), fun _ _ e => e⟩ hkd hmd
  have LA : ListR w7 (fun b => M b ∨ (b = ke ∨ b = md ∨ b = ma ∨ b = w.heap.size ∨ b = w.heap.size + 1)) ka ma [] := (ta7 _ (fun _ _ _ => trivial)).up ⟨M7.out.mono (fun b _ e => .inr (.inl e)), fun _ _ e => e⟩ hka hma
  have gm : Gr (w.alloc (.map #[] 0)) w7 := gr_k (gr_k (G2.out.trans (G3.out.trans td6)) M5.out (by simp; omega) |>.trans ta6) M7.out (by simp; omega)
  have g27 : Gr w2 w7 := gr_k (gr_k (G3.out.trans td6) M5.out (by omega) |>.trans ta6) M7.out (by omega)
  refine ⟨HB7.out, LD, LA, ⟨[], (MI.made w).gr gm, trivial⟩, ?_, .inl rfl, .inr (.inl rfl), .inr (.inr (.inl rfl)), .inr (.inr (.inr (.inl rfl))), .inr (.inr (.inr (.inr rfl))), (fun b e => by cases e), ?_, ?_, by omega, by omega, by omega, fun b e => .inr e, ?_⟩
  · exact ⟨Nat.zero_le _, (g27.block _ h2.lt).trans h2.cell, h2.row.1, .inl ⟨rfl, rfl⟩⟩
  · rintro (e | e | e | e | e | e)
    · have := hM _ e; omega
    all_goals omega
  · rintro (e | e | e | e | e | e)
    · have := hM _ e; omega
    all_goals omega
  · rintro b (e | e | e | e | e | e)
    · have := hM _ e; omega
    all_goals omega
def sh0 : Int → Int := fun _ => 0
abbrev call1 (E : ES) (c : Call) : Ans × ES := callE sh0 E c
def k1 : Ans × ES := call1 (e0 0 1) ⟨1, 3, 1, 5, tok0, [], []⟩
def k2 : Ans × ES := call1 k1.2 ⟨7, 0, 1, 0, tok0, [], []⟩
def k3 : Ans × ES := call1 k2.2 ⟨8, 0, 0, 0, ⟨3, 1, 2, 0⟩, [], [⟨5, 0, 0, 0, [120]⟩]⟩
def k4 : Ans × ES := call1 k3.2 ⟨5, 3, 0, 0, tok0, [], []⟩
theorem k1_run : k1.1.run = 1 := by decide
theorem k2_given : k2.1.given = true := by decide
theorem k2_tok : k2.1.tok = ⟨3, 1, 2, 0⟩ := by decide
theorem k3_err : k3.1.err = 0 := by decide
theorem k4_status : k4.1.status = 2 := by decide
theorem k4_data : k4.1.data = [120] := by decide
theorem ok_e0 (shard groups : Int) (h : 0 ≤ shard ∧ shard < groups ∧ groups ≤ 8) : EOk (e0 shard groups) := by
  refine ⟨h, ⟨Int.le_refl _, by simp [e0]⟩, List.Pairwise.nil, by simp [e0], ⟨List.Pairwise.nil, by simp [e0]⟩, ⟨⟨List.Pairwise.nil, by simp [e0]⟩, by simp [e0]⟩, List.Pairwise.nil⟩
def sb (bs : List UInt8) : ByteArray := if bs = [] then ByteArray.empty else strOfNums (bs.map fun b => (b.toNat : Int))
theorem conv_bys {w : World} {d : Value} {bs : List UInt8} (h : Bys w d bs) : (convert 22 9 d).run Tryz.prog w = .ok (.string (sb bs)) w := by
  obtain ⟨A, c, rfl, hl, hr, hn⟩ := h
  by_cases hb : bs = []
  · subst hb
    rw [run_convert_bytes_string w 22 9 5 A _ c Tryz.underlying22 Tryz.underlying5 Tryz.underlying9]
    cases A with
    | none => simp [Conv.bytesToString, sb]
    | some a =>
      have := run_bytesToString (P := Tryz.prog) w a 0 c [] (by have := run_loadCells_list (P := Tryz.prog) w a [] (by simp); simpa using this)
      simpa [sb] using this
  · obtain ⟨b, off, rfl, hc⟩ := hr (by simpa [bc] using hb)
    unfold sb
    rw [if_neg hb]
    refine run_convert_bytes_arg w 22 5 Tryz.underlying22 Tryz.underlying5 b off bs.length c _ (by simp) (fun i hi => ?_) 9 Tryz.underlying9
    rw [hc i (.int .u8 (bs[i]'hi).toNat) (by simp [bc, hi])]
    simp [List.getD, hi]
def eqS (x y : List UInt8) : Bool := (sb x).toList == (sb y).toList
theorem eqS_refl (x : List UInt8) : eqS x x = true := by simp [eqS]
def sameE (x y : Ev) : Bool := x.kind == y.kind && x.tick == y.tick && x.ref == y.ref && x.id == y.id && x.list == y.list && x.n == y.n && eqS x.data y.data
def sameEs : List Ev → List Ev → Bool
  | [], [] => true
  | x :: xs, y :: ys => sameE x y && sameEs xs ys
  | _, _ => false
def sameA (a b : Ans) : Bool := a.err == b.err && a.run == b.run && a.status == b.status && a.given == b.given && decide (a.tok = b.tok) && eqS a.data b.data && sameEs a.events b.events
theorem sameE_refl (x : Ev) : sameE x x = true := by simp [sameE, eqS_refl]
theorem sameEs_refl : ∀ l : List Ev, sameEs l l = true
  | [] => rfl
  | x :: xs => by simp [sameEs, sameE_refl, sameEs_refl xs]
theorem sameA_refl (a : Ans) : sameA a a = true := by simp [sameA, eqS_refl, sameEs_refl]
theorem eqBytes_any (x y : List UInt8) (vx vy : Value) (w : World) (hx : Bys w vx x) (hy : Bys w vy y) : Calls Tryz.prog 39 #[vx, vy] w (RetE (.bool (eqS x y)) w) := by
  have c1 := conv_bys hx
  have c2 := conv_bys hy
  obtain ⟨A, c, rfl, _⟩ := hx
  obtain ⟨B, d, rfl, _⟩ := hy
  refine retE ?_
  unfold eqS
  go_enter Tryz.func39, Tryz.ntmps39
  go_wp2_with fail
  go_ret
  exact ⟨rfl, Gr.refl w⟩
set_option maxHeartbeats 4000000 in
theorem sameE_any (x y : Ev) (dx dy : Value) (w : World) (hx : Bys w dx x.data) (hy : Bys w dy y.data) : Calls Tryz.prog 41 #[evV x dx, evV y dy] w (RetE (.bool (sameE x y)) w) := by
  have HEQ := hid (fun W (g : Gr w W) => eqBytes_any x.data y.data dx dy W (hx.gr g) (hy.gr g))
  obtain ⟨A, c, rfl, _⟩ := hx
  obtain ⟨B, d, rfl, _⟩ := hy
  rcases x with ⟨xk, xa, xr, xi, xl, xn, xd⟩
  rcases y with ⟨yk, ya, yr, yi, yl, yn, yd⟩
  obtain ⟨R, hR⟩ : ∃ R, sameE ⟨xk, xa, xr, xi, xl, xn, xd⟩ ⟨yk, ya, yr, yi, yl, yn, yd⟩ = R := ⟨_, rfl⟩
  rw [hR]
  simp only [sameE] at hR
  simp only [evV] at *
  obtain ⟨e, he⟩ : ∃ e, eqS xd yd = e := ⟨_, rfl⟩
  rw [he] at hR HEQ
  clear he
  generalize xd.length = xdl at *
  generalize yd.length = ydl at *
  refine retE ?_
  cases z0 : (xk == yk)
  · rw [z0] at hR
    replace hR : false = R := hR
    subst hR
    go_enter Tryz.func41, Tryz.ntmps41
    go_wp2_with fail
    go_ret
    exact ⟨rfl, ((Gr.refl w).alloc _).alloc _⟩
  · rw [z0] at hR
    cases z1 : (xa == ya)
    · rw [z1] at hR
      replace hR : false = R := hR
      subst hR
      go_enter Tryz.func41, Tryz.ntmps41
      go_wp2_with fail
      go_ret
      exact ⟨rfl, ((Gr.refl w).alloc _).alloc _⟩
    · rw [z1] at hR
      cases z2 : (xr == yr)
      · rw [z2] at hR
        replace hR : false = R := hR
        subst hR
        go_enter Tryz.func41, Tryz.ntmps41
        go_wp2_with fail
        go_ret
        exact ⟨rfl, ((Gr.refl w).alloc _).alloc _⟩
      · rw [z2] at hR
        cases z3 : (xi == yi)
        · rw [z3] at hR
          replace hR : false = R := hR
          subst hR
          go_enter Tryz.func41, Tryz.ntmps41
          go_wp2_with fail
          go_ret
          exact ⟨rfl, ((Gr.refl w).alloc _).alloc _⟩
        · rw [z3] at hR
          cases z4 : (xl == yl)
          · rw [z4] at hR
            replace hR : false = R := hR
            subst hR
            go_enter Tryz.func41, Tryz.ntmps41
            go_wp2_with fail
            go_ret
            exact ⟨rfl, ((Gr.refl w).alloc _).alloc _⟩
          · rw [z4] at hR
            cases z5 : (xn == yn)
            · rw [z5] at hR
              replace hR : false = R := hR
              subst hR
              go_enter Tryz.func41, Tryz.ntmps41
              go_wp2_with fail
              go_ret
              exact ⟨rfl, ((Gr.refl w).alloc _).alloc _⟩
            · rw [z5] at hR
              replace hR : e = R := hR
              subst hR
              go_enter Tryz.func41, Tryz.ntmps41
              go_wp2_with (go_at_call 39; refine (HEQ.out _ (((Gr.refl w).alloc _).alloc _)).mono ?_; rintro en _ ⟨rfl, y1, rfl⟩)
              go_ret
              exact ⟨rfl, (((Gr.refl w).alloc _).alloc _).ext y1⟩
theorem ev_at {w : World} {M : Bl} {A : Option Addr} {n c i : Nat} {l : List Ev} {d : Ev} (h : RecsM evR w M (.slice A n c) l) (hd : l[i]? = some d) : ∃ b off A' c', A = some ⟨b, off, none⟩ ∧ b < w.heap.size ∧ BysM w M (.slice A' d.data.length c') d.data ∧
    w.cell? ⟨b, off + i * 7, none⟩ = some (.int .i64 d.kind) ∧ w.cell? ⟨b, off + i * 7 + 1, none⟩ = some (.int .i64 d.tick) ∧ w.cell? ⟨b, off + i * 7 + 2, none⟩ = some (.int .i64 d.ref) ∧ w.cell? ⟨b, off + i * 7 + 3, none⟩ = some (.int .i64 d.id) ∧ w.cell? ⟨b, off + i * 7 + 4, none⟩ = some (.int .i64 d.list) ∧ w.cell? ⟨b, off + i * 7 + 5, none⟩ = some (.int .i64 d.n) ∧ w.cell? ⟨b, off + i * 7 + 6, none⟩ = some (.slice A' d.data.length c') := by
  obtain ⟨b, off, v, h1, h2, h3, h4, h5⟩ := h.at_ (m := 6) (fun x => evR_len x) hd
  obtain ⟨A', c', rfl⟩ := h4.shape
  exact ⟨b, off, A', c', h1, h2, h4, h5 0 _ rfl, h5 1 _ rfl, h5 2 _ rfl, h5 3 _ rfl, h5 4 _ rfl, h5 5 _ rfl, h5 6 _ rfl⟩
theorem sameEs_len : ∀ {l m : List Ev}, l.length ≠ m.length → sameEs l m = false
  | [], [], h => absurd rfl h
  | [], _ :: _, _ => rfl
  | _ :: _, [], _ => rfl
  | x :: xs, y :: ys, h => by
    unfold sameEs
    rw [sameEs_len (l := xs) (m := ys) (by simpa using h), Bool.and_false]
set_option maxHeartbeats 4000000 in
theorem sameEs_any (l m : List Ev) (vl vm : Value) (M : Bl) (w : World) (hl : RecsM evR w M vl l) (hm : RecsM evR w M vm m) (hll : l.length ≤ 1000000) (_ : m.length ≤ 1000000) :
    Calls Tryz.prog 40 #[vl, vm, .func (.func 41) #[] #[]] w (RetE (.bool (sameEs l m)) w) := by
  obtain ⟨A, c, rfl, hlc⟩ := hl.shape
  obtain ⟨B, d, rfl, hmd⟩ := hm.shape
  have HL := hid hl
  have HM := hid hm
  clear hl hm
  refine retE ?_
  by_cases hlen : l.length = m.length
  · have HLEN := hid hlen
    have hne : ((l.length : Int) != (m.length : Int)) = false := by simp [hlen]
    clear hlen
    have hX : sameEs (l.drop 0) (m.drop 0) = sameEs l m := by simp
    have HX := hid hX
    clear hX
    go_enter Tryz.func40, Tryz.ntmps40
    go_wp2_with fail
    go_loopw [17] (fun iv wr => ∃ i : Nat, iv = .int .i64 i ∧ i ≤ l.length ∧ Gr w wr ∧ sameEs (l.drop i) (m.drop i) = sameEs l m) (fun iv _ => l.length - (intOf iv).toNat)
    case atStart => exact ⟨0, rfl, Nat.zero_le _, Gr.refl w, HX.out⟩
    case round =>
      obtain ⟨i, rfl, hi, hgr, hall⟩ := hrel
      have HG := hid hgr
      have HALL := hid hall
      clear hgr hall
      by_cases hlt : i < l.length
      · have hlt2 : i < m.length := by have := HLEN.out; omega
        have hg1 : l[i]? = some l[i] := List.getElem?_eq_getElem hlt
        have hg2 : m[i]? = some m[i] := List.getElem?_eq_getElem hlt2
        have hd1 : l.drop i = l[i] :: l.drop (i + 1) := List.drop_eq_getElem_cons hlt
        have hd2 : m.drop i = m[i] :: m.drop (i + 1) := List.drop_eq_getElem_cons hlt2
        rw [hd1, hd2] at HALL
        obtain ⟨b, off, A', c', rfl, hb, hdat, c0, c1_, c2, c3, c4, c5, c6⟩ := ev_at (HL.out.up (Gr.up HG.out M)) hg1
        obtain ⟨b2, off2, B', d', rfl, hb2, hdat2, k0, k1, k2, k3, k4, k5, k6⟩ := ev_at (HM.out.up (Gr.up HG.out M)) hg2
        generalize l[i] = x at *
        generalize m[i] = y at *
        have HC := hid (fun W (g : Gr wr W) => sameE_any x y _ _ W (hdat.bys.gr g) (hdat2.bys.gr g))
        clear hdat hdat2 hg1 hg2 hd1 hd2
        have hlz : (i : Int) < (l.length : Int) := by omega
        have HS := hid (show sameEs (x :: l.drop (i + 1)) (y :: m.drop (i + 1)) = (sameE x y && sameEs (l.drop (i + 1)) (m.drop (i + 1))) from rfl)
        cases hb : sameE x y
        · rw [hb] at HC HS
          rcases x with ⟨xk, xa, xr, xi, xl, xn, xd⟩
          rcases y with ⟨yk, ya, yr, yi, yl, yn, yd⟩
          simp only [evV] at *
          generalize xd.length = xdl at *
          generalize yd.length = ydl at *
          go_wp2_with (go_at_call 41; refine (HC.out _ (((Gr.refl wr).alloc _).alloc _)).mono ?_; rintro en _ ⟨rfl, y1, rfl⟩)
          go_ret
          exact ⟨by rw [← HALL.out, HS.out]; rfl, HG.out.trans ((((Gr.refl wr).alloc _).alloc _).ext y1)⟩
        · rw [hb] at HC HS
          rcases x with ⟨xk, xa, xr, xi, xl, xn, xd⟩
          rcases y with ⟨yk, ya, yr, yi, yl, yn, yd⟩
          simp only [evV] at *
          generalize xd.length = xdl at *
          generalize yd.length = ydl at *
          go_wp2_with (go_at_call 41; refine (HC.out _ (((Gr.refl wr).alloc _).alloc _)).mono ?_; rintro en _ ⟨rfl, y1, rfl⟩)
          go_roundw
          case rel => exact ⟨i + 1, by go_num, by omega, HG.out.trans ((((Gr.refl wr).alloc _).alloc _).ext y1), by rw [← HALL.out, HS.out, Bool.true_and]⟩
          case measure => simp [intOf]; omega
      · have hlz : ¬ (i : Int) < (l.length : Int) := by omega
        go_wp2_with fail
        go_ret
        refine ⟨?_, HG.out⟩
        rw [← HALL.out, List.drop_eq_nil_of_le (by omega), List.drop_eq_nil_of_le (by have := HLEN.out; omega)]
        rfl
  · have hne : ((l.length : Int) != (m.length : Int)) = true := by simp; omega
    rw [sameEs_len hlen]
    go_enter Tryz.func40, Tryz.ntmps40
    go_wp2_with fail
    go_ret
    exact ⟨rfl, Gr.refl w⟩
set_option maxHeartbeats 4000000 in
theorem same_any (a b : Ans) (da ea db eb : Value) (M : Bl) (w : World) (h1 : Bys w da a.data) (h2 : RecsM evR w M ea a.events) (h3 : Bys w db b.data) (h4 : RecsM evR w M eb b.events) (hla : a.events.length ≤ 1000000) (hlb : b.events.length ≤ 1000000) :
    Calls Tryz.prog 20 #[ansV a da ea, ansV b db eb] w (RetE (.bool (sameA a b)) w) := by
  have HEQ := hid (fun W (g : Gr w W) => eqBytes_any a.data b.data da db W (h1.gr g) (h3.gr g))
  have HEV := hid (fun W (g : Gr w W) => sameEs_any a.events b.events ea eb M W (h2.up (Gr.up g M)) (h4.up (Gr.up g M)) hla hlb)
  obtain ⟨A1, c1, rfl, _⟩ := h1
  obtain ⟨A2, c2, rfl, _⟩ := h2.shape
  obtain ⟨A3, c3, rfl, _⟩ := h3
  obtain ⟨A4, c4, rfl, _⟩ := h4.shape
  clear h2 h4 hla hlb
  rcases a with ⟨ae, ar, as_, ag, ⟨a1, a2, a3, a4⟩, ad, av⟩
  rcases b with ⟨be, br, bs, bg, ⟨b1, b2, b3, b4⟩, bd, bv⟩
  obtain ⟨R, hR⟩ : ∃ R, sameA ⟨ae, ar, as_, ag, ⟨a1, a2, a3, a4⟩, ad, av⟩ ⟨be, br, bs, bg, ⟨b1, b2, b3, b4⟩, bd, bv⟩ = R := ⟨_, rfl⟩
  rw [hR]
  simp only [sameA] at hR
  simp only [ansV, ansC] at *
  obtain ⟨e, he⟩ : ∃ e, eqS ad bd = e := ⟨_, rfl⟩
  rw [he] at hR HEQ
  obtain ⟨f, hf⟩ : ∃ f, sameEs av bv = f := ⟨_, rfl⟩
  rw [hf] at hR HEV
  clear he hf
  generalize ad.length = adl at *
  generalize bd.length = bdl at *
  generalize av.length = avl at *
  generalize bv.length = bvl at *
  have heq := fun W => eq28 b1 b2 b3 b4 a1 a2 a3 a4 W
  refine retE ?_
  cases z0 : (ae == be)
  · rw [z0] at hR
    replace hR : false = R := hR
    subst hR
    go_enter Tryz.func20, Tryz.ntmps20
    go_wp2_with fail
    go_ret
    exact ⟨rfl, ((Gr.refl w).alloc _).alloc _⟩
  · rw [z0] at hR
    cases z1 : (ar == br)
    · rw [z1] at hR
      replace hR : false = R := hR
      subst hR
      go_enter Tryz.func20, Tryz.ntmps20
      go_wp2_with fail
      go_ret
      exact ⟨rfl, ((Gr.refl w).alloc _).alloc _⟩
    · rw [z1] at hR
      cases z2 : (as_ == bs)
      · rw [z2] at hR
        replace hR : false = R := hR
        subst hR
        go_enter Tryz.func20, Tryz.ntmps20
        go_wp2_with fail
        go_ret
        exact ⟨rfl, ((Gr.refl w).alloc _).alloc _⟩
      · rw [z2] at hR
        cases z3 : (ag == bg)
        · rw [z3] at hR
          replace hR : false = R := hR
          subst hR
          go_enter Tryz.func20, Tryz.ntmps20
          go_wp2_with fail
          go_ret
          exact ⟨rfl, ((Gr.refl w).alloc _).alloc _⟩
        · rw [z3] at hR
          cases z4 : decide ((⟨a1, a2, a3, a4⟩ : Tok) = ⟨b1, b2, b3, b4⟩)
          · rw [z4] at hR
            simp only [z4] at heq
            clear z4
            replace hR : false = R := hR
            subst hR
            go_enter Tryz.func20, Tryz.ntmps20
            go_wp2_with fail
            go_ret
            exact ⟨rfl, ((Gr.refl w).alloc _).alloc _⟩
          · rw [z4] at hR
            simp only [z4] at heq
            clear z4
            cases e
            · skip
              replace hR : false = R := hR
              subst hR
              go_enter Tryz.func20, Tryz.ntmps20
              go_wp2_with (first
                | (go_at_call 39; refine (HEQ.out _ (((Gr.refl w).alloc _).alloc _)).mono ?_; rintro en _ ⟨rfl, y1, rfl⟩)
                | (go_at_call 40; refine (HEV.out _ ((((Gr.refl w).alloc _).alloc _).ext y1)).mono ?_; rintro en _ ⟨rfl, y2, rfl⟩))
              go_ret
              exact ⟨rfl, (((Gr.refl w).alloc _).alloc _).ext y1⟩
            · skip
              replace hR : f = R := hR
              subst hR
              go_enter Tryz.func20, Tryz.ntmps20
              go_wp2_with (first
                | (go_at_call 39; refine (HEQ.out _ (((Gr.refl w).alloc _).alloc _)).mono ?_; rintro en _ ⟨rfl, y1, rfl⟩)
                | (go_at_call 40; refine (HEV.out _ ((((Gr.refl w).alloc _).alloc _).ext y1)).mono ?_; rintro en _ ⟨rfl, y2, rfl⟩))
              go_ret
              exact ⟨rfl, ((((Gr.refl w).alloc _).alloc _).ext y1).ext y2⟩
end Go.Proofs.YtniknicnnaiilaaGreat
end
