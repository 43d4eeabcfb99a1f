/- Lemmas: what the functions of the engine answer, and which blocks they write. -/
import Derived.ChangeOld
import Derived.Lib.SmallJoins
import Derived.OpenShut
import Derived.ProofKit
import Derived.Test.YtniknicnnaiilaaGreatX01
import Derived.Test.YtniknicnnaiilaaGreatX12
import Derived.Test.YtniknicnnaiilaaGreatX19
import Derived.Test.YtniknicnnaiilaaGreatX25
import Derived.Test.YtniknicnnaiilaaGreatX27
import Derived.Test.YtniknicnnaiilaaGreatX37
section
namespace Go.Proofs.YtniknicnnaiilaaGreat
set_option maxRecDepth 100000
open Go.RowKit Go.Ext Go.BigFrame Go.Maps Go.MapKept
attribute [local go_sem] Ext.cell Ext.frozen Ext.lt Ext.le s1 s2 s3 s4 s5 s6 t1 t2 t3 t4 t5 t6
attribute [local go_sem ↓] Go.wp_at_zero Go.wp_at_succ
theorem start_plain (g s flow : Int) (hf : 0 ≤ flow ∧ flow ≤ 1048576) :
    (callE (shardN g) (e0 s g) ⟨1, flow, 0, 1, tok0, [], []⟩).1.err = if s = shardN g flow then 0 else 1 := by
  have hr : rightC ⟨1, flow, 0, 1, tok0, [], []⟩ = true := by simp [rightC, hasFlow, hasList, hasN, hasTok, hasData, hasL, numB, tok0, hf]
  have hh : homeC (shardN g) (shardN g) ⟨1, flow, 0, 1, tok0, [], []⟩ = shardN g flow := by simp [homeC]
  by_cases h : s = shardN g flow
  · have hc : checkE (shardN g) (e0 s g) ⟨1, flow, 0, 1, tok0, [], []⟩ = 0 := by
      unfold checkE
      rw [if_neg]
      rw [hr, hh]
      simp [e0, h]
    have hn : newF flow 1 0 1 [] 0 = some (scheduleF (putF (f0 flow 1) ⟨1, 0, 0, 0, 0, 1, []⟩) 0) := by
      unfold newF
      rw [if_pos]
      simp [numB, ticksB, rightF, f0, hf]
    rw [if_pos h]
    unfold callE
    rw [hc]
    simp [doE, startE, isOpenE, e0, lk, beginF, hn, scheduleF, outs0, out0, pushR, rowOf, ans0]
  · have hc : checkE (shardN g) (e0 s g) ⟨1, flow, 0, 1, tok0, [], []⟩ = 1 := by
      unfold checkE
      rw [if_pos]
      rw [hr, hh]
      refine .inr ⟨by simp, by simp, fun e => h e.symm⟩
    rw [if_neg h]
    unfold callE
    rw [hc]
    rfl
theorem giveE_err {E E' : ES} {d : Bool} {t : Task} {a : Ans} (h : giveE E d t = some (a, E')) : a.err = 0 := by
  unfold giveE at h
  split at h
  · cases h
  · split at h
    · split at h
      · injection h with h
        injection h with h _
        rw [← h]
        rfl
      · cases h
    · cases h
theorem pollL_err (d : Bool) (list : Int) : ∀ (l : List Task) (E : ES), (pollL d list E l).1.err = 0
  | [], E => rfl
  | t :: r, E => by
    unfold pollL
    split
    · split
      · rfl
      · rename_i a E' h
        exact giveE_err h
    · exact pollL_err d list r _
theorem poll_plain (sh : Int → Int) (E : ES) (list : Int) (hl : 0 ≤ list ∧ list ≤ 1048576) : (callE sh E ⟨7, 0, list, 0, tok0, [], []⟩).1.err = 0 := by
  have hr : rightC ⟨7, 0, list, 0, tok0, [], []⟩ = true := by simp [rightC, hasFlow, hasList, hasN, hasTok, hasData, hasL, numB, tok0, hl]
  have hc : checkE sh E ⟨7, 0, list, 0, tok0, [], []⟩ = 0 := by
    unfold checkE
    rw [if_neg]
    rw [hr]
    simp
  unfold callE
  rw [hc]
  simp [doE, pollE, pollL_err]
theorem field31 (a b c d e f g h i j : Value) (w : World) : (Instr.field 31 (.agg #[a, b, c, d, e, f, g, h, i, j]) 0).run Tryz.prog w = .ok a w := by kernel_rfl
structure LawG (w0 w : World) (M S : Bl) (k : Nat) (E : ES) (n : Nat) : Prop where
  eng : EngR w M S k E
  ok : EOk E
  due : E.due.length ≤ n
  g : Gr w0 w
  s : ∀ b, S b → w0.heap.size ≤ b
section
variable {w0 w w' w2 : World} {M S M2 S2 : Bl} {k n : Nat} {E E' : ES}
theorem LawG.gr (h : LawG w0 w M S k E n) (g : Gr w w') : LawG w0 w' M S k E n := ⟨h.eng.gr g, h.ok, h.due, h.g.trans g, h.s⟩
theorem LawG.born {s g : Int} (hok : EOk (e0 s g)) (h : RetN M (e0 s g) w (.returned (.tuple #[.pointer (some ⟨k, 0, none⟩), .int .i64 0])) w') : ∃ M' S', LawG w w' M' S' k (e0 s g) 0 := by
  obtain ⟨M', S', k', e, g, h, _, _, hs⟩ := h
  injection e with e
  have : k' = k := by
    injection e with e
    have := congrArg (fun x : Array Value => x[0]?) e
    simp at this
    exact this.symm
  exact ⟨M', S', this ▸ h, hok, Nat.le_refl _, g, hs⟩
theorem LawG.call (h : LawG w0 w M S k E n) (c : Call) (d l : Value) (hn : n ≤ 998000) (hc : CallM w M c d l) (hll : c.l.length ≤ 140737488351232) (hdd : ∀ d ∈ c.l, d.data.length ≤ 140737488351232) (h8 : c.kind ≠ 8) :
    Calls Tryz.prog 14 #[.pointer (some ⟨k, 0, none⟩), callV c d l] w fun en w2 => ∃ A ca A' ca' M' S', en = .returned (ansV (callE (shardN E.groups) E c).1 (.slice A (callE (shardN E.groups) E c).1.data.length ca) (.slice A' (callE (shardN E.groups) E c).1.events.length ca')) ∧ LawG w0 w2 M' S' k (callE (shardN E.groups) E c).2 (n + 100) ∧ Along w M S w2 M' S' := by
  refine (call_any (fun k mb F e d M w h hk hmb hne hM hd hl hi h1 hw => put_any k mb F e d M w h hk hmb hne hM hd hl hi h1 hw) k E c d l M S w h.eng h.ok (Nat.le_trans h.due hn) hc hll hdd (fun e => absurd e h8)).mono ?_
  rintro en w2 ⟨dv, ev, M2, S2, rfl, h2, hal2, hd2, he2⟩
  obtain ⟨A, ca, rfl⟩ := hd2.shape
  obtain ⟨A', ca', rfl, _⟩ := he2.shape
  have hx := nx_call (shardN E.groups) E c
  exact ⟨A, ca, A', ca', M2, S2, rfl, ⟨h2, hx.ok h.ok, Nat.le_trans hx.due (Nat.add_le_add_right h.due _), gr_newS h.g hal2.mod h.s, fun b e => by
    by_cases hb : b < w.heap.size
    · exact h.s b (hal2.s b hb e)
    · have := h.g.size
      omega⟩, hal2⟩
end
theorem e0_groups (s g : Int) : (e0 s g).groups = g := rfl
set_option maxHeartbeats 8000000 in
theorem homes_any (flow groups list : Int) (w : World) (hgr : -9223372036854775808 ≤ groups ∧ groups ≤ 9223372036854775807) : Calls Tryz.prog 5 #[.int .i64 flow, .int .i64 groups, .int .i64 list] w (RetE (.bool true) w) := by
  have HKN := hid known_any
  refine retE ?_
  by_cases h0 : flow < 0
  · go_enter Tryz.func5, Tryz.ntmps5
    go_wp2_with (go_at_call 12; refine (HKN.out _).mono ?_; rintro en _ ⟨rfl, y1, rfl⟩)
    go_ret
    exact ⟨rfl, y1.gr⟩
  by_cases h1 : 1048576 < flow
  · go_enter Tryz.func5, Tryz.ntmps5
    go_wp2_with (go_at_call 12; refine (HKN.out _).mono ?_; rintro en _ ⟨rfl, y1, rfl⟩)
    go_ret
    exact ⟨rfl, y1.gr⟩
  by_cases h2 : groups < 1
  · go_enter Tryz.func5, Tryz.ntmps5
    go_wp2_with (go_at_call 12; refine (HKN.out _).mono ?_; rintro en _ ⟨rfl, y1, rfl⟩)
    go_ret
    exact ⟨rfl, y1.gr⟩
  by_cases h3 : 8 < groups
  · go_enter Tryz.func5, Tryz.ntmps5
    go_wp2_with (go_at_call 12; refine (HKN.out _).mono ?_; rintro en _ ⟨rfl, y1, rfl⟩)
    go_ret
    exact ⟨rfl, y1.gr⟩
  by_cases h4 : list < 0
  · go_enter Tryz.func5, Tryz.ntmps5
    go_wp2_with (go_at_call 12; refine (HKN.out _).mono ?_; rintro en _ ⟨rfl, y1, rfl⟩)
    go_ret
    exact ⟨rfl, y1.gr⟩
  by_cases h5 : 1048576 < list
  · go_enter Tryz.func5, Tryz.ntmps5
    go_wp2_with (go_at_call 12; refine (HKN.out _).mono ?_; rintro en _ ⟨rfl, y1, rfl⟩)
    go_ret
    exact ⟨rfl, y1.gr⟩
  have hf : 0 ≤ flow ∧ flow ≤ 1048576 := by omega
  have hg : 1 ≤ groups ∧ groups ≤ 8 := by omega
  have hl : 0 ≤ list ∧ list ≤ 1048576 := by omega
  obtain ⟨_, hH0, hH1⟩ := shardN_eq flow hg
  have hst := fun s => start_plain groups s flow hf
  have HST := hid hst
  have HF := hid hf
  have HG := hid hg
  have HL := hid hl
  have HHOME1 := hid (fun W => home_any ⟨1, flow, 0, 1, tok0, [], []⟩ (.slice none 0 0) (.slice none 0 0) groups W ⟨⟨_, _, _, rfl⟩, _, _, _, rfl⟩ (by simp) (by simp) hg)
  have HHOME5 := hid (fun W => home_any ⟨5, flow, 0, 0, tok0, [], []⟩ (.slice none 0 0) (.slice none 0 0) groups W ⟨⟨_, _, _, rfl⟩, _, _, _, rfl⟩ (by simp) (by simp) hg)
  rw [show homeC (shardN groups) (shardN groups) ⟨1, flow, 0, 1, tok0, [], []⟩ = shardN groups flow from by simp [homeC]] at HHOME1
  rw [show homeC (shardN groups) (shardN groups) ⟨5, flow, 0, 0, tok0, [], []⟩ = shardN groups flow from by simp [homeC]] at HHOME5
  simp only [callV, callC, tok0] at HHOME1 HHOME5
  have HSH2 := hid (fun W => shard2_any flow groups W hg)
  obtain ⟨H, hH⟩ : ∃ H, shardN groups flow = H := ⟨_, rfl⟩
  rw [hH] at HHOME1 HHOME5 HSH2 HST hH0 hH1
  have HH := hid (And.intro hH0 hH1)
  clear hf hl hst hH hH0 hH1 hg
  go_enter Tryz.func5, Tryz.ntmps5
  go_wp2_with (go_at_call 12; refine (HKN.out _).mono ?_; rintro en _ ⟨rfl, y1, rfl⟩)
  have HY := hid y1.gr
  go_loopw [7, 8] (fun nv sv wr => ∃ i : Nat, sv = .int .i64 i ∧ (i : Int) ≤ groups ∧ nv = .int .i64 (if H < (i : Int) then 1 else 0) ∧ Gr w wr) (fun _ sv _ => groups.toNat - (intOf sv).toNat)
  case atStart => exact ⟨0, rfl, by have := HG.out; omega, by rw [if_neg (by have := HH.out.1; omega)], HY.out⟩
  case round =>
    obtain ⟨i, rfl, hi, hnv, hgr⟩ := hrel
    have HGR := hid hgr
    clear hgr
    by_cases hlt : (i : Int) < groups
    · by_cases hs : (i : Int) = H
      · have HSH := hid hs
        rw [if_neg (by omega)] at hnv
        subst hnv
        clear hs
        go_wp2_with fail
        refine (new_anyE (i : Int) groups (fun _ => False) _ (fun _ e => e.elim) HG.out ⟨by omega, hlt⟩).mono ?_
        rintro en w2 hret
        obtain ⟨M0, S0, k, rfl, _⟩ := id hret
        obtain ⟨M2, S2, l2⟩ := LawG.born (ok_e0 (i : Int) groups ⟨by omega, hlt, HG.out.2⟩) hret
        have L2 := hid l2
        clear l2 hret
        go_wp2_with fail
        have HB3 := hid (heap_alloc_new w2 (.cells #[.int .i64 1, .int .i64 flow, .int .i64 0, .int .i64 1, .int .i64 0, .int .i64 0, .int .i64 0, .int .i64 0, .slice none 0 0, .slice none 0 0] 35))
        have N3 := hid (L2.out.eng.nS (Nat.le_refl w2.heap.size))
        have L3 := hid (L2.out.gr ((Gr.refl w2).alloc (.cells #[.int .i64 1, .int .i64 flow, .int .i64 0, .int .i64 1, .int .i64 0, .int .i64 0, .int .i64 0, .int .i64 0, .slice none 0 0, .slice none 0 0] 35)))
        obtain ⟨w3, hw3⟩ : ∃ w3, w2.alloc (.cells #[.int .i64 1, .int .i64 flow, .int .i64 0, .int .i64 1, .int .i64 0, .int .i64 0, .int .i64 0, .int .i64 0, .slice none 0 0, .slice none 0 0] 35) = w3 := ⟨_, rfl⟩
        rw [hw3] at HB3 L3 ⊢
        clear hw3
        have hcall := L3.out.call ⟨1, flow, 0, 1, tok0, [], []⟩ (.slice none 0 0) (.slice none 0 0) (by omega) (callM_none _ _ _ rfl rfl) (by simp) (by simp) (by simp)
        rw [e0_groups] at hcall
        have herr := HST.out (i : Int)
        obtain ⟨ae, ha⟩ : ∃ a, callE (shardN groups) (e0 (i : Int) groups) ⟨1, flow, 0, 1, tok0, [], []⟩ = a := ⟨_, rfl⟩
        rw [ha] at herr hcall
        clear ha
        rcases ae with ⟨a, E4⟩
        refine hcall.mono ?_
        clear hcall
        rintro en w4 ⟨A4, c4, A4', c4', M4, S4, rfl, l4, hal4⟩
        have L4 := hid l4
        have K3 := hid (hal4.keepb HB3.out N3.out)
        rcases a with ⟨v0, v1, v2, v3, ⟨v4, v5, v6, v7⟩, v8, v9⟩
        simp only at herr L4
        rw [if_pos HSH.out] at herr
        subst herr
        clear l4 hal4
        simp only [ansV, ansC]
        generalize v8.length = n8 at *
        generalize v9.length = n9 at *
        go_upto_region 14 with fail
        have HB5 := hid (heap_alloc_new w4 (.cells #[.int .i64 0, .int .i64 v1, .int .i64 v2, .bool v3, .int .i64 v4, .int .i64 v5, .int .i64 v6, .int .i64 v7, .slice A4 n8 c4, .slice A4' n9 c4'] 31))
        have L5 := hid (L4.out.gr ((Gr.refl w4).alloc (.cells #[.int .i64 0, .int .i64 v1, .int .i64 v2, .bool v3, .int .i64 v4, .int .i64 v5, .int .i64 v6, .int .i64 v7, .slice A4 n8 c4, .slice A4' n9 c4'] 31)))
        have G5 := hid ((Gr.refl w4).alloc (.cells #[.int .i64 0, .int .i64 v1, .int .i64 v2, .bool v3, .int .i64 v4, .int .i64 v5, .int .i64 v6, .int .i64 v7, .slice A4 n8 c4, .slice A4' n9 c4'] 31))
        obtain ⟨w5, hw5⟩ : ∃ w5, w4.alloc (.cells #[.int .i64 0, .int .i64 v1, .int .i64 v2, .bool v3, .int .i64 v4, .int .i64 v5, .int .i64 v6, .int .i64 v7, .slice A4 n8 c4, .slice A4' n9 c4'] 31) = w5 := ⟨_, rfl⟩
        rw [hw5] at HB5 L5 G5 ⊢
        clear hw5
        have K5 := hid ((G5.out.block _ (block_lt K3.out.1)).trans K3.out.1)
        have lx5 := block_lt HB5.out
        have lz5 := block_lt K5.out
        have HX := hid (fun W (g : Gr w5 W) => cells10 ((g.block _ lx5).trans HB5.out))
        have HZ := hid (fun W (g : Gr w5 W) => cells10 ((g.block _ lz5).trans K5.out))
        have hse : ((i : Int) == H) = true := by simp [HSH.out]
        refine wp_region_planM [(0, false), (1, false), (2, false), (3, false), (4, false), (5, false), (6, true), (7, false), (8, false), (9, false), (10, false), (11, false), (12, false), (13, false), (14, false), (15, false), (16, false), (17, false), (18, true)] (fun W => Gr w5 W) (by kernel_rfl) (by kernel_rfl) (fun _ _ d _ _ h => by cases d <;> exact h) (Gr.refl w5).drew (fun _ => ?_)
        iterate 6 (refine pm_take (v := ?_) rfl (by rfl) ?_ ?_; rotate_left; (focus (intro W9 hW9; obtain ⟨x0, x1, x2, x3, x4, x5, x6, x7, x8, x9⟩ := HX.out W9 hW9; obtain ⟨z0, z1, z2, z3, z4, z5, z6, z7, z8, z9⟩ := HZ.out W9 hW9; have lx := Nat.lt_of_lt_of_le lx5 (Gr.size hW9); have lz := Nat.lt_of_lt_of_le lz5 (Gr.size hW9); go_simp; (try with_reducible rfl); done)); (try simp only [AP]))
        refine pm_call rfl (by rfl) (fun K hK => ?_)
        go_simp
        go_at_call 18
        refine (HHOME1.out _).mono ?_
        rintro en _ ⟨rfl, y9, rfl⟩
        have Y1 := hid (Gr.ext (Gr.refl w5).drew y9)
        refine hK.out (fun W => Gr w5 W) _ _ Y1.out (fun W h => h) (fun _ => ?_)
        clear hK K
        (try simp only [AP])
        iterate 11 (first | (refine pm_take (v := ?_) rfl (by rfl) ?_ ?_; rotate_left; (focus (intro W9 hW9; obtain ⟨x0, x1, x2, x3, x4, x5, x6, x7, x8, x9⟩ := HX.out W9 hW9; obtain ⟨z0, z1, z2, z3, z4, z5, z6, z7, z8, z9⟩ := HZ.out W9 hW9; have lx := Nat.lt_of_lt_of_le lx5 (Gr.size hW9); have lz := Nat.lt_of_lt_of_le lz5 (Gr.size hW9); go_simp; (try with_reducible rfl); done)); (try simp only [AP])) | (refine pm_skip rfl (by rfl) ?_; (try simp only [AP])))
        refine pm_last rfl (by rfl) (fun K hK => ?_)
        go_simp
        refine hK.out _ _ ?_
        clear hK K
        have L6 := hid (L5.out.gr Y1.out)
        obtain ⟨x0, x1, x2, x3, x4, x5, x6, x7, x8, x9⟩ := HX.out _ Y1.out
        have lx := Nat.lt_of_lt_of_le lx5 Y1.out.size
        go_wp2_with fail
        refine (L6.out.call ⟨7, 0, list, 0, tok0, [], []⟩ (.slice none 0 0) (.slice none 0 0) (by omega) (callM_none _ _ _ rfl rfl) (by simp) (by simp) (by simp)).mono ?_
        rintro en w7 ⟨A7, c7, A7', c7', M7, S7, rfl, l7, -⟩
        have hp := poll_plain (shardN E4.groups) E4 list HL.out
        have G7 := hid l7.g
        obtain ⟨⟨b, E7⟩, hb⟩ : ∃ a, callE (shardN E4.groups) E4 ⟨7, 0, list, 0, tok0, [], []⟩ = a := ⟨_, rfl⟩
        rw [hb] at hp ⊢
        rcases b with ⟨u0, u1, u2, u3, ⟨u4, u5, u6, u7⟩, u8, u9⟩
        simp only at hp
        subst hp
        clear l7 hb
        simp only [ansV, ansC]
        generalize u8.length = m8 at *
        generalize u9.length = m9 at *
        have hfld := field31
        go_wp2_with fail
        clear hfld
        go_roundw
        case rel => exact ⟨i + 1, by go_num, by omega, by rw [if_pos (by have := HSH.out; omega)], HGR.out.trans G7.out⟩
        case measure => simp [intOf]; omega
      · have HSH := hid hs
        obtain ⟨N, hN⟩ : ∃ N, (if H < (i : Int) then (1 : Int) else 0) = N := ⟨_, rfl⟩
        have hN01 : N = 0 ∨ N = 1 := by rw [← hN]; split <;> simp
        rw [hN] at hnv
        subst hnv
        have HRL := hid (show (if H < ((i + 1 : Nat) : Int) then (1 : Int) else 0) = N from by
          rw [← hN]
          by_cases hq : H < (i : Int)
          · rw [if_pos hq, if_pos (by omega)]
          · rw [if_neg hq, if_neg (by omega)])
        clear hN hs
        go_wp2_with fail
        refine (new_anyE (i : Int) groups (fun _ => False) _ (fun _ e => e.elim) HG.out ⟨by omega, hlt⟩).mono ?_
        rintro en w2 hret
        obtain ⟨M0, S0, k, rfl, _⟩ := id hret
        obtain ⟨M2, S2, l2⟩ := LawG.born (ok_e0 (i : Int) groups ⟨by omega, hlt, HG.out.2⟩) hret
        have L2 := hid l2
        clear l2 hret
        go_wp2_with fail
        have HB3 := hid (heap_alloc_new w2 (.cells #[.int .i64 1, .int .i64 flow, .int .i64 0, .int .i64 1, .int .i64 0, .int .i64 0, .int .i64 0, .int .i64 0, .slice none 0 0, .slice none 0 0] 35))
        have N3 := hid (L2.out.eng.nS (Nat.le_refl w2.heap.size))
        have L3 := hid (L2.out.gr ((Gr.refl w2).alloc (.cells #[.int .i64 1, .int .i64 flow, .int .i64 0, .int .i64 1, .int .i64 0, .int .i64 0, .int .i64 0, .int .i64 0, .slice none 0 0, .slice none 0 0] 35)))
        obtain ⟨w3, hw3⟩ : ∃ w3, w2.alloc (.cells #[.int .i64 1, .int .i64 flow, .int .i64 0, .int .i64 1, .int .i64 0, .int .i64 0, .int .i64 0, .int .i64 0, .slice none 0 0, .slice none 0 0] 35) = w3 := ⟨_, rfl⟩
        rw [hw3] at HB3 L3 ⊢
        clear hw3
        have hcall := L3.out.call ⟨1, flow, 0, 1, tok0, [], []⟩ (.slice none 0 0) (.slice none 0 0) (by omega) (callM_none _ _ _ rfl rfl) (by simp) (by simp) (by simp)
        rw [e0_groups] at hcall
        have herr := HST.out (i : Int)
        obtain ⟨ae, ha⟩ : ∃ a, callE (shardN groups) (e0 (i : Int) groups) ⟨1, flow, 0, 1, tok0, [], []⟩ = a := ⟨_, rfl⟩
        rw [ha] at herr hcall
        clear ha
        rcases ae with ⟨a, E4⟩
        refine hcall.mono ?_
        clear hcall
        rintro en w4 ⟨A4, c4, A4', c4', M4, S4, rfl, l4, hal4⟩
        have L4 := hid l4
        have K3 := hid (hal4.keepb HB3.out N3.out)
        rcases a with ⟨v0, v1, v2, v3, ⟨v4, v5, v6, v7⟩, v8, v9⟩
        simp only at herr L4
        rw [if_neg HSH.out] at herr
        subst herr
        clear l4 hal4
        simp only [ansV, ansC]
        generalize v8.length = n8 at *
        generalize v9.length = n9 at *
        go_upto_region 14 with fail
        have HB5 := hid (heap_alloc_new w4 (.cells #[.int .i64 1, .int .i64 v1, .int .i64 v2, .bool v3, .int .i64 v4, .int .i64 v5, .int .i64 v6, .int .i64 v7, .slice A4 n8 c4, .slice A4' n9 c4'] 31))
        have L5 := hid (L4.out.gr ((Gr.refl w4).alloc (.cells #[.int .i64 1, .int .i64 v1, .int .i64 v2, .bool v3, .int .i64 v4, .int .i64 v5, .int .i64 v6, .int .i64 v7, .slice A4 n8 c4, .slice A4' n9 c4'] 31)))
        have G5 := hid ((Gr.refl w4).alloc (.cells #[.int .i64 1, .int .i64 v1, .int .i64 v2, .bool v3, .int .i64 v4, .int .i64 v5, .int .i64 v6, .int .i64 v7, .slice A4 n8 c4, .slice A4' n9 c4'] 31))
        obtain ⟨w5, hw5⟩ : ∃ w5, w4.alloc (.cells #[.int .i64 1, .int .i64 v1, .int .i64 v2, .bool v3, .int .i64 v4, .int .i64 v5, .int .i64 v6, .int .i64 v7, .slice A4 n8 c4, .slice A4' n9 c4'] 31) = w5 := ⟨_, rfl⟩
        rw [hw5] at HB5 L5 G5 ⊢
        clear hw5
        have K5 := hid ((G5.out.block _ (block_lt K3.out.1)).trans K3.out.1)
        have lx5 := block_lt HB5.out
        have lz5 := block_lt K5.out
        have HX := hid (fun W (g : Gr w5 W) => cells10 ((g.block _ lx5).trans HB5.out))
        have HZ := hid (fun W (g : Gr w5 W) => cells10 ((g.block _ lz5).trans K5.out))
        have hse : ((i : Int) == H) = false := by simp [HSH.out]
        refine wp_region_planM [(0, false), (1, false), (2, false), (3, false), (4, false), (5, false), (6, true), (7, false), (8, false), (9, false), (10, false), (11, false), (12, false), (13, false), (14, false), (15, false), (16, false), (17, false), (18, true)] (fun W => Gr w5 W) (by kernel_rfl) (by kernel_rfl) (fun _ _ d _ _ h => by cases d <;> exact h) (Gr.refl w5).drew (fun _ => ?_)
        iterate 6 (refine pm_take (v := ?_) rfl (by rfl) ?_ ?_; rotate_left; (focus (intro W9 hW9; obtain ⟨x0, x1, x2, x3, x4, x5, x6, x7, x8, x9⟩ := HX.out W9 hW9; obtain ⟨z0, z1, z2, z3, z4, z5, z6, z7, z8, z9⟩ := HZ.out W9 hW9; have lx := Nat.lt_of_lt_of_le lx5 (Gr.size hW9); have lz := Nat.lt_of_lt_of_le lz5 (Gr.size hW9); go_simp; (try with_reducible rfl); done)); (try simp only [AP]))
        refine pm_call rfl (by rfl) (fun K hK => ?_)
        go_simp
        go_at_call 18
        refine (HHOME1.out _).mono ?_
        rintro en _ ⟨rfl, y9, rfl⟩
        have Y1 := hid (Gr.ext (Gr.refl w5).drew y9)
        refine hK.out (fun W => Gr w5 W) _ _ Y1.out (fun W h => h) (fun _ => ?_)
        clear hK K
        (try simp only [AP])
        iterate 11 (first | (refine pm_take (v := ?_) rfl (by rfl) ?_ ?_; rotate_left; (focus (intro W9 hW9; obtain ⟨x0, x1, x2, x3, x4, x5, x6, x7, x8, x9⟩ := HX.out W9 hW9; obtain ⟨z0, z1, z2, z3, z4, z5, z6, z7, z8, z9⟩ := HZ.out W9 hW9; have lx := Nat.lt_of_lt_of_le lx5 (Gr.size hW9); have lz := Nat.lt_of_lt_of_le lz5 (Gr.size hW9); go_simp; (try with_reducible rfl); done)); (try simp only [AP])) | (refine pm_skip rfl (by rfl) ?_; (try simp only [AP])))
        refine pm_last rfl (by rfl) (fun K hK => ?_)
        go_simp
        refine hK.out _ _ ?_
        clear hK K
        have L6 := hid (L5.out.gr Y1.out)
        obtain ⟨x0, x1, x2, x3, x4, x5, x6, x7, x8, x9⟩ := HX.out _ Y1.out
        have lx := Nat.lt_of_lt_of_le lx5 Y1.out.size
        go_wp2_with fail
        refine (L6.out.call ⟨7, 0, list, 0, tok0, [], []⟩ (.slice none 0 0) (.slice none 0 0) (by omega) (callM_none _ _ _ rfl rfl) (by simp) (by simp) (by simp)).mono ?_
        rintro en w7 ⟨A7, c7, A7', c7', M7, S7, rfl, l7, -⟩
        have hp := poll_plain (shardN E4.groups) E4 list HL.out
        have G7 := hid l7.g
        obtain ⟨⟨b, E7⟩, hb⟩ : ∃ a, callE (shardN E4.groups) E4 ⟨7, 0, list, 0, tok0, [], []⟩ = a := ⟨_, rfl⟩
        rw [hb] at hp ⊢
        rcases b with ⟨u0, u1, u2, u3, ⟨u4, u5, u6, u7⟩, u8, u9⟩
        simp only at hp
        subst hp
        clear l7 hb
        simp only [ansV, ansC]
        generalize u8.length = m8 at *
        generalize u9.length = m9 at *
        have hfld := field31
        go_wp2_with fail
        clear hfld
        go_roundw
        case rel => exact ⟨i + 1, by go_num, by omega, by rw [HRL.out], HGR.out.trans G7.out⟩
        case measure => simp [intOf]; omega
    · have hie : (i : Int) = groups := by omega
      rw [if_pos (by have := HH.out; omega)] at hnv
      subst hnv
      go_wp2_with (first
        | (go_at_call 18; refine (HHOME5.out _).mono ?_; rintro en _ ⟨rfl, y2, rfl⟩)
        | (go_at_call 19; refine (HSH2.out _).mono ?_; rintro en _ ⟨rfl, y3, rfl⟩))
      go_ret
      exact ⟨by simp, (HGR.out.ext y2).ext y3⟩
end Go.Proofs.YtniknicnnaiilaaGreat
end
section
namespace Go.Ext
open Go.RowKit Go.ChangeShapes Go.WideShapes Go.ChangeAt
section
variable {H : Type} {enc : TypeId × Value → H} {P : Program}
theorem trodAll_gr (hl : laidOutB P = true) {W W' : World} (hb : Gr W W') : ∀ (ts : List TypeId) (vs : List Value) (ds : List (DataW H)) (ps : List MemPlace), (∀ t ∈ ts, P.readableRec t = true ∧ t < P.types.size) →
    DataW.TrodAll enc P W 0 (fun _ => true) true ts vs ds ps → (∀ x ∈ ps, x.block < W.heap.size) → DataW.TrodAll enc P W' 0 (fun b => decide (b < W.heap.size)) true ts vs ds ps
  | [], vs, ds, ps, _, h, _ => by
    obtain ⟨rfl, rfl, rfl⟩ := trodAll_nil h
    exact trodAll_mk0
  | t :: ts, vs, ds, ps, hr, h, hlt => by
    obtain ⟨v, vs', d, ds', p, q, rfl, rfl, rfl, h0, h1⟩ := trodAll_cons h
    have ht := hr t (by simp)
    exact trodAll_cons_mk (Below.trod hl ht.1 ht.2 h0 hb (fun x hx => hlt x (by simp [hx]))) (trodAll_gr hl hb ts vs' ds' q (fun t' h' => hr t' (by simp [h'])) h1 (fun x hx => hlt x (by simp [hx])))
theorem of_all {ts : List TypeId} (h : (ts.all fun t => P.readableRec t && decide (t < P.types.size)) = true) : ∀ t ∈ ts, P.readableRec t = true ∧ t < P.types.size := by
  intro t ht
  have := List.all_eq_true.1 h t ht
  simpa using this
theorem law_post {fn : Func} {s : ChangeSpec} {tb : TypeId} (hl : laidOutB P = true) (hread : (fn.params.toList.all fun t => P.readableRec t && decide (t < P.types.size)) = true) (hres : fn.resultTypes = #[tb]) (htb : P.underlying tb = some .bool) (hvars : s.vars = [])
    {W W' : World} {args : Array Value} {ds gs : List (DataW H)} {before : List MemPlace} (hW : DataW.Whole enc P fn.params.toList s.vars false W args.toList ds gs before)
    (hs : s.fn H (ds ++ gs) = { results := [.lit (.bool true)], args := ds }) (hb : Gr W W') : s.post enc P fn false true false false W args (.bool true) W' := by
  have hlt : ∀ x ∈ before, x.block < W.heap.size := hW.lt
  have hW' := hW
  obtain ⟨p, q, hA, hV, rfl, _, _⟩ := hW
  refine ⟨ds, gs, p ++ q, [], p, [], hW', ?_, ?_, ?_, hb.below.frame _, fun h => by cases h⟩
  · rw [hs, hres]
    exact trodAll_mk1 (shut_bool htb true)
  · rw [hs]
    exact trodAll_gr hl hb _ _ _ _ (of_all hread) hA (fun x hx => hlt x (by simp [hx]))
  · rw [hs, hvars]
    rfl
end
end Go.Ext
end
