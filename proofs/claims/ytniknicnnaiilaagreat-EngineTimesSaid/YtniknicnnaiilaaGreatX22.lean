/- Lemmas: what the functions of the engine answer, and which blocks they write. -/
import Derived.Test.YtniknicnnaiilaaGreatX12
import Derived.Test.YtniknicnnaiilaaGreatX14
import Derived.Test.YtniknicnnaiilaaGreatX15
import Derived.Test.YtniknicnnaiilaaGreatX16
import Derived.Test.YtniknicnnaiilaaGreatX17
import Derived.Test.YtniknicnnaiilaaGreatX19
import Derived.Test.YtniknicnnaiilaaGreatX20
import Derived.Test.YtniknicnnaiilaaGreatX21
section
namespace Go.Proofs.YtniknicnnaiilaaGreat
set_option maxRecDepth 100000
open Go.RowKit Go.Ext Go.BigFrame Go.Maps Go.MapKept
attribute [local go_sem] Ext.cell Ext.frozen Ext.lt Ext.le s1 s2 s3 s4 s5 s6 t1 t2 t3 t4 t5 t6
attribute [local go_sem ↓] Go.wp_at_zero Go.wp_at_succ
set_option maxHeartbeats 2000000 in
theorem decides_any (PUT : PutAny) (k : Nat) (F : FS) (ref : Int) (turn : Int) (now : Int) (M : Bl) (w : World) (h : FlowF w M k F) (hM : ∀ b, M b → b < w.heap.size) (hk : M k) (hF : FOk F) :
    Calls Tryz.prog 138 #[.pointer (some ⟨k, 0, none⟩), .int .i64 ref, .int .i64 turn, .int .i64 now] w (RetT M k (decidesF F ref turn now) w) := by
  have b0 := heap_alloc_new w (.cells #[.int .i64 ref] 3)
  have HB0 := hid (((((Gr.refl _).alloc (.cells #[.int .i64 turn] 3)).alloc (.cells #[.int .i64 now] 3)).block _ (block_lt b0)).trans b0)
  clear b0
  have b1 := heap_alloc_new (w.alloc (.cells #[.int .i64 ref] 3)) (.cells #[.int .i64 turn] 3)
  rw [show (w.alloc (.cells #[.int .i64 ref] 3)).heap.size = w.heap.size + 1 by simp] at b1
  have HB1 := hid ((((Gr.refl _).alloc (.cells #[.int .i64 now] 3)).block _ (block_lt b1)).trans b1)
  clear b1
  have b2 := heap_alloc_new ((w.alloc (.cells #[.int .i64 ref] 3)).alloc (.cells #[.int .i64 turn] 3)) (.cells #[.int .i64 now] 3)
  rw [show ((w.alloc (.cells #[.int .i64 ref] 3)).alloc (.cells #[.int .i64 turn] 3)).heap.size = w.heap.size + 1 + 1 by simp] at b2
  have HB2 := hid (((Gr.refl _).block _ (block_lt b2)).trans b2)
  clear b2
  have G1 := hid (show Gr w (((w.alloc (.cells #[.int .i64 ref] 3)).alloc (.cells #[.int .i64 turn] 3)).alloc (.cells #[.int .i64 now] 3)) from ((((Gr.refl w).alloc _).alloc _).alloc _))
  have HT := hid (show ∀ _ : Unit, Calls Tryz.prog 141 _ (((w.alloc (.cells #[.int .i64 ref] 3)).alloc (.cells #[.int .i64 turn] 3)).alloc (.cells #[.int .i64 now] 3)) _ from fun _ =>
    try_any 181 #[.pointer (some ⟨w.heap.size + 1, 0, none⟩), .pointer (some ⟨w.heap.size, 0, none⟩), .pointer (some ⟨w.heap.size + 1 + 1, 0, none⟩)] k F (.slice none 0 0) [] now (decidesD ref turn now) M (((w.alloc (.cells #[.int .i64 ref] 3)).alloc (.cells #[.int .i64 turn] 3)).alloc (.cells #[.int .i64 now] 3)) (h.gr G1.out) (fun b e => Nat.lt_of_lt_of_le (hM b e) G1.out.size) hk ((BysM.none _ M).bys) hF.i hF.len (fun _ _ => rfl) fun hr W k' mb' g n1 n2 hfw => by
      obtain ⟨r1, r2, r3⟩ := right_spec hr
      exact cl_decides PUT k' mb' (w.heap.size + 1) (w.heap.size) (w.heap.size + 1 + 1) F turn ref now (plus M k' mb') W hfw hF ((g.block _ (block_lt HB1.out)).trans HB1.out) ((g.block _ (block_lt HB0.out)).trans HB0.out) ((g.block _ (block_lt HB2.out)).trans HB2.out) ⟨r2, r3⟩)
  have H := hid h
  clear h hk
  go_enter Tryz.func138, Tryz.ntmps138
  go_wp2_with (first
    | (go_at_call 141; refine (HT.out ()).mono ?_; rintro en w3 ⟨A3, c3, rfl, hf3, ho3, hm3⟩))
  go_ret2
  exact ⟨A3, c3, rfl, hf3, ho3, (G1.out.mod _).trans hm3 (fun _ _ e => e)⟩
set_option maxHeartbeats 2000000 in
theorem works_any (PUT : PutAny) (k : Nat) (F : FS) (ref : Int) (now : Int) (M : Bl) (w : World) (h : FlowF w M k F) (hM : ∀ b, M b → b < w.heap.size) (hk : M k) (hF : FOk F) :
    Calls Tryz.prog 139 #[.pointer (some ⟨k, 0, none⟩), .int .i64 ref, .int .i64 now] w (RetT M k (worksF F ref now) w) := by
  have b0 := heap_alloc_new w (.cells #[.int .i64 ref] 3)
  have HB0 := hid ((((Gr.refl _).alloc (.cells #[.int .i64 now] 3)).block _ (block_lt b0)).trans b0)
  clear b0
  have b1 := heap_alloc_new (w.alloc (.cells #[.int .i64 ref] 3)) (.cells #[.int .i64 now] 3)
  rw [show (w.alloc (.cells #[.int .i64 ref] 3)).heap.size = w.heap.size + 1 by simp] at b1
  have HB1 := hid (((Gr.refl _).block _ (block_lt b1)).trans b1)
  clear b1
  have G1 := hid (show Gr w ((w.alloc (.cells #[.int .i64 ref] 3)).alloc (.cells #[.int .i64 now] 3)) from (((Gr.refl w).alloc _).alloc _))
  have HT := hid (show ∀ _ : Unit, Calls Tryz.prog 141 _ ((w.alloc (.cells #[.int .i64 ref] 3)).alloc (.cells #[.int .i64 now] 3)) _ from fun _ =>
    try_any 182 #[.pointer (some ⟨w.heap.size, 0, none⟩), .pointer (some ⟨w.heap.size + 1, 0, none⟩)] k F (.slice none 0 0) [] now (worksD ref now) M ((w.alloc (.cells #[.int .i64 ref] 3)).alloc (.cells #[.int .i64 now] 3)) (h.gr G1.out) (fun b e => Nat.lt_of_lt_of_le (hM b e) G1.out.size) hk ((BysM.none _ M).bys) hF.i hF.len (fun _ _ => rfl) fun hr W k' mb' g n1 n2 hfw => by
      obtain ⟨r1, r2, r3⟩ := right_spec hr
      exact cl_works PUT k' mb' (w.heap.size) (w.heap.size + 1) F ref now (plus M k' mb') W hfw hF ((g.block _ (block_lt HB0.out)).trans HB0.out) ((g.block _ (block_lt HB1.out)).trans HB1.out) ⟨r2, r3⟩)
  have H := hid h
  clear h hk
  go_enter Tryz.func139, Tryz.ntmps139
  go_wp2_with (first
    | (go_at_call 141; refine (HT.out ()).mono ?_; rintro en w3 ⟨A3, c3, rfl, hf3, ho3, hm3⟩))
  go_ret2
  exact ⟨A3, c3, rfl, hf3, ho3, (G1.out.mod _).trans hm3 (fun _ _ e => e)⟩
set_option maxHeartbeats 2000000 in
theorem decide_any (PUT : PutAny) (k : Nat) (F : FS) (ref : Int) (turn : Int) (v : Value) (l : List Dec) (now : Int) (M : Bl) (w : World) (h : FlowF w M k F) (hM : ∀ b, M b → b < w.heap.size) (hk : M k) (hF : FOk F) (hl : RecsM decR w M v l) :
    Calls Tryz.prog 109 #[.pointer (some ⟨k, 0, none⟩), .int .i64 ref, .int .i64 turn, v, .int .i64 now] w (RetT M k (decideF F ref turn l now) w) := by
  obtain ⟨Al, cl, rfl, _⟩ := hl.shape
  have b0 := heap_alloc_new w (.cells #[.int .i64 ref] 3)
  have HB0 := hid ((((((Gr.refl _).alloc (.cells #[.int .i64 turn] 3)).alloc (.cells #[.slice Al l.length cl] 33)).alloc (.cells #[.int .i64 now] 3)).block _ (block_lt b0)).trans b0)
  clear b0
  have b1 := heap_alloc_new (w.alloc (.cells #[.int .i64 ref] 3)) (.cells #[.int .i64 turn] 3)
  rw [show (w.alloc (.cells #[.int .i64 ref] 3)).heap.size = w.heap.size + 1 by simp] at b1
  have HB1 := hid (((((Gr.refl _).alloc (.cells #[.slice Al l.length cl] 33)).alloc (.cells #[.int .i64 now] 3)).block _ (block_lt b1)).trans b1)
  clear b1
  have b2 := heap_alloc_new ((w.alloc (.cells #[.int .i64 ref] 3)).alloc (.cells #[.int .i64 turn] 3)) (.cells #[.slice Al l.length cl] 33)
  rw [show ((w.alloc (.cells #[.int .i64 ref] 3)).alloc (.cells #[.int .i64 turn] 3)).heap.size = w.heap.size + 1 + 1 by simp] at b2
  have HB2 := hid ((((Gr.refl _).alloc (.cells #[.int .i64 now] 3)).block _ (block_lt b2)).trans b2)
  clear b2
  have b3 := heap_alloc_new (((w.alloc (.cells #[.int .i64 ref] 3)).alloc (.cells #[.int .i64 turn] 3)).alloc (.cells #[.slice Al l.length cl] 33)) (.cells #[.int .i64 now] 3)
  rw [show (((w.alloc (.cells #[.int .i64 ref] 3)).alloc (.cells #[.int .i64 turn] 3)).alloc (.cells #[.slice Al l.length cl] 33)).heap.size = w.heap.size + 1 + 1 + 1 by simp] at b3
  have HB3 := hid (((Gr.refl _).block _ (block_lt b3)).trans b3)
  clear b3
  have G1 := hid (show Gr w ((((w.alloc (.cells #[.int .i64 ref] 3)).alloc (.cells #[.int .i64 turn] 3)).alloc (.cells #[.slice Al l.length cl] 33)).alloc (.cells #[.int .i64 now] 3)) from (((((Gr.refl w).alloc _).alloc _).alloc _).alloc _))
  have HT := hid (show ∀ _ : Unit, Calls Tryz.prog 141 _ ((((w.alloc (.cells #[.int .i64 ref] 3)).alloc (.cells #[.int .i64 turn] 3)).alloc (.cells #[.slice Al l.length cl] 33)).alloc (.cells #[.int .i64 now] 3)) _ from fun _ =>
    try_any 148 #[.pointer (some ⟨w.heap.size, 0, none⟩), .pointer (some ⟨w.heap.size + 1, 0, none⟩), .pointer (some ⟨w.heap.size + 1 + 1, 0, none⟩), .pointer (some ⟨w.heap.size + 1 + 1 + 1, 0, none⟩)] k F (.slice none 0 0) [] now (decideD ref turn l now) M ((((w.alloc (.cells #[.int .i64 ref] 3)).alloc (.cells #[.int .i64 turn] 3)).alloc (.cells #[.slice Al l.length cl] 33)).alloc (.cells #[.int .i64 now] 3)) (h.gr G1.out) (fun b e => Nat.lt_of_lt_of_le (hM b e) G1.out.size) hk ((BysM.none _ M).bys) hF.i hF.len (fun _ _ => rfl) fun hr W k' mb' g n1 n2 hfw => by
      obtain ⟨r1, r2, r3⟩ := right_spec hr
      exact cl_decide PUT k' mb' (w.heap.size) (w.heap.size + 1) (w.heap.size + 1 + 1) (w.heap.size + 1 + 1 + 1) F ref turn now l (.slice Al l.length cl) (plus M k' mb') W hfw hF ((g.block _ (block_lt HB0.out)).trans HB0.out) ((g.block _ (block_lt HB1.out)).trans HB1.out) ((g.block _ (block_lt HB2.out)).trans HB2.out) ((g.block _ (block_lt HB3.out)).trans HB3.out) (hl.up ((Gr.up G1.out M).trans (Gr.plus g n1 n2))) ⟨r2, r3⟩)
  have H := hid h
  clear h hk
  go_enter Tryz.func109, Tryz.ntmps109
  go_wp2_with (first
    | (go_at_call 141; refine (HT.out ()).mono ?_; rintro en w3 ⟨A3, c3, rfl, hf3, ho3, hm3⟩))
  go_ret2
  exact ⟨A3, c3, rfl, hf3, ho3, (G1.out.mod _).trans hm3 (fun _ _ e => e)⟩
def callC (c : Call) (d l : Value) : Array Value := #[.int .i64 c.kind, .int .i64 c.flow, .int .i64 c.list, .int .i64 c.n, .int .i64 c.tok.flow, .int .i64 c.tok.run, .int .i64 c.tok.event, .int .i64 c.tok.turn, d, l]
def callV (c : Call) (d l : Value) : Value := .agg (callC c d l)
def CallM (w : World) (M : Bl) (c : Call) (d l : Value) : Prop := BysM w M d c.data ∧ RecsM decR w M l c.l
theorem CallM.up {w w' : World} {M M' : Bl} {c : Call} {d l : Value} (h : CallM w M c d l) (u : Up M w M' w') : CallM w' M' c d l := ⟨h.1.up u, h.2.up u⟩
theorem cells10 {W : World} {B : Nat} {t : TypeId} {a b c d e f g h i j : Value} (hh : W.heap[B]? = some (.cells #[a, b, c, d, e, f, g, h, i, j] t (0, 0))) : W.cell? ⟨B, 0, none⟩ = some a ∧ W.cell? ⟨B, 1, none⟩ = some b ∧ W.cell? ⟨B, 2, none⟩ = some c ∧ W.cell? ⟨B, 3, none⟩ = some d ∧ W.cell? ⟨B, 4, none⟩ = some e ∧ W.cell? ⟨B, 5, none⟩ = some f ∧ W.cell? ⟨B, 6, none⟩ = some g ∧ W.cell? ⟨B, 7, none⟩ = some h ∧ W.cell? ⟨B, 8, none⟩ = some i ∧ W.cell? ⟨B, 9, none⟩ = some j := by
  refine ⟨?_, ?_, ?_, ?_, ?_, ?_, ?_, ?_, ?_, ?_⟩ <;> simp [World.cell?, hh]
def engC (E : ES) (kd ka mr kh : Nat) : Array Value := #[.pointer (some ⟨kd, 0, none⟩), .pointer (some ⟨ka, 0, none⟩), .int .i64 E.shard, .int .i64 E.groups, .int .i64 E.now, .map (some mr), .pointer (some ⟨kh, 0, none⟩)]
theorem nearD_one (l : List Dec) : nearD (shardN 1) 0 l = l := by
  unfold nearD
  simp [shardN_one]
set_option maxHeartbeats 2000000 in
theorem ask_signal (PUT : PutAny) (k kf kd ka mr kh : Nat) (E : ES) (c : Call) (d l : Value) (F : FS) (M : Bl) (w : World) (hk : w.heap[k]? = some (.cells (engC E kd ka mr kh) 79 (0, 0))) (h : FlowF w M kf F) (hM : ∀ b, M b → b < w.heap.size) (hkf : M kf) (hne : k ≠ kf) (hF : FOk F) (hc : CallM w M c d l) (hkind : c.kind = 2) : Calls Tryz.prog 70 #[.pointer (some ⟨k, 0, none⟩), .pointer (some ⟨kf, 0, none⟩), callV c d l] w (RetT M kf (askE (shardN E.groups) E c F) w) := by
  obtain ⟨Ad, cd, rfl⟩ := hc.1.shape
  obtain ⟨Al, cl, rfl, _⟩ := hc.2.shape
  have HK := hid hk
  have H := hid h
  have HC := hid hc
  have HM := hid hM
  have hkl := block_lt hk
  have hfl : kf < w.heap.size := hM _ hkf
  clear hk h hc hM
  rcases c with ⟨ck, cf, cli, cn, ⟨tf, tr, te, tt⟩, cdat, cls⟩
  simp only [callV, callC] at *
  generalize hdl : cdat.length = dl at *
  generalize hll : cls.length = ll at *
  try simp only at hkind
  subst hkind
  rw [show askE (shardN E.groups) E ⟨2, cf, cli, cn, ⟨tf, tr, te, tt⟩, cdat, cls⟩ F = signalF F cdat E.now from by simp [askE]]
  go_enter Tryz.func70, Tryz.ntmps70
  go_upto_region 4 with fail
  have G1 := hid (((Gr.refl w).alloc (.cells #[.int .i64 2, .int .i64 cf, .int .i64 cli, .int .i64 cn, .int .i64 tf, .int .i64 tr, .int .i64 te, .int .i64 tt, .slice Ad dl cd, .slice Al ll cl] 35)).alloc (.cells #[.int .i64 tf, .int .i64 tr, .int .i64 te, .int .i64 tt] 28))
  have HB := hid ((((Gr.refl _).alloc (.cells #[.int .i64 tf, .int .i64 tr, .int .i64 te, .int .i64 tt] 28)).block w.heap.size (by simp)).trans (heap_alloc_new w (.cells #[.int .i64 2, .int .i64 cf, .int .i64 cli, .int .i64 cn, .int .i64 tf, .int .i64 tr, .int .i64 te, .int .i64 tt, .slice Ad dl cd, .slice Al ll cl] 35)))
  have HT := hid (show ((w.alloc (.cells #[.int .i64 2, .int .i64 cf, .int .i64 cli, .int .i64 cn, .int .i64 tf, .int .i64 tr, .int .i64 te, .int .i64 tt, .slice Ad dl cd, .slice Al ll cl] 35)).alloc (.cells #[.int .i64 tf, .int .i64 tr, .int .i64 te, .int .i64 tt] 28)).heap[w.heap.size + 1]? = some (.cells #[.int .i64 tf, .int .i64 tr, .int .i64 te, .int .i64 tt] 28 (0, 0)) from by have := heap_alloc_new (w.alloc (.cells #[.int .i64 2, .int .i64 cf, .int .i64 cli, .int .i64 cn, .int .i64 tf, .int .i64 tr, .int .i64 te, .int .i64 tt, .slice Ad dl cd, .slice Al ll cl] 35)) (.cells #[.int .i64 tf, .int .i64 tr, .int .i64 te, .int .i64 tt] 28); simpa using this)
  generalize hw1 : ((w.alloc (.cells #[.int .i64 2, .int .i64 cf, .int .i64 cli, .int .i64 cn, .int .i64 tf, .int .i64 tr, .int .i64 te, .int .i64 tt, .slice Ad dl cd, .slice Al ll cl] 35)).alloc (.cells #[.int .i64 tf, .int .i64 tr, .int .i64 te, .int .i64 tt] 28)) = w1 at *
  clear hw1
  have HKK := hid ((G1.out.block k hkl).trans HK.out)
  have hbl := block_lt HB.out
  have htl := block_lt HT.out
  have HS := hid (show ∀ W, Mod (fun b => b = kf) w1 W → ∃ _ : w.heap.size < W.heap.size ∧ w.heap.size + 1 < W.heap.size ∧ k < W.heap.size, (W.cell? ⟨w.heap.size, 0, none⟩ = some (.int .i64 2) ∧ W.cell? ⟨w.heap.size, 8, none⟩ = some (.slice Ad dl cd) ∧ W.cell? ⟨w.heap.size, 9, none⟩ = some (.slice Al ll cl)) ∧ (W.cell? ⟨w.heap.size + 1, 2, none⟩ = some (.int .i64 te) ∧ W.cell? ⟨w.heap.size + 1, 3, none⟩ = some (.int .i64 tt)) ∧ W.cell? ⟨k, 4, none⟩ = some (.int .i64 E.now) from fun W mm => by
    have q0 := (mm.block w.heap.size hbl (by show ¬ w.heap.size = kf; omega)).trans HB.out
    have q1 := (mm.block (w.heap.size + 1) htl (by show ¬ w.heap.size + 1 = kf; omega)).trans HT.out
    have q2 := (mm.block k (block_lt HKK.out) hne).trans HKK.out
    obtain ⟨a0, _, _, _, _, _, _, _, a8, a9⟩ := cells10 q0
    refine ⟨⟨block_lt q0, block_lt q1, block_lt q2⟩, ⟨a0, a8, a9⟩, ?_, ?_⟩
    · exact ⟨by simp [World.cell?, q1], by simp [World.cell?, q1]⟩
    · simp [World.cell?, q2, engC])
  refine wp_region_planM [(0, false), (1, false), (2, false), (3, false), (4, false), (5, false), (6, false), (7, true), (8, false), (9, false), (10, false), (11, true)] (fun W => Mod (fun b => b = kf) w1 W) (by kernel_rfl) (by kernel_rfl) (fun _ _ d _ _ h => by cases d <;> exact h) ((Gr.refl w1).drew.mod _) (fun _ => ?_)
  iterate 7 (refine pm_take (v := ?_) rfl (by rfl) ?_ ?_; rotate_left; (focus (intro W9 hW9; obtain ⟨⟨_, _, _⟩, ⟨a0, a8, a9⟩, ⟨a2, a3⟩, a4⟩ := HS.out W9 hW9; go_simp; (try with_reducible rfl); done)); (try simp only [AP]))
  refine pm_call rfl (by rfl) (fun K hK => ?_)
  go_simp
  go_at_call 106
  refine (signal_any PUT kf F _ cdat E.now M _ (H.out.gr (G1.out.trans (Gr.refl w1).drew)) (fun b e => Nat.lt_of_lt_of_le (HM.out b e) (G1.out.trans (Gr.refl w1).drew).size) hkf hF (HC.out.1.up (Gr.up (G1.out.trans (Gr.refl w1).drew) M))).mono ?_
  rintro en w5 ⟨A5, c5, rfl, hf5, ho5, hm5⟩
  have M5 := hid ((((Gr.refl w1).drew.mod _).trans hm5 (fun _ _ e => e)))
  refine hK.out (fun W => Mod (fun b => b = kf) w1 W) _ _ M5.out (fun W h => h) (fun _ => ?_)
  clear hK K
  (try simp only [AP])
  iterate 3 (refine pm_take (v := ?_) rfl (by rfl) ?_ ?_; rotate_left; (focus (intro W9 hW9; obtain ⟨⟨_, _, _⟩, ⟨a0, a8, a9⟩, ⟨a2, a3⟩, a4⟩ := HS.out W9 hW9; go_simp; (try with_reducible rfl); done)); (try simp only [AP]))
  refine pm_last rfl (by rfl) (fun K hK => ?_)
  go_simp
  refine hK.out _ _ ?_
  clear hK K
  go_wp2_with fail
  go_ret2
  exact ⟨A5, c5, rfl, hf5, ho5, (G1.out.mod _).trans M5.out (fun _ _ e => e)⟩
set_option maxHeartbeats 2000000 in
theorem ask_terminate (PUT : PutAny) (k kf kd ka mr kh : Nat) (E : ES) (c : Call) (d l : Value) (F : FS) (M : Bl) (w : World) (hk : w.heap[k]? = some (.cells (engC E kd ka mr kh) 79 (0, 0))) (h : FlowF w M kf F) (hM : ∀ b, M b → b < w.heap.size) (hkf : M kf) (hne : k ≠ kf) (hF : FOk F) (hc : CallM w M c d l) (hkind : c.kind = 4) : Calls Tryz.prog 70 #[.pointer (some ⟨k, 0, none⟩), .pointer (some ⟨kf, 0, none⟩), callV c d l] w (RetT M kf (askE (shardN E.groups) E c F) w) := by
  obtain ⟨Ad, cd, rfl⟩ := hc.1.shape
  obtain ⟨Al, cl, rfl, _⟩ := hc.2.shape
  have HK := hid hk
  have H := hid h
  have HC := hid hc
  have HM := hid hM
  have hkl := block_lt hk
  have hfl : kf < w.heap.size := hM _ hkf
  clear hk h hc hM
  rcases c with ⟨ck, cf, cli, cn, ⟨tf, tr, te, tt⟩, cdat, cls⟩
  simp only [callV, callC] at *
  generalize hdl : cdat.length = dl at *
  generalize hll : cls.length = ll at *
  try simp only at hkind
  subst hkind
  rw [show askE (shardN E.groups) E ⟨4, cf, cli, cn, ⟨tf, tr, te, tt⟩, cdat, cls⟩ F = terminateF F cdat E.now from by simp [askE]]
  go_enter Tryz.func70, Tryz.ntmps70
  go_upto_region 8 with fail
  have G1 := hid (((Gr.refl w).alloc (.cells #[.int .i64 4, .int .i64 cf, .int .i64 cli, .int .i64 cn, .int .i64 tf, .int .i64 tr, .int .i64 te, .int .i64 tt, .slice Ad dl cd, .slice Al ll cl] 35)).alloc (.cells #[.int .i64 tf, .int .i64 tr, .int .i64 te, .int .i64 tt] 28))
  have HB := hid ((((Gr.refl _).alloc (.cells #[.int .i64 tf, .int .i64 tr, .int .i64 te, .int .i64 tt] 28)).block w.heap.size (by simp)).trans (heap_alloc_new w (.cells #[.int .i64 4, .int .i64 cf, .int .i64 cli, .int .i64 cn, .int .i64 tf, .int .i64 tr, .int .i64 te, .int .i64 tt, .slice Ad dl cd, .slice Al ll cl] 35)))
  have HT := hid (show ((w.alloc (.cells #[.int .i64 4, .int .i64 cf, .int .i64 cli, .int .i64 cn, .int .i64 tf, .int .i64 tr, .int .i64 te, .int .i64 tt, .slice Ad dl cd, .slice Al ll cl] 35)).alloc (.cells #[.int .i64 tf, .int .i64 tr, .int .i64 te, .int .i64 tt] 28)).heap[w.heap.size + 1]? = some (.cells #[.int .i64 tf, .int .i64 tr, .int .i64 te, .int .i64 tt] 28 (0, 0)) from by have := heap_alloc_new (w.alloc (.cells #[.int .i64 4, .int .i64 cf, .int .i64 cli, .int .i64 cn, .int .i64 tf, .int .i64 tr, .int .i64 te, .int .i64 tt, .slice Ad dl cd, .slice Al ll cl] 35)) (.cells #[.int .i64 tf, .int .i64 tr, .int .i64 te, .int .i64 tt] 28); simpa using this)
  generalize hw1 : ((w.alloc (.cells #[.int .i64 4, .int .i64 cf, .int .i64 cli, .int .i64 cn, .int .i64 tf, .int .i64 tr, .int .i64 te, .int .i64 tt, .slice Ad dl cd, .slice Al ll cl] 35)).alloc (.cells #[.int .i64 tf, .int .i64 tr, .int .i64 te, .int .i64 tt] 28)) = w1 at *
  clear hw1
  have HKK := hid ((G1.out.block k hkl).trans HK.out)
  have hbl := block_lt HB.out
  have htl := block_lt HT.out
  have HS := hid (show ∀ W, Mod (fun b => b = kf) w1 W → ∃ _ : w.heap.size < W.heap.size ∧ w.heap.size + 1 < W.heap.size ∧ k < W.heap.size, (W.cell? ⟨w.heap.size, 0, none⟩ = some (.int .i64 4) ∧ W.cell? ⟨w.heap.size, 8, none⟩ = some (.slice Ad dl cd) ∧ W.cell? ⟨w.heap.size, 9, none⟩ = some (.slice Al ll cl)) ∧ (W.cell? ⟨w.heap.size + 1, 2, none⟩ = some (.int .i64 te) ∧ W.cell? ⟨w.heap.size + 1, 3, none⟩ = some (.int .i64 tt)) ∧ W.cell? ⟨k, 4, none⟩ = some (.int .i64 E.now) from fun W mm => by
    have q0 := (mm.block w.heap.size hbl (by show ¬ w.heap.size = kf; omega)).trans HB.out
    have q1 := (mm.block (w.heap.size + 1) htl (by show ¬ w.heap.size + 1 = kf; omega)).trans HT.out
    have q2 := (mm.block k (block_lt HKK.out) hne).trans HKK.out
    obtain ⟨a0, _, _, _, _, _, _, _, a8, a9⟩ := cells10 q0
    refine ⟨⟨block_lt q0, block_lt q1, block_lt q2⟩, ⟨a0, a8, a9⟩, ?_, ?_⟩
    · exact ⟨by simp [World.cell?, q1], by simp [World.cell?, q1]⟩
    · simp [World.cell?, q2, engC])
  refine wp_region_planM [(0, false), (1, false), (2, false), (3, false), (4, false), (5, false), (6, false), (7, true), (8, false), (9, false), (10, false), (11, true)] (fun W => Mod (fun b => b = kf) w1 W) (by kernel_rfl) (by kernel_rfl) (fun _ _ d _ _ h => by cases d <;> exact h) ((Gr.refl w1).drew.mod _) (fun _ => ?_)
  iterate 7 (refine pm_take (v := ?_) rfl (by rfl) ?_ ?_; rotate_left; (focus (intro W9 hW9; obtain ⟨⟨_, _, _⟩, ⟨a0, a8, a9⟩, ⟨a2, a3⟩, a4⟩ := HS.out W9 hW9; go_simp; (try with_reducible rfl); done)); (try simp only [AP]))
  refine pm_call rfl (by rfl) (fun K hK => ?_)
  go_simp
  go_at_call 108
  refine (terminate_any PUT kf F _ cdat E.now M _ (H.out.gr (G1.out.trans (Gr.refl w1).drew)) (fun b e => Nat.lt_of_lt_of_le (HM.out b e) (G1.out.trans (Gr.refl w1).drew).size) hkf hF (HC.out.1.up (Gr.up (G1.out.trans (Gr.refl w1).drew) M))).mono ?_
  rintro en w5 ⟨A5, c5, rfl, hf5, ho5, hm5⟩
  have M5 := hid ((((Gr.refl w1).drew.mod _).trans hm5 (fun _ _ e => e)))
  refine hK.out (fun W => Mod (fun b => b = kf) w1 W) _ _ M5.out (fun W h => h) (fun _ => ?_)
  clear hK K
  (try simp only [AP])
  iterate 3 (refine pm_take (v := ?_) rfl (by rfl) ?_ ?_; rotate_left; (focus (intro W9 hW9; obtain ⟨⟨_, _, _⟩, ⟨a0, a8, a9⟩, ⟨a2, a3⟩, a4⟩ := HS.out W9 hW9; go_simp; (try with_reducible rfl); done)); (try simp only [AP]))
  refine pm_last rfl (by rfl) (fun K hK => ?_)
  go_simp
  refine hK.out _ _ ?_
  clear hK K
  go_wp2_with fail
  go_ret2
  exact ⟨A5, c5, rfl, hf5, ho5, (G1.out.mod _).trans M5.out (fun _ _ e => e)⟩
set_option maxHeartbeats 2000000 in
theorem ask_worked (PUT : PutAny) (k kf kd ka mr kh : Nat) (E : ES) (c : Call) (d l : Value) (F : FS) (M : Bl) (w : World) (hk : w.heap[k]? = some (.cells (engC E kd ka mr kh) 79 (0, 0))) (h : FlowF w M kf F) (hM : ∀ b, M b → b < w.heap.size) (hkf : M kf) (hne : k ≠ kf) (hF : FOk F) (hc : CallM w M c d l) (hkind : c.kind = 10) : Calls Tryz.prog 70 #[.pointer (some ⟨k, 0, none⟩), .pointer (some ⟨kf, 0, none⟩), callV c d l] w (RetT M kf (askE (shardN E.groups) E c F) w) := by
  obtain ⟨Ad, cd, rfl⟩ := hc.1.shape
  obtain ⟨Al, cl, rfl, _⟩ := hc.2.shape
  have HK := hid hk
  have H := hid h
  have HC := hid hc
  have HM := hid hM
  have hkl := block_lt hk
  have hfl : kf < w.heap.size := hM _ hkf
  clear hk h hc hM
  rcases c with ⟨ck, cf, cli, cn, ⟨tf, tr, te, tt⟩, cdat, cls⟩
  simp only [callV, callC] at *
  generalize hdl : cdat.length = dl at *
  generalize hll : cls.length = ll at *
  try simp only at hkind
  subst hkind
  rw [show askE (shardN E.groups) E ⟨10, cf, cli, cn, ⟨tf, tr, te, tt⟩, cdat, cls⟩ F = workedF F te cdat true E.now from by simp [askE]]
  go_enter Tryz.func70, Tryz.ntmps70
  go_upto_region 11 with fail
  have G1 := hid (((Gr.refl w).alloc (.cells #[.int .i64 10, .int .i64 cf, .int .i64 cli, .int .i64 cn, .int .i64 tf, .int .i64 tr, .int .i64 te, .int .i64 tt, .slice Ad dl cd, .slice Al ll cl] 35)).alloc (.cells #[.int .i64 tf, .int .i64 tr, .int .i64 te, .int .i64 tt] 28))
  have HB := hid ((((Gr.refl _).alloc (.cells #[.int .i64 tf, .int .i64 tr, .int .i64 te, .int .i64 tt] 28)).block w.heap.size (by simp)).trans (heap_alloc_new w (.cells #[.int .i64 10, .int .i64 cf, .int .i64 cli, .int .i64 cn, .int .i64 tf, .int .i64 tr, .int .i64 te, .int .i64 tt, .slice Ad dl cd, .slice Al ll cl] 35)))
  have HT := hid (show ((w.alloc (.cells #[.int .i64 10, .int .i64 cf, .int .i64 cli, .int .i64 cn, .int .i64 tf, .int .i64 tr, .int .i64 te, .int .i64 tt, .slice Ad dl cd, .slice Al ll cl] 35)).alloc (.cells #[.int .i64 tf, .int .i64 tr, .int .i64 te, .int .i64 tt] 28)).heap[w.heap.size + 1]? = some (.cells #[.int .i64 tf, .int .i64 tr, .int .i64 te, .int .i64 tt] 28 (0, 0)) from by have := heap_alloc_new (w.alloc (.cells #[.int .i64 10, .int .i64 cf, .int .i64 cli, .int .i64 cn, .int .i64 tf, .int .i64 tr, .int .i64 te, .int .i64 tt, .slice Ad dl cd, .slice Al ll cl] 35)) (.cells #[.int .i64 tf, .int .i64 tr, .int .i64 te, .int .i64 tt] 28); simpa using this)
  generalize hw1 : ((w.alloc (.cells #[.int .i64 10, .int .i64 cf, .int .i64 cli, .int .i64 cn, .int .i64 tf, .int .i64 tr, .int .i64 te, .int .i64 tt, .slice Ad dl cd, .slice Al ll cl] 35)).alloc (.cells #[.int .i64 tf, .int .i64 tr, .int .i64 te, .int .i64 tt] 28)) = w1 at *
  clear hw1
  have HKK := hid ((G1.out.block k hkl).trans HK.out)
  have hbl := block_lt HB.out
  have htl := block_lt HT.out
  have HS := hid (show ∀ W, Mod (fun b => b = kf) w1 W → ∃ _ : w.heap.size < W.heap.size ∧ w.heap.size + 1 < W.heap.size ∧ k < W.heap.size, (W.cell? ⟨w.heap.size, 0, none⟩ = some (.int .i64 10) ∧ W.cell? ⟨w.heap.size, 8, none⟩ = some (.slice Ad dl cd) ∧ W.cell? ⟨w.heap.size, 9, none⟩ = some (.slice Al ll cl)) ∧ (W.cell? ⟨w.heap.size + 1, 2, none⟩ = some (.int .i64 te) ∧ W.cell? ⟨w.heap.size + 1, 3, none⟩ = some (.int .i64 tt)) ∧ W.cell? ⟨k, 4, none⟩ = some (.int .i64 E.now) from fun W mm => by
    have q0 := (mm.block w.heap.size hbl (by show ¬ w.heap.size = kf; omega)).trans HB.out
    have q1 := (mm.block (w.heap.size + 1) htl (by show ¬ w.heap.size + 1 = kf; omega)).trans HT.out
    have q2 := (mm.block k (block_lt HKK.out) hne).trans HKK.out
    obtain ⟨a0, _, _, _, _, _, _, _, a8, a9⟩ := cells10 q0
    refine ⟨⟨block_lt q0, block_lt q1, block_lt q2⟩, ⟨a0, a8, a9⟩, ?_, ?_⟩
    · exact ⟨by simp [World.cell?, q1], by simp [World.cell?, q1]⟩
    · simp [World.cell?, q2, engC])
  refine wp_region_planM [(0, false), (1, false), (2, false), (3, false), (4, false), (5, false), (6, false), (7, false), (8, false), (9, false), (10, false), (11, false), (12, true), (13, false), (14, false), (15, false), (16, true)] (fun W => Mod (fun b => b = kf) w1 W) (by kernel_rfl) (by kernel_rfl) (fun _ _ d _ _ h => by cases d <;> exact h) ((Gr.refl w1).drew.mod _) (fun _ => ?_)
  iterate 12 (refine pm_take (v := ?_) rfl (by rfl) ?_ ?_; rotate_left; (focus (intro W9 hW9; obtain ⟨⟨_, _, _⟩, ⟨a0, a8, a9⟩, ⟨a2, a3⟩, a4⟩ := HS.out W9 hW9; go_simp; (try with_reducible rfl); done)); (try simp only [AP]))
  refine pm_call rfl (by rfl) (fun K hK => ?_)
  go_simp
  go_at_call 111
  refine (workedT_any PUT kf F te _ cdat E.now M _ (H.out.gr (G1.out.trans (Gr.refl w1).drew)) (fun b e => Nat.lt_of_lt_of_le (HM.out b e) (G1.out.trans (Gr.refl w1).drew).size) hkf hF (HC.out.1.up (Gr.up (G1.out.trans (Gr.refl w1).drew) M))).mono ?_
  rintro en w5 ⟨A5, c5, rfl, hf5, ho5, hm5⟩
  have M5 := hid ((((Gr.refl w1).drew.mod _).trans hm5 (fun _ _ e => e)))
  refine hK.out (fun W => Mod (fun b => b = kf) w1 W) _ _ M5.out (fun W h => h) (fun _ => ?_)
  clear hK K
  (try simp only [AP])
  iterate 3 (refine pm_take (v := ?_) rfl (by rfl) ?_ ?_; rotate_left; (focus (intro W9 hW9; obtain ⟨⟨_, _, _⟩, ⟨a0, a8, a9⟩, ⟨a2, a3⟩, a4⟩ := HS.out W9 hW9; go_simp; (try with_reducible rfl); done)); (try simp only [AP]))
  refine pm_last rfl (by rfl) (fun K hK => ?_)
  go_simp
  refine hK.out _ _ ?_
  clear hK K
  go_wp2_with fail
  go_ret2
  exact ⟨A5, c5, rfl, hf5, ho5, (G1.out.mod _).trans M5.out (fun _ _ e => e)⟩
set_option maxHeartbeats 2000000 in
theorem ask_failed (PUT : PutAny) (k kf kd ka mr kh : Nat) (E : ES) (c : Call) (d l : Value) (F : FS) (M : Bl) (w : World) (hk : w.heap[k]? = some (.cells (engC E kd ka mr kh) 79 (0, 0))) (h : FlowF w M kf F) (hM : ∀ b, M b → b < w.heap.size) (hkf : M kf) (hne : k ≠ kf) (hF : FOk F) (hc : CallM w M c d l) (hkind : c.kind ≠ 2 ∧ c.kind ≠ 3 ∧ c.kind ≠ 4 ∧ c.kind ≠ 8 ∧ c.kind ≠ 10) : Calls Tryz.prog 70 #[.pointer (some ⟨k, 0, none⟩), .pointer (some ⟨kf, 0, none⟩), callV c d l] w (RetT M kf (askE (shardN E.groups) E c F) w) := by
  obtain ⟨Ad, cd, rfl⟩ := hc.1.shape
  obtain ⟨Al, cl, rfl, _⟩ := hc.2.shape
  have HK := hid hk
  have H := hid h
  have HC := hid hc
  have HM := hid hM
  have hkl := block_lt hk
  have hfl : kf < w.heap.size := hM _ hkf
  clear hk h hc hM
  rcases c with ⟨ck, cf, cli, cn, ⟨tf, tr, te, tt⟩, cdat, cls⟩
  simp only [callV, callC] at *
  generalize hdl : cdat.length = dl at *
  generalize hll : cls.length = ll at *
  obtain ⟨n2, n3, n4, n8, n10⟩ := hkind
  try simp only at n2 n3 n4 n8 n10
  have e2 : (ck == 2) = false := by simpa using n2
  have e3 : (ck == 3) = false := by simpa using n3
  have e4 : (ck == 4) = false := by simpa using n4
  have e8 : (ck == 8) = false := by simpa using n8
  have e10 : (ck == 10) = false := by simpa using n10
  rw [show askE (shardN E.groups) E ⟨ck, cf, cli, cn, ⟨tf, tr, te, tt⟩, cdat, cls⟩ F = workedF F te cdat false E.now from by simp [askE, n2, n3, n4, n8, e10]]
  go_enter Tryz.func70, Tryz.ntmps70
  go_upto_region 11 with fail
  have G1 := hid (((Gr.refl w).alloc (.cells #[.int .i64 ck, .int .i64 cf, .int .i64 cli, .int .i64 cn, .int .i64 tf, .int .i64 tr, .int .i64 te, .int .i64 tt, .slice Ad dl cd, .slice Al ll cl] 35)).alloc (.cells #[.int .i64 tf, .int .i64 tr, .int .i64 te, .int .i64 tt] 28))
  have HB := hid ((((Gr.refl _).alloc (.cells #[.int .i64 tf, .int .i64 tr, .int .i64 te, .int .i64 tt] 28)).block w.heap.size (by simp)).trans (heap_alloc_new w (.cells #[.int .i64 ck, .int .i64 cf, .int .i64 cli, .int .i64 cn, .int .i64 tf, .int .i64 tr, .int .i64 te, .int .i64 tt, .slice Ad dl cd, .slice Al ll cl] 35)))
  have HT := hid (show ((w.alloc (.cells #[.int .i64 ck, .int .i64 cf, .int .i64 cli, .int .i64 cn, .int .i64 tf, .int .i64 tr, .int .i64 te, .int .i64 tt, .slice Ad dl cd, .slice Al ll cl] 35)).alloc (.cells #[.int .i64 tf, .int .i64 tr, .int .i64 te, .int .i64 tt] 28)).heap[w.heap.size + 1]? = some (.cells #[.int .i64 tf, .int .i64 tr, .int .i64 te, .int .i64 tt] 28 (0, 0)) from by have := heap_alloc_new (w.alloc (.cells #[.int .i64 ck, .int .i64 cf, .int .i64 cli, .int .i64 cn, .int .i64 tf, .int .i64 tr, .int .i64 te, .int .i64 tt, .slice Ad dl cd, .slice Al ll cl] 35)) (.cells #[.int .i64 tf, .int .i64 tr, .int .i64 te, .int .i64 tt] 28); simpa using this)
  generalize hw1 : ((w.alloc (.cells #[.int .i64 ck, .int .i64 cf, .int .i64 cli, .int .i64 cn, .int .i64 tf, .int .i64 tr, .int .i64 te, .int .i64 tt, .slice Ad dl cd, .slice Al ll cl] 35)).alloc (.cells #[.int .i64 tf, .int .i64 tr, .int .i64 te, .int .i64 tt] 28)) = w1 at *
  clear hw1
  have HKK := hid ((G1.out.block k hkl).trans HK.out)
  have hbl := block_lt HB.out
  have htl := block_lt HT.out
  have HS := hid (show ∀ W, Mod (fun b => b = kf) w1 W → ∃ _ : w.heap.size < W.heap.size ∧ w.heap.size + 1 < W.heap.size ∧ k < W.heap.size, (W.cell? ⟨w.heap.size, 0, none⟩ = some (.int .i64 ck) ∧ W.cell? ⟨w.heap.size, 8, none⟩ = some (.slice Ad dl cd) ∧ W.cell? ⟨w.heap.size, 9, none⟩ = some (.slice Al ll cl)) ∧ (W.cell? ⟨w.heap.size + 1, 2, none⟩ = some (.int .i64 te) ∧ W.cell? ⟨w.heap.size + 1, 3, none⟩ = some (.int .i64 tt)) ∧ W.cell? ⟨k, 4, none⟩ = some (.int .i64 E.now) from fun W mm => by
    have q0 := (mm.block w.heap.size hbl (by show ¬ w.heap.size = kf; omega)).trans HB.out
    have q1 := (mm.block (w.heap.size + 1) htl (by show ¬ w.heap.size + 1 = kf; omega)).trans HT.out
    have q2 := (mm.block k (block_lt HKK.out) hne).trans HKK.out
    obtain ⟨a0, _, _, _, _, _, _, _, a8, a9⟩ := cells10 q0
    refine ⟨⟨block_lt q0, block_lt q1, block_lt q2⟩, ⟨a0, a8, a9⟩, ?_, ?_⟩
    · exact ⟨by simp [World.cell?, q1], by simp [World.cell?, q1]⟩
    · simp [World.cell?, q2, engC])
  refine wp_region_planM [(0, false), (1, false), (2, false), (3, false), (4, false), (5, false), (6, false), (7, false), (8, false), (9, false), (10, false), (11, false), (12, true), (13, false), (14, false), (15, false), (16, true)] (fun W => Mod (fun b => b = kf) w1 W) (by kernel_rfl) (by kernel_rfl) (fun _ _ d _ _ h => by cases d <;> exact h) ((Gr.refl w1).drew.mod _) (fun _ => ?_)
  iterate 12 (refine pm_take (v := ?_) rfl (by rfl) ?_ ?_; rotate_left; (focus (intro W9 hW9; obtain ⟨⟨_, _, _⟩, ⟨a0, a8, a9⟩, ⟨a2, a3⟩, a4⟩ := HS.out W9 hW9; go_simp; (try with_reducible rfl); done)); (try simp only [AP]))
  refine pm_call rfl (by rfl) (fun K hK => ?_)
  go_simp
  go_at_call 111
  refine (workedF__any PUT kf F te _ cdat E.now M _ (H.out.gr (G1.out.trans (Gr.refl w1).drew)) (fun b e => Nat.lt_of_lt_of_le (HM.out b e) (G1.out.trans (Gr.refl w1).drew).size) hkf hF (HC.out.1.up (Gr.up (G1.out.trans (Gr.refl w1).drew) M))).mono ?_
  rintro en w5 ⟨A5, c5, rfl, hf5, ho5, hm5⟩
  have M5 := hid ((((Gr.refl w1).drew.mod _).trans hm5 (fun _ _ e => e)))
  refine hK.out (fun W => Mod (fun b => b = kf) w1 W) _ _ M5.out (fun W h => h) (fun _ => ?_)
  clear hK K
  (try simp only [AP])
  iterate 3 (refine pm_take (v := ?_) rfl (by rfl) ?_ ?_; rotate_left; (focus (intro W9 hW9; obtain ⟨⟨_, _, _⟩, ⟨a0, a8, a9⟩, ⟨a2, a3⟩, a4⟩ := HS.out W9 hW9; go_simp; (try with_reducible rfl); done)); (try simp only [AP]))
  refine pm_last rfl (by rfl) (fun K hK => ?_)
  go_simp
  refine hK.out _ _ ?_
  clear hK K
  go_wp2_with fail
  go_ret2
  exact ⟨A5, c5, rfl, hf5, ho5, (G1.out.mod _).trans M5.out (fun _ _ e => e)⟩
set_option maxHeartbeats 2000000 in
theorem ask_decide (PUT : PutAny) (k kf kd ka mr kh : Nat) (E : ES) (c : Call) (d l : Value) (F : FS) (M : Bl) (w : World) (hk : w.heap[k]? = some (.cells (engC E kd ka mr kh) 79 (0, 0))) (h : FlowF w M kf F) (hM : ∀ b, M b → b < w.heap.size) (hkf : M kf) (hne : k ≠ kf) (hF : FOk F) (hc : CallM w M c d l) (hkind : c.kind = 8) (hg : E.groups = 1) (hs : E.shard = 0) (hll : c.l.length ≤ 100000) : Calls Tryz.prog 70 #[.pointer (some ⟨k, 0, none⟩), .pointer (some ⟨kf, 0, none⟩), callV c d l] w (RetT M kf (askE (shardN E.groups) E c F) w) := by
  obtain ⟨Ad, cd, rfl⟩ := hc.1.shape
  obtain ⟨Al, cl, rfl, _⟩ := hc.2.shape
  have HK := hid hk
  have H := hid h
  have HC := hid hc
  have HM := hid hM
  have hkl := block_lt hk
  have hfl : kf < w.heap.size := hM _ hkf
  clear hk h hc hM
  rcases c with ⟨ck, cf, cli, cn, ⟨tf, tr, te, tt⟩, cdat, cls⟩
  simp only [callV, callC] at *
  generalize hdl : cdat.length = dl at *
  generalize hll : cls.length = ll at *
  try simp only at hkind
  subst hkind
  rw [hg, show askE (shardN 1) E ⟨8, cf, cli, cn, ⟨tf, tr, te, tt⟩, cdat, cls⟩ F = decideF F te tt cls E.now from by simp [askE, hs, nearD_one]]
  go_enter Tryz.func70, Tryz.ntmps70
  go_upto_region 10 with fail
  have G1 := hid (((Gr.refl w).alloc (.cells #[.int .i64 8, .int .i64 cf, .int .i64 cli, .int .i64 cn, .int .i64 tf, .int .i64 tr, .int .i64 te, .int .i64 tt, .slice Ad dl cd, .slice Al ll cl] 35)).alloc (.cells #[.int .i64 tf, .int .i64 tr, .int .i64 te, .int .i64 tt] 28))
  have HB := hid ((((Gr.refl _).alloc (.cells #[.int .i64 tf, .int .i64 tr, .int .i64 te, .int .i64 tt] 28)).block w.heap.size (by simp)).trans (heap_alloc_new w (.cells #[.int .i64 8, .int .i64 cf, .int .i64 cli, .int .i64 cn, .int .i64 tf, .int .i64 tr, .int .i64 te, .int .i64 tt, .slice Ad dl cd, .slice Al ll cl] 35)))
  have HT := hid (show ((w.alloc (.cells #[.int .i64 8, .int .i64 cf, .int .i64 cli, .int .i64 cn, .int .i64 tf, .int .i64 tr, .int .i64 te, .int .i64 tt, .slice Ad dl cd, .slice Al ll cl] 35)).alloc (.cells #[.int .i64 tf, .int .i64 tr, .int .i64 te, .int .i64 tt] 28)).heap[w.heap.size + 1]? = some (.cells #[.int .i64 tf, .int .i64 tr, .int .i64 te, .int .i64 tt] 28 (0, 0)) from by have := heap_alloc_new (w.alloc (.cells #[.int .i64 8, .int .i64 cf, .int .i64 cli, .int .i64 cn, .int .i64 tf, .int .i64 tr, .int .i64 te, .int .i64 tt, .slice Ad dl cd, .slice Al ll cl] 35)) (.cells #[.int .i64 tf, .int .i64 tr, .int .i64 te, .int .i64 tt] 28); simpa using this)
  generalize hw1 : ((w.alloc (.cells #[.int .i64 8, .int .i64 cf, .int .i64 cli, .int .i64 cn, .int .i64 tf, .int .i64 tr, .int .i64 te, .int .i64 tt, .slice Ad dl cd, .slice Al ll cl] 35)).alloc (.cells #[.int .i64 tf, .int .i64 tr, .int .i64 te, .int .i64 tt] 28)) = w1 at *
  clear hw1
  have HKK := hid ((G1.out.block k hkl).trans HK.out)
  have hbl := block_lt HB.out
  have htl := block_lt HT.out
  have HS := hid (show ∀ W, Mod (fun b => b = kf) w1 W → ∃ _ : w.heap.size < W.heap.size ∧ w.heap.size + 1 < W.heap.size ∧ k < W.heap.size, (W.cell? ⟨w.heap.size, 0, none⟩ = some (.int .i64 8) ∧ W.cell? ⟨w.heap.size, 8, none⟩ = some (.slice Ad dl cd) ∧ W.cell? ⟨w.heap.size, 9, none⟩ = some (.slice Al ll cl)) ∧ (W.cell? ⟨w.heap.size + 1, 2, none⟩ = some (.int .i64 te) ∧ W.cell? ⟨w.heap.size + 1, 3, none⟩ = some (.int .i64 tt)) ∧ W.cell? ⟨k, 4, none⟩ = some (.int .i64 E.now) from fun W mm => by
    have q0 := (mm.block w.heap.size hbl (by show ¬ w.heap.size = kf; omega)).trans HB.out
    have q1 := (mm.block (w.heap.size + 1) htl (by show ¬ w.heap.size + 1 = kf; omega)).trans HT.out
    have q2 := (mm.block k (block_lt HKK.out) hne).trans HKK.out
    obtain ⟨a0, _, _, _, _, _, _, _, a8, a9⟩ := cells10 q0
    refine ⟨⟨block_lt q0, block_lt q1, block_lt q2⟩, ⟨a0, a8, a9⟩, ?_, ?_⟩
    · exact ⟨by simp [World.cell?, q1], by simp [World.cell?, q1]⟩
    · simp [World.cell?, q2, engC])
  have HNEAR := hid (fun (W : World) (g : Gr w1 W) => near_any k kd ka mr E.now (.slice Al ll cl) cls M W (kh := kh) ((g.block k (block_lt HKK.out)).trans (by have := HKK.out; rw [engC, hg, hs] at this; exact this)) (HC.out.2.up (Gr.up (G1.out.trans g) M)) (by omega) (fun b e => Nat.lt_of_lt_of_le (HM.out b e) (G1.out.trans g).size))
  refine wp_region_planM [(0, false), (1, false), (2, false), (3, false), (4, false), (5, false), (6, false), (7, false), (9, false), (10, false), (11, false), (12, false), (8, true), (13, true), (14, false), (15, false), (16, false), (17, true)] (fun W => Mod (fun b => b = kf) w1 W) (by kernel_rfl) (by kernel_rfl) (fun _ _ d _ _ h => by cases d <;> exact h) ((Gr.refl w1).drew.mod _) (fun _ => ?_)
  iterate 12 (refine pm_take (v := ?_) rfl (by rfl) ?_ ?_; rotate_left; (focus (intro W9 hW9; obtain ⟨⟨_, _, _⟩, ⟨a0, a8, a9⟩, ⟨a2, a3⟩, a4⟩ := HS.out W9 hW9; go_simp; (try with_reducible rfl); done)); (try simp only [AP]))
  refine pm_call rfl (by rfl) (fun K hK => ?_)
  go_simp
  go_at_call 110
  refine (HNEAR.out _ (Gr.refl w1).drew).mono ?_
  rintro en w4 ⟨v4, rfl, g4, hr4⟩
  have HR4 := hid hr4
  have G4 := hid ((Gr.refl w1).drew.trans g4)
  refine hK.out (fun W => Mod (fun b => b = kf) w1 W) _ _ (G4.out.mod _) (fun W h => h) (fun _ => ?_)
  clear hK K hr4 g4
  (try simp only [AP])
  refine pm_call rfl (by rfl) (fun K hK => ?_)
  go_simp
  go_at_call 109
  refine (decide_any PUT kf F te tt v4 cls E.now M _ (H.out.gr (G1.out.trans G4.out)) (fun b e => Nat.lt_of_lt_of_le (HM.out b e) (G1.out.trans G4.out).size) hkf hF HR4.out).mono ?_
  rintro en w5 ⟨A5, c5, rfl, hf5, ho5, hm5⟩
  have M5 := hid ((G4.out.mod _).trans hm5 (fun _ _ e => e))
  refine hK.out (fun W => Mod (fun b => b = kf) w1 W) _ _ M5.out (fun W h => h) (fun _ => ?_)
  clear hK K
  (try simp only [AP])
  iterate 3 (refine pm_take (v := ?_) rfl (by rfl) ?_ ?_; rotate_left; (focus (intro W9 hW9; obtain ⟨⟨_, _, _⟩, ⟨a0, a8, a9⟩, ⟨a2, a3⟩, a4⟩ := HS.out W9 hW9; go_simp; (try with_reducible rfl); done)); (try simp only [AP]))
  refine pm_last rfl (by rfl) (fun K hK => ?_)
  go_simp
  refine hK.out _ _ ?_
  clear hK K
  go_wp2_with fail
  go_ret2
  exact ⟨A5, c5, rfl, hf5, ho5, (G1.out.mod _).trans M5.out (fun _ _ e => e)⟩
set_option maxHeartbeats 2000000 in
theorem ask_cancel (PUT : PutAny) (k kf kd ka mr kh : Nat) (E : ES) (c : Call) (d l : Value) (F : FS) (M : Bl) (w : World) (hk : w.heap[k]? = some (.cells (engC E kd ka mr kh) 79 (0, 0))) (h : FlowF w M kf F) (hM : ∀ b, M b → b < w.heap.size) (hkf : M kf) (_ : k ≠ kf) (hF : FOk F) (hc : CallM w M c d l) (hkind : c.kind = 3) : Calls Tryz.prog 70 #[.pointer (some ⟨k, 0, none⟩), .pointer (some ⟨kf, 0, none⟩), callV c d l] w (RetT M kf (askE (shardN E.groups) E c F) w) := by
  obtain ⟨Ad, cd, rfl⟩ := hc.1.shape
  obtain ⟨Al, cl, rfl, _⟩ := hc.2.shape
  have HK := hid hk
  have H := hid h
  have HC := hid hc
  have HM := hid hM
  have hkl := block_lt hk
  have hfl : kf < w.heap.size := hM _ hkf
  clear hk h hc hM
  rcases c with ⟨ck, cf, cli, cn, ⟨tf, tr, te, tt⟩, cdat, cls⟩
  simp only [callV, callC] at *
  generalize hdl : cdat.length = dl at *
  generalize hll : cls.length = ll at *
  try simp only at hkind
  subst hkind
  rw [show askE (shardN E.groups) E ⟨3, cf, cli, cn, ⟨tf, tr, te, tt⟩, cdat, cls⟩ F = cancelF F E.now from by simp [askE]]
  have G1 := hid (((Gr.refl w).alloc (.cells #[.int .i64 3, .int .i64 cf, .int .i64 cli, .int .i64 cn, .int .i64 tf, .int .i64 tr, .int .i64 te, .int .i64 tt, .slice Ad dl cd, .slice Al ll cl] 35)).alloc (.cells #[.int .i64 tf, .int .i64 tr, .int .i64 te, .int .i64 tt] 28))
  have k4 : w.cell? ⟨k, 4, none⟩ = some (.int .i64 E.now) := by simp [World.cell?, HK.out, engC]
  go_enter Tryz.func70, Tryz.ntmps70
  go_wp2_with (go_at_call 107
               refine (cancel_any PUT kf F E.now M _ (H.out.gr G1.out) (fun b e => Nat.lt_of_lt_of_le (HM.out b e) G1.out.size) hkf hF).mono ?_
               rintro en w5 ⟨A5, c5, rfl, hf5, ho5, hm5⟩)
  go_ret2
  exact ⟨A5, c5, rfl, hf5, ho5, (G1.out.mod _).trans hm5 (fun _ _ e => e)⟩
theorem ask_any (PUT : PutAny) (k kf kd ka mr kh : Nat) (E : ES) (c : Call) (d l : Value) (F : FS) (M : Bl) (w : World) (hk : w.heap[k]? = some (.cells (engC E kd ka mr kh) 79 (0, 0))) (h : FlowF w M kf F) (hM : ∀ b, M b → b < w.heap.size) (hkf : M kf) (hne : k ≠ kf) (hF : FOk F) (hc : CallM w M c d l) (hnear : c.kind = 8 → E.groups = 1 ∧ E.shard = 0 ∧ c.l.length ≤ 100000) : Calls Tryz.prog 70 #[.pointer (some ⟨k, 0, none⟩), .pointer (some ⟨kf, 0, none⟩), callV c d l] w (RetT M kf (askE (shardN E.groups) E c F) w) := by
  by_cases h2 : c.kind = 2
  · exact ask_signal PUT k kf kd ka mr kh E c d l F M w hk h hM hkf hne hF hc h2
  by_cases h3 : c.kind = 3
  · exact ask_cancel PUT k kf kd ka mr kh E c d l F M w hk h hM hkf hne hF hc h3
  by_cases h4 : c.kind = 4
  · exact ask_terminate PUT k kf kd ka mr kh E c d l F M w hk h hM hkf hne hF hc h4
  by_cases h8 : c.kind = 8
  · exact ask_decide PUT k kf kd ka mr kh E c d l F M w hk h hM hkf hne hF hc h8 (hnear h8).1 (hnear h8).2.1 (hnear h8).2.2
  by_cases h10 : c.kind = 10
  · exact ask_worked PUT k kf kd ka mr kh E c d l F M w hk h hM hkf hne hF hc h10
  · exact ask_failed PUT k kf kd ka mr kh E c d l F M w hk h hM hkf hne hF hc ⟨h2, h3, h4, h8, h10⟩
end Go.Proofs.YtniknicnnaiilaaGreat
end
