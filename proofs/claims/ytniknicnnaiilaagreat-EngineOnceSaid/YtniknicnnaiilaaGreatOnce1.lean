/- Lemmas: what the functions of the engine answer, and which blocks they write. -/
import Derived.Test.YtniknicnnaiilaaGreatX05
import Derived.Test.YtniknicnnaiilaaGreatX06
import Derived.Test.YtniknicnnaiilaaGreatX08
import Derived.Test.YtniknicnnaiilaaGreatX10
import Derived.Test.YtniknicnnaiilaaGreatX11
import Derived.Test.YtniknicnnaiilaaGreatX12
import Derived.Test.YtniknicnnaiilaaGreatX22
import Derived.Test.YtniknicnnaiilaaGreatX25
import Derived.Test.YtniknicnnaiilaaGreatX33
import Derived.Test.YtniknicnnaiilaaGreatX37
section
namespace Go.Proofs.YtniknicnnaiilaaGreat
set_option maxRecDepth 100000
open Go.RowKit Go.Ext Go.BigFrame Go.Maps Go.MapKept
attribute [local go_sem] Ext.cell Ext.frozen Ext.lt Ext.le s1 s2 s3 s4 s5 s6 t1 t2 t3 t4 t5 t6
attribute [local go_sem ↓] Go.wp_at_zero Go.wp_at_succ
theorem field31 (a b c d e f g h i j : Value) (w : World) : (Instr.field 31 (.agg #[a, b, c, d, e, f, g, h, i, j]) 0).run Tryz.prog w = .ok a w := by kernel_rfl
structure Lw (w0 w : World) (M S : Bl) (k : Nat) (E : ES) (n : Nat) : Prop where
  law : Law w0 w M S k E n
  m : ∀ b, M b → w0.heap.size ≤ b
section
variable {w0 w w' w2 : World} {M S M2 S2 : Bl} {k n : Nat} {E E' : ES}
theorem Lw.gr (h : Lw w0 w M S k E n) (g : Gr w w') : Lw w0 w' M S k E n := ⟨h.law.gr g, h.m⟩
theorem Lw.step {m : Nat} (h : Lw w0 w M S k E n) (hal : Along w M S w2 M2 S2) (heng : EngR w2 M2 S2 k E') (he : E1 E' m) : Lw w0 w2 M2 S2 k E' m :=
  ⟨h.law.step hal heng he, fun b e => by
    by_cases hb : b < w.heap.size
    · exact h.m b (hal.m b hb e)
    · have := h.law.g.size
      omega⟩
theorem Lw.bys {dv : Value} {d : List UInt8} (h : Lw w0 w M S k E n) (hd : BysM w0 (fun _ => False) dv d) : BysM w M dv d :=
  hd.up ⟨h.law.g.mod _, fun b hb e => by have := h.m b e; omega⟩
theorem Lw.more {B : Nat} (h : Lw w0 w M S k E n) (g : Gr w w') (h1 : w.heap.size ≤ B) (h2 : B < w'.heap.size) : Lw w0 w' (fun b => M b ∨ b = B) S k E n :=
  ⟨⟨h.law.eng.more g h1 h2, h.law.e1, h.law.g.trans g, h.law.s⟩, fun b e => by
    rcases e with e | e
    · exact h.m b e
    · have := h.law.g.size
      omega⟩
theorem Lw.set {B : Nat} (h : Lw w0 w M S k E n) (m : Mod (fun b => b = B) w w') (h1 : M B) (h2 : ¬ S B) : Lw w0 w' M S k E n :=
  ⟨⟨h.law.eng.setOther m h1 h2, h.law.e1, gr_newS h.law.g m (fun _ e => e ▸ h.m B h1), h.law.s⟩, h.m⟩
end
def RetLm (w0 : World) (M S : Bl) (k : Nat) (x : Ans × ES) (n : Nat) (w : World) (en : Ending) (w2 : World) : Prop :=
  ∃ A c A' c' M' S', en = .returned (ansV x.1 (.slice A x.1.data.length c) (.slice A' x.1.events.length c')) ∧ Lw w0 w2 M' S' k x.2 (n + 100) ∧ Along w M S w2 M' S' ∧ BysM w2 M' (.slice A x.1.data.length c) x.1.data ∧ RecsM evR w2 M' (.slice A' x.1.events.length c') x.1.events
theorem Lw.call {w0 w : World} {M S : Bl} {k n : Nat} {E : ES} (h : Lw w0 w M S k E n) (c : Call) (d l : Value) (hn : n ≤ 998000) (hc : CallM w M c d l) (hll : c.l.length ≤ 140737488351232) (hdd : ∀ d ∈ c.l, d.data.length ≤ 140737488351232) :
    Calls Tryz.prog 14 #[.pointer (some ⟨k, 0, none⟩), callV c d l] w (RetLm w0 M S k (call1 E c) n w) := by
  refine (call1_any k E c d l M S w h.law.eng h.law.e1 hn hc hll hdd).mono ?_
  rintro en w2 ⟨dv, ev, M2, S2, rfl, h2, hal2, hd2, he2⟩
  obtain ⟨A, ca, rfl⟩ := hd2.shape
  obtain ⟨A', ca', rfl, _⟩ := he2.shape
  exact ⟨A, ca, A', ca', M2, S2, rfl, h.step hal2 h2 (h.law.e1.call c), hal2, hd2, he2⟩
theorem made_any (w : World) : Calls Tryz.prog 13 #[] w (fun en w' => ∃ k M S, en = .returned (.pointer (some ⟨k, 0, none⟩)) ∧ Lw w w' M S k (e0 0 1) 0) := by
  go_enter Tryz.func13, Tryz.ntmps13
  go_wp2_with fail
  refine (new1_any (fun _ => False) w (fun _ e => e.elim)).mono ?_
  rintro en w1 ⟨M1, S1, k, rfl, g, he, -, hm, hs⟩
  have L1 := hid (show Lw w w1 M1 S1 k (e0 0 1) 0 from ⟨⟨he, e1_e0, g, hs⟩, fun b e => Nat.le_of_not_lt fun hb => hm b hb e⟩)
  clear g he hm hs
  go_wp2_with fail
  go_ret
  exact ⟨k, M1, S1, rfl, L1.out⟩
set_option maxHeartbeats 4000000 in
theorem poll_any {w0 w : World} {M S : Bl} {k n : Nat} {E : ES} (h : Lw w0 w M S k E n) (list : Int) (hn : n ≤ 998000) :
    Calls Tryz.prog 16 #[.pointer (some ⟨k, 0, none⟩), .int .i64 list] w (RetLm w0 M S k (call1 E ⟨7, 0, list, 0, tok0, [], []⟩) n w) := by
  have HL := hid h
  have HS := hid (show ∀ b, S b → b < w.heap.size from fun b e => h.law.eng.lt.1 b (h.law.eng.lt.2.1 b e))
  have HN := hid (h.law.eng.nS (Nat.le_refl w.heap.size))
  obtain ⟨w1, hw1⟩ : ∃ w1, w.alloc (.cells #[.int .i64 0, .int .i64 0, .int .i64 0, .bool false, .int .i64 0, .int .i64 0, .int .i64 0, .int .i64 0, .slice none 0 0, .slice none 0 0] 31) = w1 := ⟨_, rfl⟩
  have HB := hid (hw1 ▸ heap_alloc_new w (.cells #[.int .i64 0, .int .i64 0, .int .i64 0, .bool false, .int .i64 0, .int .i64 0, .int .i64 0, .int .i64 0, .slice none 0 0, .slice none 0 0] 31))
  have G1 := hid (hw1 ▸ (Gr.refl w).alloc (.cells #[.int .i64 0, .int .i64 0, .int .i64 0, .bool false, .int .i64 0, .int .i64 0, .int .i64 0, .int .i64 0, .slice none 0 0, .slice none 0 0] 31))
  have HM := hid (show EngR w1 (fun b => M b ∨ b = w.heap.size) S k E from h.law.eng.more G1.out (Nat.le_refl _) (block_lt HB.out))
  have HW1 := hid hw1
  have HC := hid (call1_any k E ⟨7, 0, list, 0, tok0, [], []⟩ (.slice none 0 0) (.slice none 0 0) _ S w1 HM.out h.law.e1 hn (callM_none _ _ _ rfl rfl) (by simp) (by simp))
  have HE1 := hid (h.law.e1.call ⟨7, 0, list, 0, tok0, [], []⟩)
  obtain ⟨⟨a, E'⟩, hx⟩ : ∃ x, call1 E ⟨7, 0, list, 0, tok0, [], []⟩ = x := ⟨_, rfl⟩
  rw [hx] at HC HE1 ⊢
  clear hx hw1 h
  go_enter Tryz.func16, Tryz.ntmps16
  go_upto_region 1 with fail
  rw [HW1.out]
  go_wp2_with fail
  refine HC.out.mono ?_
  rintro en w2 ⟨dv, ev, M2, S2, rfl, h2, hal2, hd2, he2⟩
  obtain ⟨A, ca, rfl⟩ := hd2.shape
  obtain ⟨A', ca', rfl, _⟩ := he2.shape
  have H2 := hid h2
  have HAL := hid hal2
  have HD := hid hd2
  have HEV := hid he2
  have hb2 := (hal2.keepb HB.out HN.out).1
  clear h2 hal2 hd2 he2
  rcases a with ⟨v0, v1, v2, v3, ⟨v4, v5, v6, v7⟩, v8, v9⟩
  simp only [ansV, ansC] at *
  obtain ⟨n8, hn8⟩ : ∃ n, v8.length = n := ⟨_, rfl⟩
  obtain ⟨n9, hn9⟩ : ∃ n, v9.length = n := ⟨_, rfl⟩
  have HN8 := hid hn8
  have HN9 := hid hn9
  rw [hn8, hn9]
  clear hn8 hn9
  obtain ⟨b0, b1, b2, b3, b4, b5, b6, b7, b8, b9⟩ := cells10 hb2
  have lb := block_lt hb2
  obtain ⟨f0, f1, f2, f3, f4, f5, f6, f7, f8, f9⟩ := FZ hb2
  have HF := hid (show ∀ w3, Mod (fun x => x = w.heap.size) w2 w3 → RetLm w0 M S k (⟨v0, v1, v2, v3, ⟨v4, v5, v6, v7⟩, v8, v9⟩, E') n w (.returned (ansV ⟨v0, v1, v2, v3, ⟨v4, v5, v6, v7⟩, v8, v9⟩ (.slice A n8 ca) (.slice A' n9 ca'))) w3 from fun w3 m => by
    have hfin := fin_ans (a := ⟨v0, v1, v2, v3, ⟨v4, v5, v6, v7⟩, v8, v9⟩) HS.out G1.out (Nat.le_refl _) (block_lt HB.out) H2.out HAL.out HD.out HEV.out m
    refine ⟨A, ca, A', ca', M2, S2, ?_, HL.out.step hfin.2.1 hfin.1 HE1.out, hfin.2.1, hfin.2.2.1, hfin.2.2.2⟩
    rw [← HN8.out, ← HN9.out])
  clear hb2
  go_wp2_with fail
  refine bodyPost_ret (v := ansV ⟨v0, v1, v2, v3, ⟨v4, v5, v6, v7⟩, v8, v9⟩ (.slice A n8 ca) (.slice A' n9 ca')) (by simp [results, Tryz.results16, go_sem, ansV, ansC, b0, b1, b2, b3, b4, b5, b6, b7, b8, b9]) rfl ?_
  refine HF.out _ ?_
  exact mod10 w2 w.heap.size _ _ _ _ _ _ _ _ _ _
def RetDc (w0 : World) (M S : Bl) (k : Nat) (x : Ans × ES) (n : Nat) (w : World) (en : Ending) (w2 : World) : Prop := ∃ M' S', en = .returned (.int .i64 x.1.err) ∧ Lw w0 w2 M' S' k x.2 (n + 100) ∧ Along w M S w2 M' S'
set_option maxHeartbeats 4000000 in
theorem decideL_any {w0 w : World} {M S : Bl} {k n : Nat} {E : ES} (h : Lw w0 w M S k E n) (t : Tok) (l : List Dec) (lv : Value) (hn : n ≤ 998000) (hl : RecsM decR w M lv l) (hll : l.length ≤ 100000) (hdd : ∀ d ∈ l, d.data.length ≤ 1000000) :
    Calls Tryz.prog 15 #[.pointer (some ⟨k, 0, none⟩), .agg #[.int .i64 t.flow, .int .i64 t.run, .int .i64 t.event, .int .i64 t.turn], lv] w
      (RetDc w0 M S k (call1 E ⟨8, 0, 0, 0, t, [], l⟩) n w) := by
  obtain ⟨Al, cl, rfl, _⟩ := hl.shape
  rcases t with ⟨t0, t1, t2, t3⟩
  have hg := (Gr.refl w).alloc (.cells #[.int .i64 t0, .int .i64 t1, .int .i64 t2, .int .i64 t3] 28)
  have hc := (h.gr hg).call ⟨8, 0, 0, 0, ⟨t0, t1, t2, t3⟩, [], l⟩ (.slice none 0 0) (.slice Al l.length cl) hn ⟨BysM.none _ _, hl.up (Gr.up hg M)⟩ (by simp only; omega) (fun d hd => Nat.le_trans (hdd d hd) (by omega))
  have HC := hid hc
  have G := hid hg
  obtain ⟨⟨a, E'⟩, hx⟩ : ∃ x, call1 E ⟨8, 0, 0, 0, ⟨t0, t1, t2, t3⟩, [], l⟩ = x := ⟨_, rfl⟩
  rw [hx] at HC ⊢
  clear hx h hl hc hg hll hdd
  go_enter Tryz.func15, Tryz.ntmps15
  simp only [callV, callC] at HC
  generalize l.length = ll at *
  go_wp2_with fail
  refine HC.out.mono ?_
  rintro en w2 ⟨A, c, A', c', M2, S2, rfl, l2, hal2, -, -⟩
  have L2 := hid l2
  have AL := hid ((Along.refl w M S).gr G.out |>.trans hal2)
  clear l2 hal2
  rcases a with ⟨v0, v1, v2, v3, ⟨v4, v5, v6, v7⟩, v8, v9⟩
  simp only [ansV, ansC]
  generalize v8.length = n8 at *
  generalize v9.length = n9 at *
  have hfld := field31
  go_wp2_with fail
  go_ret
  exact ⟨M2, S2, rfl, L2.out, AL.out⟩
end Go.Proofs.YtniknicnnaiilaaGreat
end
section
namespace Go.Proofs.YtniknicnnaiilaaGreat
set_option maxRecDepth 100000
open Go.RowKit Go.Ext Go.BigFrame Go.Maps Go.MapKept
attribute [local go_sem] Ext.cell Ext.frozen Ext.lt Ext.le s1 s2 s3 s4 s5 s6 t1 t2 t3 t4 t5 t6
attribute [local go_sem ↓] Go.wp_at_zero Go.wp_at_succ
def TokOk (t : Tok) : Prop := I64 t.flow ∧ I64 t.run ∧ I64 t.event ∧ I64 t.turn
def tv (t : Tok) : Value := .agg #[.int .i64 t.flow, .int .i64 t.run, .int .i64 t.event, .int .i64 t.turn]
theorem row28 : 28 < Tryz.prog.types.size := of_decide_eq_true (by kernel_rfl)
theorem keyed28 : Keyed Tryz.prog 28 := Keyed.of_law (deep_law_laid (show laidOutB Tryz.prog = true by kernel_rfl) (m := 2) (by omega) row28 (by kernel_rfl) (by kernel_rfl))
theorem keyType28 : Tryz.prog.keyType 28 = true := by kernel_rfl
theorem cellsOf28 : Tryz.prog.cellsOf 28 = 4 := by kernel_rfl
theorem key28 {x : Tok} (h : TokOk x) : ∃ l, keyOf Tryz.prog 28 (tv x) = some l := by
  obtain ⟨h1, h2, h3, h4⟩ := h
  obtain ⟨M, hM⟩ : ∃ M, Tryz.prog.types.size = M + 1 := ⟨Tryz.prog.types.size - 1, by have := row28; omega⟩
  have e1 := lits_int M h1
  have e2 := lits_int M h2
  have e3 := lits_int M h3
  have e4 := lits_int M h4
  obtain ⟨a, b, c, d⟩ := x
  simp only at e1 e2 e3 e4
  refine ⟨.string (keyBytes [.int .i64 a, .int .i64 b, .int .i64 c, .int .i64 d]), ?_⟩
  unfold keyOf
  rw [Tryz.underlying28]
  simp only [keyType28, tv, Value.formed, Tryz.underlying28, cellsOf28, Value.cells, hM, Bool.true_and]
  unfold Program.keyLits
  rw [Tryz.underlying28]
  simp [cellsOf28, cells3, e1, e2, e3, e4]
def MT (w : World) (b n : Nat) (S : (Tok → Bool)) : Prop :=
  ∃ D : DataW Empty, w.ownsMap Tryz.prog 28 (plainElem Tryz.prog 4) b n D ∧ ∀ x l, keyOf Tryz.prog 28 (tv x) = some l → D.atKey l (.lit (.bool false)) = .lit (.bool (S x))
section
variable {w w' : World} {b n : Nat} {S : (Tok → Bool)}
theorem MT.made (w : World) : MT (w.alloc (.map #[] 0)) w.heap.size 0 (fun _ => false) :=
  ⟨.map [], World.ownsMap_made _ _ _ _, fun _ _ _ => rfl⟩
theorem MT.lt (h : MT w b n S) : b < w.heap.size := by
  obtain ⟨D, h1, _⟩ := h
  exact h1.lt
theorem MT.keep (h : MT w b n S) (hb : w'.heap[b]? = w.heap[b]?) : MT w' b n S := by
  obtain ⟨D, ⟨es, clock, h0, F, hs, hD⟩, h1⟩ := h
  exact ⟨D, ⟨es, clock, hb.trans h0, F, hs, hD⟩, h1⟩
theorem MT.gr (h : MT w b n S) (g : Gr w w') : MT w' b n S := h.keep (g.block b h.lt)
theorem MT.look (h : MT w b n S) {x : Tok} (h1 : TokOk x) : (Instr.lookup 52 (.map (some b)) (tv x) false).run Tryz.prog w = .ok (.bool (S x)) w := by
  obtain ⟨D, hD, hS⟩ := h
  obtain ⟨l, hl⟩ := key28 h1
  obtain ⟨v, ps, hrun, hv⟩ := hD.lookup keyed28 Tryz.underlying52 (zeroB w) (zd := .lit (.bool false)) (zp := []) (plainElem_bool Tryz.underlying4 false) hl
  obtain ⟨a, rfl, e⟩ := plainElem_bool_inv Tryz.underlying4 hv
  rw [hS x l hl] at e
  injection e with e _
  injection e with e
  injection e with e
  rw [hrun, e]
theorem tv_inj {x y : Tok} (h : tv x = tv y) : x = y := by
  obtain ⟨a, b, c, d⟩ := x
  obtain ⟨a', b', c', d'⟩ := y
  simp only [tv] at h
  injection h with h
  simp at h
  obtain ⟨rfl, rfl, rfl, rfl⟩ := h
  rfl
theorem MT.set (h : MT w b n S) (hn : n ≤ 1000000) {x : Tok} (h1 : TokOk x) : ∃ w', (Instr.mapUpdate 52 (.map (some b)) (tv x) (.bool true)).run Tryz.prog w = .ok () w' ∧ MT w' b (n + 1) (fun y => decide (y = x) || S y) ∧ Mod (fun k => k = b) w w' := by
  obtain ⟨D, hD, hS⟩ := h
  obtain ⟨l, hl⟩ := key28 h1
  obtain ⟨w', hrun, r1, r2⟩ := hD.update keyed28 Tryz.underlying52 (by unfold maxLen; omega) hl (plainElem_bool Tryz.underlying4 true)
  refine ⟨w', hrun, ⟨_, r1, fun y ly hy => ?_⟩, (mod_grown r2).mono (fun k _ e => by injection e)⟩
  by_cases e : y = x
  · subst e
    have : ly = l := by rw [hl] at hy; injection hy with hy; exact hy.symm
    subst this
    rw [atKey_put_same hD.isMap (keyed28.key hl)]
    simp
  · have hne : ly ≠ l := by
      rintro rfl
      exact e (tv_inj (keyed28.inj hy hl))
    rw [atKey_put_other hne, hS y ly hy]
    simp [e]
end
end Go.Proofs.YtniknicnnaiilaaGreat
end
section
namespace Go.Proofs.YtniknicnnaiilaaGreat
set_option maxRecDepth 100000
open Go.RowKit Go.Ext Go.BigFrame Go.Maps Go.MapKept
attribute [local go_sem] Ext.cell Ext.frozen Ext.lt Ext.le s1 s2 s3 s4 s5 s6 t1 t2 t3 t4 t5 t6
attribute [local go_sem ↓] Go.wp_at_zero Go.wp_at_succ
def cntD (end_ : Int) (L : List It) : Nat := (L.filter fun x => decide (x.1 ≤ end_)).length
theorem cntD_le (end_ : Int) (L : List It) : cntD end_ L ≤ L.length := List.length_filter_le _ _
theorem ins_filter (p : It → Bool) (x : It) (hx : p x = false) (L : List It) : (ins L x).filter p = L.filter p := by
  unfold ins
  rw [List.filter_append, List.filter_cons, hx]
  simp only [Bool.false_eq_true, if_false]
  rw [← List.filter_append, List.take_append_drop]
theorem cntD_add (end_ : Int) (L : List It) (y : Int × Int × Int × Int × Int) : cntD end_ (addD L (end_ + 1, y)) = cntD end_ L := by
  unfold addD cntD
  split
  · rfl
  · rw [ins_filter]
    simp
    omega
theorem tick_stop {end_ : Int} {E : ES} (h : due E.due end_ = false) : ∀ n, tickL end_ n E = E
  | 0 => rfl
  | n + 1 => by
    unfold tickL
    split
    · rfl
    · rename_i i r e
      rw [e] at h
      simp [due, hd] at h
      rw [if_pos h]
theorem tick_go {end_ : Int} {E : ES} {i : It} {r : List It} (e : E.due = i :: r) (h : i.1 ≤ end_) (n : Nat) :
    tickL end_ (n + 1) E = match fireE { E with due := r } i with | some E' => tickL end_ n E' | none => tickL end_ n { E with due := addD r (end_ + 1, i.2) } := by
  rw [tickL]
  rw [e]
  simp only
  rw [if_neg (by omega)]
  rfl
theorem cntD_cons {end_ : Int} {i : It} {r : List It} (h : i.1 ≤ end_) : cntD end_ (i :: r) = cntD end_ r + 1 := by
  unfold cntD
  simp [h]
def tickE (E : ES) (n : Int) : Int × ES :=
  if n < 1 ∨ 1048576 < n then (1, E) else if 1099511627776 - n < E.now then (4, E) else (0, { tickL (E.now + n) E.due.length E with now := E.now + n })
theorem give_tok {E E' : ES} {d : Bool} {t : Task} {a : Ans} (hE : EJ E) (hw : wantedE E t = true) (h : giveE E d t = some (a, E')) : TokOk a.tok := by
  unfold giveE at h
  split at h
  · cases h
  rename_i r hr
  unfold wantedE at hw
  rw [hr] at hw
  simp only [Bool.and_eq_true, beq_iff_eq] at hw
  obtain ⟨hrun, hwant⟩ := hw
  have hJ : FJ r.f := hE.j _ (lk_mem hr)
  obtain ⟨hO, hid⟩ := hE.ok.get hr
  split at h
  rotate_left
  · cases h
  split at h
  rotate_left
  · cases h
  injection h with h
  injection h with h1 h2
  subst h1
  have h4 := hO.len
  have hi := hO.idn
  have hn := hO.runn
  have hb : (1 ≤ t.ref ∧ t.ref ≤ 4096) ∧ -1 ≤ t.turn ∧ t.turn ≤ 4096 := by
    unfold wantsF at hwant
    split at hwant
    · rename_i ht
      split at hwant
      · rename_i x hx
        have := (hO.i.keys _ (lk_mem hx))
        simp only at this
        omega
      · cases hwant
    · simp only [Bool.and_eq_true, beq_iff_eq] at hwant
      obtain ⟨⟨k1, k2⟩, k3⟩ := hwant
      obtain ⟨p1, p2, _⟩ := hJ.place (by omega)
      have := hO.i.turn
      omega
  refine ⟨?_, ?_, ?_, ?_⟩ <;> simp only [giveA] <;> constructor <;> omega
theorem pollL_tok {d : Bool} {list : Int} : ∀ (l : List Task) (E : ES), EJ E → (pollL d list E l).1.given = true → TokOk (pollL d list E l).1.tok
  | [], E, _, h => by simp [pollL, ans0] at h
  | t :: r, E, hE, h => by
    unfold pollL at h ⊢
    split
    · rename_i hw
      rw [if_pos hw] at h
      split
      · rename_i hg
        rw [hg] at h
        simp [ans0] at h
      · rename_i a E' hg
        exact give_tok hE hw hg
    · rename_i hw
      rw [if_neg hw] at h
      exact pollL_tok r (popE E d list) (hE.gro nx_pop (.same (pop_runs _ _ _))) h
theorem call_tok (sh : Int → Int) {E : ES} (c : Call) (hE : EJ E) (h : (callE sh E c).1.given = true) : TokOk (callE sh E c).1.tok := by
  unfold callE at h ⊢
  split
  · rename_i hc
    rw [if_pos hc] at h
    simp [failA, ans0] at h
  rename_i hc
  rw [if_neg hc] at h
  obtain ⟨x, hx⟩ : ∃ x, doE sh E c = x := ⟨_, rfl⟩
  rw [hx] at h ⊢
  rcases x with ⟨a, E' | E'⟩
  · simp [failA, ans0] at h
  simp only at h ⊢
  unfold doE at hx
  split at hx
  · unfold startE at hx
    split at hx
    · injection hx with hx _; subst hx; simp [failA, ans0] at h
    · split at hx
      · cases hx
      · injection hx with hx _; subst hx; simp [ans0] at h
  split at hx
  · injection hx with h1 h2
    subst h1
    exact pollL_tok _ _ hE h
  split at hx
  · injection hx with hx _; subst hx; simp [failA, ans0] at h
  split at hx
  · injection hx with hx _; subst hx; simp [failA, ans0] at h
  split at hx
  · injection hx with hx _; subst hx; simp [ans0] at h
  split at hx
  · injection hx with hx _; subst hx; simp [ans0] at h
  · injection hx with hx _; subst hx; simp [failA, ans0] at h
theorem ej_e0 : EJ (e0 0 1) := ⟨ok_e0 0 1 ⟨by decide, by decide, by decide⟩, by simp [e0]⟩
theorem ej_call {E : ES} (h : EJ E) (c : Call) : EJ (call1 E c).2 := h.gro (nx_call sh0 E c) (gro_call sh0 E c)
theorem seen_call {E : ES} {t : Tok} (h : Seen E t) (c : Call) : Seen (call1 E c).2 t := h.gro (gro_call sh0 E c)
theorem tick_nx (E : ES) (n : Int) : (EOk E → EOk (tickE E n).2) ∧ (tickE E n).2.due.length ≤ E.due.length ∧ (tickE E n).2.groups = E.groups ∧ Gro E (tickE E n).2 := by
  unfold tickE
  split
  · exact ⟨id, Nat.le_refl _, rfl, Gro.refl _⟩
  split
  · exact ⟨id, Nat.le_refl _, rfl, Gro.refl _⟩
  rename_i h1 h2
  have hx := nx_tick (E.now + n) E.due.length E
  have hg := gro_tick (E.now + n) E.due.length E
  refine ⟨fun e => ?_, by have := hx.due; simpa using this, hx.groups, hg.trans (.same rfl) hx.ok⟩
  obtain ⟨a, _, c, d, e', f, g⟩ := hx.ok e
  have hn := e.now
  exact ⟨a, by simp only; omega, c, d, e', f, g⟩
theorem ej_tick {E : ES} (h : EJ E) (n : Int) : EJ (tickE E n).2 := ⟨(tick_nx E n).1 h.ok, (tick_nx E n).2.2.2.j h.ok h.j⟩
structure ActD where
  op : Int
  c : Call
  last : Bool
  n : Int
def actC (a : ActD) (d l : Value) : List Value := [.int .i64 a.op, .int .i64 a.c.kind, .int .i64 a.c.flow, .int .i64 a.c.list, .int .i64 a.c.n, .int .i64 a.c.tok.flow, .int .i64 a.c.tok.run, .int .i64 a.c.tok.event, .int .i64 a.c.tok.turn, d, l, .bool a.last, .int .i64 a.n]
def ActAt (w : World) (M : Bl) (A : Option Addr) (i : Nat) (a : ActD) : Prop :=
  ∃ b off Ad cd Al cl, A = some ⟨b, off, none⟩ ∧ b < w.heap.size ∧ ¬ M b ∧ CallM w M a.c (.slice Ad a.c.data.length cd) (.slice Al a.c.l.length cl) ∧ a.c.l.length ≤ 140737488351232 ∧
    ∀ j u, (actC a (.slice Ad a.c.data.length cd) (.slice Al a.c.l.length cl))[j]? = some u → w.cell? ⟨b, off + i * 13 + j, none⟩ = some u
def ActsM (w : World) (M : Bl) (A : Option Addr) (xs : List ActD) : Prop := ∀ i x, xs[i]? = some x → ActAt w M A i x
theorem ActAt.up {w w' : World} {M M' : Bl} {A : Option Addr} {i : Nat} {a : ActD} (h : ActAt w M A i a) (u : Up M w M' w') : ActAt w' M' A i a := by
  obtain ⟨b, off, Ad, cd, Al, cl, e, hb, hM, hc, hl, hx⟩ := h
  exact ⟨b, off, Ad, cd, Al, cl, e, Nat.lt_of_lt_of_le hb u.size, u.not hb hM, hc.up u, hl, fun j v hj => (World.cell?_of_block (u.block hb hM)).trans (hx j v hj)⟩
theorem ActsM.up {w w' : World} {M M' : Bl} {A : Option Addr} {xs : List ActD} (h : ActsM w M A xs) (u : Up M w M' w') : ActsM w' M' A xs := fun i x hx => (h i x hx).up u
theorem dats_len {w : World} {M : Bl} : ∀ {l : List Dec} {ds : List Value}, DatM w M (l.map decR) ds → ∀ d ∈ l, d.data.length ≤ 140737488351232
  | [], _, _, d, hd => by cases hd
  | x :: r, [], h, d, hd => h.elim
  | x :: r, e :: es, h, d, hd => by
    rcases List.mem_cons.1 hd with rfl | hd
    · obtain ⟨_, _, _, h1, _⟩ := h.1
      exact h1
    · exact dats_len h.2 d hd
theorem CallM.datas {w : World} {M : Bl} {c : Call} {d l : Value} (h : CallM w M c d l) : ∀ d ∈ c.l, d.data.length ≤ 140737488351232 := by
  obtain ⟨_, _, ds, _, _, hd, _⟩ := h.2
  exact dats_len hd
def RetFew (n : Nat) (w : World) (e : Ending) (w' : World) : Prop := ∃ b, e = .returned (.bool b) ∧ (b = true → n ≤ 150) ∧ Gr w w'
set_option maxHeartbeats 8000000 in
theorem few_any (A : Option Addr) (c : Nat) (xs : List ActD) (M : Bl) (w : World) (h : ActsM w M A xs) (hl : xs.length ≤ 140737488351232) :
    Calls Tryz.prog 22 #[.slice A xs.length c] w (RetFew xs.length w) := by
  have H := hid h
  have HL := hid hl
  obtain ⟨n, hn⟩ : ∃ n, xs.length = n := ⟨_, rfl⟩
  have HN := hid hn
  rw [hn] at HL ⊢
  clear h hl hn
  go_enter Tryz.func22, Tryz.ntmps22
  go_wp2_with fail
  go_loopw [3, 4] (fun nv iv wr => ∃ (x : Int) (i : Nat), nv = .int .i64 x ∧ iv = .int .i64 i ∧ i ≤ n ∧ Gr w wr) (fun _ iv _ => n - (intOf iv).toNat)
  case atStart => exact ⟨0, 0, rfl, rfl, Nat.zero_le _, Gr.refl w⟩
  case round =>
    obtain ⟨x, i, rfl, rfl, hi, hgr⟩ := hrel
    have HG := hid hgr
    clear hgr
    have hLL : (n : Int) ≤ 140737488351232 := by have := HL.out; omega
    by_cases hlt : i < n
    · obtain ⟨a, ha⟩ : ∃ a, xs[i]? = some a := ⟨_, List.getElem?_eq_getElem (by rw [HN.out]; exact hlt)⟩
      have HA := hid (H.out.up (Gr.up HG.out M) i a ha)
      obtain ⟨b, off, Ad, cd, Al, cl, rfl, hb, hM, hcm, hll, hx⟩ := HA.out
      have HCM := hid hcm
      have c9 := hx 9 _ rfl
      have c10 := hx 10 _ rfl
      obtain ⟨ll, hll9⟩ : ∃ n, a.c.l.length = n := ⟨_, rfl⟩
      have HLL := hid hll9
      rw [hll9] at c10 hll HCM
      generalize a.c.data.length = dl at *
      clear hx hcm HA ha hll9
      have hlz : (i : Int) < (n : Int) := by omega
      have hz2 : (ll : Int) ≤ 140737488351232 := by omega
      go_wp2_with fail
      go_quiet (fail)
      go_wp2_with fail
      go_loopw [3, 5] (fun nv kv w3 => ∃ (x : Int) (k : Nat), nv = .int .i64 x ∧ kv = .int .i64 k ∧ k ≤ ll ∧ Gr wr w3) (fun _ kv _ => ll - (intOf kv).toNat)
      case atStart => exact ⟨_, 0, rfl, rfl, Nat.zero_le _, (Gr.refl wr).drewN _⟩
      case round =>
        obtain ⟨x, j, rfl, rfl, hj, hg3⟩ := hrel
        have HG3 := hid hg3
        have hb3 := Nat.lt_of_lt_of_le hb hg3.size
        have c10' := (hg3.cell hb).trans c10
        clear hg3 c9
        by_cases hjl : j < ll
        · obtain ⟨d, hd⟩ : ∃ d, a.c.l[j]? = some d := ⟨_, List.getElem?_eq_getElem (by rw [HLL.out]; exact hjl)⟩
          obtain ⟨b', off', A', c', rfl, hb', -, -, -, -, -, -, d4⟩ := dec_at (HCM.out.up (Gr.up HG3.out M)).2 hd
          generalize d.data.length = dl' at *
          have hjz : (j : Int) < (ll : Int) := by omega
          go_wp2_with fail
          go_roundw
          case rel => exact ⟨_, j + 1, rfl, by go_num, by omega, HG3.out⟩
          case measure => simp [intOf]; omega
        · have hjz : ¬ (j : Int) < (ll : Int) := by omega
          go_wp2_with fail
          go_roundw
          case rel => exact ⟨_, i + 1, rfl, by go_num, by omega, HG.out.trans HG3.out⟩
          case measure => simp [intOf]; omega
    · have hlz : ¬ (i : Int) < (n : Int) := by omega
      by_cases h150 : n ≤ 150
      · have hz : (n : Int) ≤ 150 := by omega
        by_cases hx : x ≤ 16384
        all_goals (
          go_wp2_with fail
          go_ret
          exact ⟨_, rfl, fun _ => h150, HG.out⟩)
      · have hz : ¬ (n : Int) ≤ 150 := by omega
        go_wp2_with fail
        go_ret
        exact ⟨_, rfl, fun e => (by cases e), HG.out⟩
end Go.Proofs.YtniknicnnaiilaaGreat
end
