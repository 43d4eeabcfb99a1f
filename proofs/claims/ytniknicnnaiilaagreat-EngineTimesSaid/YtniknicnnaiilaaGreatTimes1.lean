/- Lemmas: what the functions of the engine answer, and which blocks they write. -/
import Derived.Test.YtniknicnnaiilaaGreatX05
import Derived.Test.YtniknicnnaiilaaGreatX06
import Derived.Test.YtniknicnnaiilaaGreatX08
import Derived.Test.YtniknicnnaiilaaGreatX11
import Derived.Test.YtniknicnnaiilaaGreatX12
import Derived.Test.YtniknicnnaiilaaGreatX25
import Derived.Test.YtniknicnnaiilaaGreatX33
import Derived.Test.YtniknicnnaiilaaGreatX37
section
namespace Go.Proofs.YtniknicnnaiilaaGreat
set_option maxRecDepth 100000
open Go.RowKit Go.Ext Go.BigFrame Go.Maps Go.MapKept
attribute [local go_sem] Ext.cell Ext.frozen Ext.lt Ext.le s1 s2 s3 s4 s5 s6 t1 t2 t3 t4 t5 t6
attribute [local go_sem ↓] Go.wp_at_zero Go.wp_at_succ
theorem field31 (a b c d e f g h i j : Value) (w : World) : (Instr.field 31 (.agg #[a, b, c, d, e, f, g, h, i, j]) 0).run Tryz.prog w = .ok a w := by kernel_rfl
theorem field31events (a b c d e f g h i j : Value) (w : World) : (Instr.field 31 (.agg #[a, b, c, d, e, f, g, h, i, j]) 6).run Tryz.prog w = .ok j w := by kernel_rfl
structure Lw (w0 w : World) (M S : Bl) (k : Nat) (E : ES) (n : Nat) : Prop where
  law : Law w0 w M S k E n
  m : ∀ b, M b → w0.heap.size ≤ b
section
variable {w0 w w' w2 : World} {M S M2 S2 : Bl} {k n : Nat} {E E' : ES}
theorem Lw.gr (h : Lw w0 w M S k E n) (g : Gr w w') : Lw w0 w' M S k E n := ⟨h.law.gr g, h.m⟩
theorem Lw.step {m : Nat} (h : Lw w0 w M S k E n) (hal : Along w M S w2 M2 S2) (heng : EngR w2 M2 S2 k E') (he : E1 E' m) : Lw w0 w2 M2 S2 k E' m :=
  ⟨h.law.step hal heng he, fun b e => by
    by_cases hb : b < w.heap.size
    · exact h.m b (hal.m b hb e)
    · have := h.law.g.size
      omega⟩
theorem Lw.bys {dv : Value} {d : List UInt8} (h : Lw w0 w M S k E n) (hd : BysM w0 (fun _ => False) dv d) : BysM w M dv d :=
  hd.up ⟨h.law.g.mod _, fun b hb e => by have := h.m b e; omega⟩
theorem Lw.more {B : Nat} (h : Lw w0 w M S k E n) (g : Gr w w') (h1 : w.heap.size ≤ B) (h2 : B < w'.heap.size) : Lw w0 w' (fun b => M b ∨ b = B) S k E n :=
  ⟨⟨h.law.eng.more g h1 h2, h.law.e1, h.law.g.trans g, h.law.s⟩, fun b e => by
    rcases e with e | e
    · exact h.m b e
    · have := h.law.g.size
      omega⟩
theorem Lw.set {B : Nat} (h : Lw w0 w M S k E n) (m : Mod (fun b => b = B) w w') (h1 : M B) (h2 : ¬ S B) : Lw w0 w' M S k E n :=
  ⟨⟨h.law.eng.setOther m h1 h2, h.law.e1, gr_newS h.law.g m (fun _ e => e ▸ h.m B h1), h.law.s⟩, h.m⟩
end
def RetLm (w0 : World) (M S : Bl) (k : Nat) (x : Ans × ES) (n : Nat) (w : World) (en : Ending) (w2 : World) : Prop :=
  ∃ A c A' c' M' S', en = .returned (ansV x.1 (.slice A x.1.data.length c) (.slice A' x.1.events.length c')) ∧ Lw w0 w2 M' S' k x.2 (n + 100) ∧ Along w M S w2 M' S' ∧ BysM w2 M' (.slice A x.1.data.length c) x.1.data ∧ RecsM evR w2 M' (.slice A' x.1.events.length c') x.1.events
theorem Lw.call {w0 w : World} {M S : Bl} {k n : Nat} {E : ES} (h : Lw w0 w M S k E n) (c : Call) (d l : Value) (hn : n ≤ 998000) (hc : CallM w M c d l) (hll : c.l.length ≤ 140737488351232) (hdd : ∀ d ∈ c.l, d.data.length ≤ 140737488351232) :
    Calls Tryz.prog 14 #[.pointer (some ⟨k, 0, none⟩), callV c d l] w (RetLm w0 M S k (call1 E c) n w) := by
  refine (call1_any k E c d l M S w h.law.eng h.law.e1 hn hc hll hdd).mono ?_
  rintro en w2 ⟨dv, ev, M2, S2, rfl, h2, hal2, hd2, he2⟩
  obtain ⟨A, ca, rfl⟩ := hd2.shape
  obtain ⟨A', ca', rfl, _⟩ := he2.shape
  exact ⟨A, ca, A', ca', M2, S2, rfl, h.step hal2 h2 (h.law.e1.call c), hal2, hd2, he2⟩
theorem made_any (w : World) : Calls Tryz.prog 13 #[] w (fun en w' => ∃ k M S, en = .returned (.pointer (some ⟨k, 0, none⟩)) ∧ Lw w w' M S k (e0 0 1) 0) := by
  go_enter Tryz.func13, Tryz.ntmps13
  go_wp2_with fail
  refine (new1_any (fun _ => False) w (fun _ e => e.elim)).mono ?_
  rintro en w1 ⟨M1, S1, k, rfl, g, he, -, hm, hs⟩
  have L1 := hid (show Lw w w1 M1 S1 k (e0 0 1) 0 from ⟨⟨he, e1_e0, g, hs⟩, fun b e => Nat.le_of_not_lt fun hb => hm b hb e⟩)
  clear g he hm hs
  go_wp2_with fail
  go_ret
  exact ⟨k, M1, S1, rfl, L1.out⟩
set_option maxHeartbeats 4000000 in
theorem poll_any {w0 w : World} {M S : Bl} {k n : Nat} {E : ES} (h : Lw w0 w M S k E n) (list : Int) (hn : n ≤ 998000) :
    Calls Tryz.prog 16 #[.pointer (some ⟨k, 0, none⟩), .int .i64 list] w (RetLm w0 M S k (call1 E ⟨7, 0, list, 0, tok0, [], []⟩) n w) := by
  have HL := hid h
  have HS := hid (show ∀ b, S b → b < w.heap.size from fun b e => h.law.eng.lt.1 b (h.law.eng.lt.2.1 b e))
  have HN := hid (h.law.eng.nS (Nat.le_refl w.heap.size))
  obtain ⟨w1, hw1⟩ : ∃ w1, w.alloc (.cells #[.int .i64 0, .int .i64 0, .int .i64 0, .bool false, .int .i64 0, .int .i64 0, .int .i64 0, .int .i64 0, .slice none 0 0, .slice none 0 0] 31) = w1 := ⟨_, rfl⟩
  have HB := hid (hw1 ▸ heap_alloc_new w (.cells #[.int .i64 0, .int .i64 0, .int .i64 0, .bool false, .int .i64 0, .int .i64 0, .int .i64 0, .int .i64 0, .slice none 0 0, .slice none 0 0] 31))
  have G1 := hid (hw1 ▸ (Gr.refl w).alloc (.cells #[.int .i64 0, .int .i64 0, .int .i64 0, .bool false, .int .i64 0, .int .i64 0, .int .i64 0, .int .i64 0, .slice none 0 0, .slice none 0 0] 31))
  have HM := hid (show EngR w1 (fun b => M b ∨ b = w.heap.size) S k E from h.law.eng.more G1.out (Nat.le_refl _) (block_lt HB.out))
  have HW1 := hid hw1
  have HC := hid (call1_any k E ⟨7, 0, list, 0, tok0, [], []⟩ (.slice none 0 0) (.slice none 0 0) _ S w1 HM.out h.law.e1 hn (callM_none _ _ _ rfl rfl) (by simp) (by simp))
  have HE1 := hid (h.law.e1.call ⟨7, 0, list, 0, tok0, [], []⟩)
  obtain ⟨⟨a, E'⟩, hx⟩ : ∃ x, call1 E ⟨7, 0, list, 0, tok0, [], []⟩ = x := ⟨_, rfl⟩
  rw [hx] at HC HE1 ⊢
  clear hx hw1 h
  go_enter Tryz.func16, Tryz.ntmps16
  go_upto_region 1 with fail
  rw [HW1.out]
  go_wp2_with fail
  refine HC.out.mono ?_
  rintro en w2 ⟨dv, ev, M2, S2, rfl, h2, hal2, hd2, he2⟩
  obtain ⟨A, ca, rfl⟩ := hd2.shape
  obtain ⟨A', ca', rfl, _⟩ := he2.shape
  have H2 := hid h2
  have HAL := hid hal2
  have HD := hid hd2
  have HEV := hid he2
  have hb2 := (hal2.keepb HB.out HN.out).1
  clear h2 hal2 hd2 he2
  rcases a with ⟨v0, v1, v2, v3, ⟨v4, v5, v6, v7⟩, v8, v9⟩
  simp only [ansV, ansC] at *
  obtain ⟨n8, hn8⟩ : ∃ n, v8.length = n := ⟨_, rfl⟩
  obtain ⟨n9, hn9⟩ : ∃ n, v9.length = n := ⟨_, rfl⟩
  have HN8 := hid hn8
  have HN9 := hid hn9
  rw [hn8, hn9]
  clear hn8 hn9
  obtain ⟨b0, b1, b2, b3, b4, b5, b6, b7, b8, b9⟩ := cells10 hb2
  have lb := block_lt hb2
  obtain ⟨f0, f1, f2, f3, f4, f5, f6, f7, f8, f9⟩ := FZ hb2
  have HF := hid (show ∀ w3, Mod (fun x => x = w.heap.size) w2 w3 → RetLm w0 M S k (⟨v0, v1, v2, v3, ⟨v4, v5, v6, v7⟩, v8, v9⟩, E') n w (.returned (ansV ⟨v0, v1, v2, v3, ⟨v4, v5, v6, v7⟩, v8, v9⟩ (.slice A n8 ca) (.slice A' n9 ca'))) w3 from fun w3 m => by
    have hfin := fin_ans (a := ⟨v0, v1, v2, v3, ⟨v4, v5, v6, v7⟩, v8, v9⟩) HS.out G1.out (Nat.le_refl _) (block_lt HB.out) H2.out HAL.out HD.out HEV.out m
    refine ⟨A, ca, A', ca', M2, S2, ?_, HL.out.step hfin.2.1 hfin.1 HE1.out, hfin.2.1, hfin.2.2.1, hfin.2.2.2⟩
    rw [← HN8.out, ← HN9.out])
  clear hb2
  go_wp2_with fail
  refine bodyPost_ret (v := ansV ⟨v0, v1, v2, v3, ⟨v4, v5, v6, v7⟩, v8, v9⟩ (.slice A n8 ca) (.slice A' n9 ca')) (by simp [results, Tryz.results16, go_sem, ansV, ansC, b0, b1, b2, b3, b4, b5, b6, b7, b8, b9]) rfl ?_
  refine HF.out _ ?_
  exact mod10 w2 w.heap.size _ _ _ _ _ _ _ _ _ _
def RetDc (w0 : World) (M S : Bl) (k : Nat) (x : Ans × ES) (n : Nat) (w : World) (en : Ending) (w2 : World) : Prop := ∃ M' S', en = .returned (.int .i64 x.1.err) ∧ Lw w0 w2 M' S' k x.2 (n + 100) ∧ Along w M S w2 M' S'
set_option maxHeartbeats 4000000 in
theorem decideL_any {w0 w : World} {M S : Bl} {k n : Nat} {E : ES} (h : Lw w0 w M S k E n) (t : Tok) (l : List Dec) (lv : Value) (hn : n ≤ 998000) (hl : RecsM decR w M lv l) (hll : l.length ≤ 100000) (hdd : ∀ d ∈ l, d.data.length ≤ 1000000) :
    Calls Tryz.prog 15 #[.pointer (some ⟨k, 0, none⟩), .agg #[.int .i64 t.flow, .int .i64 t.run, .int .i64 t.event, .int .i64 t.turn], lv] w
      (RetDc w0 M S k (call1 E ⟨8, 0, 0, 0, t, [], l⟩) n w) := by
  obtain ⟨Al, cl, rfl, _⟩ := hl.shape
  rcases t with ⟨t0, t1, t2, t3⟩
  have hg := (Gr.refl w).alloc (.cells #[.int .i64 t0, .int .i64 t1, .int .i64 t2, .int .i64 t3] 28)
  have hc := (h.gr hg).call ⟨8, 0, 0, 0, ⟨t0, t1, t2, t3⟩, [], l⟩ (.slice none 0 0) (.slice Al l.length cl) hn ⟨BysM.none _ _, hl.up (Gr.up hg M)⟩ (by simp only; omega) (fun d hd => Nat.le_trans (hdd d hd) (by omega))
  have HC := hid hc
  have G := hid hg
  obtain ⟨⟨a, E'⟩, hx⟩ : ∃ x, call1 E ⟨8, 0, 0, 0, ⟨t0, t1, t2, t3⟩, [], l⟩ = x := ⟨_, rfl⟩
  rw [hx] at HC ⊢
  clear hx h hl hc hg hll hdd
  go_enter Tryz.func15, Tryz.ntmps15
  simp only [callV, callC] at HC
  generalize l.length = ll at *
  go_wp2_with fail
  refine HC.out.mono ?_
  rintro en w2 ⟨A, c, A', c', M2, S2, rfl, l2, hal2, -, -⟩
  have L2 := hid l2
  have AL := hid ((Along.refl w M S).gr G.out |>.trans hal2)
  clear l2 hal2
  rcases a with ⟨v0, v1, v2, v3, ⟨v4, v5, v6, v7⟩, v8, v9⟩
  simp only [ansV, ansC]
  generalize v8.length = n8 at *
  generalize v9.length = n9 at *
  have hfld := field31
  go_wp2_with fail
  go_ret
  exact ⟨M2, S2, rfl, L2.out, AL.out⟩
abbrev e1 (list n : Int) (d : List UInt8) : Ev := ⟨1, 0, 0, 0, list, n, d⟩
abbrev e2 (list : Int) : Ev := ⟨2, 0, 0, 0, list, 0, []⟩
abbrev e3 : Ev := ⟨3, 0, 2, 0, 0, 0, []⟩
abbrev e4 : Ev := ⟨4, 0, 3, 0, 0, 0, []⟩
abbrev e17 (C n : Int) (d : List UInt8) : Ev := ⟨17, 0, 0, C, 2, n, d⟩
abbrev e18 (C st : Int) (d : List UInt8) : Ev := ⟨18, 0, 5, C, 0, st, d⟩
abbrev FL (id run list n task place begun : Int) (l : List Ev) (op : List (Int × Opn)) : FS := ⟨id, run, list, n, l, task, place, begun, 0, false, false, op⟩
abbrev St (runs : List (Int × RunS)) (dec : Rows) (due : List It) : ES := ⟨0, 1, 0, runs, dec, [], due⟩
abbrev gA (id run ref : Int) : Ans := { ans0 with given := true, tok := ⟨id, run, ref, 0⟩ }
abbrev nF (id run list n : Int) (d : List UInt8) : FS := FL id run list n 1 2 0 [e1 list n d, e2 list] []
abbrev bF (id run list n : Int) (d : List UInt8) : FS := FL id run list n 2 2 3 [e1 list n d, e2 list, e3] []
abbrev wF (P C n : Int) (d : List UInt8) : FS := FL P 1 1 50 0 2 3 [e1 1 50 [], e2 1, e3, e4, e17 C n d] [(5, ⟨17, C, 0⟩)]
abbrev tF (P C n : Int) (d : List UInt8) (st : Int) (x : List UInt8) : FS := FL P 1 1 50 1 7 0 [e1 1 50 [], e2 1, e3, e4, e17 C n d, e18 C st x, e2 1] []
def S1 (P : Int) : ES := St [(P, ⟨nF P 1 1 50 [], 0, 0⟩)] [(1, [⟨P, 1, 2, 0⟩])] []
def S2 (P : Int) (D : List It) : ES := St [(P, ⟨bF P 1 1 50 [], 0, 0⟩)] [] D
def S3 (P C n : Int) (d0 : List UInt8) (r : Int) (d : List UInt8) (D : List It) : ES := St [(P, ⟨wF P C n d0, 0, 0⟩), (C, ⟨nF C r 2 n d, P, 1⟩)] [(2, [⟨C, r, 2, 0⟩])] D
def S4 (P C n : Int) (d0 : List UInt8) (r : Int) (d : List UInt8) (D : List It) : ES := St [(P, ⟨wF P C n d0, 0, 0⟩), (C, ⟨bF C r 2 n d, P, 1⟩)] [] D
def S5 (P C n : Int) (d0 : List UInt8) (st : Int) (x : List UInt8) (X : RunS) (D : List It) : ES := St [(P, ⟨tF P C n d0 st x, 0, 0⟩), (C, X)] [(1, [⟨P, 1, 7, 0⟩])] D
def R1 (C : Int) : ES := St [(C, ⟨nF C 1 5 50 [], 0, 0⟩)] [(5, [⟨C, 1, 2, 0⟩])] []
def R2 (P C : Int) : ES := St [(C, ⟨nF C 1 5 50 [], 0, 0⟩), (P, ⟨nF P 1 1 50 [], 0, 0⟩)] [(5, [⟨C, 1, 2, 0⟩]), (1, [⟨P, 1, 2, 0⟩])] []
def R3 (P C : Int) (D : List It) : ES := St [(C, ⟨nF C 1 5 50 [], 0, 0⟩), (P, ⟨bF P 1 1 50 [], 0, 0⟩)] [(5, [⟨C, 1, 2, 0⟩])] D
def R4 (P C : Int) (d : List UInt8) (D : List It) : ES := St [(C, ⟨nF C 1 5 50 [], 0, 0⟩), (P, ⟨tF P C 50 d 0 [], 0, 0⟩)] [(5, [⟨C, 1, 2, 0⟩]), (1, [⟨P, 1, 7, 0⟩])] D
attribute [local simp] callE checkE rightC homeC sh0 doE startE beginF newF rightF scheduleF putF outs0 out0 pushR rowOf lk up rm popE setRowsE rowsE popR setR pollE pollL wantedE giveE changeE giveD giveA decidesF tryF decidesD wantsF outsE outE childE isOpenE endsE childEndsF childEndsD findF ok wakeF statusL statusK ans0 failA tok0 e0 f0 numB ticksB hasFlow hasList hasN hasTok hasData hasL flowOfE staleE askE decideF decideD badF badL badOne mayF takeB takeS isOf kindD nearD donesF doneF closeF closeK atF terminateF terminateD eventsF endsL faultyF
abbrev Nm (x : Int) : Prop := 0 ≤ x ∧ x ≤ 1048576
def cntD (end_ : Int) (L : List It) : Nat := (L.filter fun x => decide (x.1 ≤ end_)).length
theorem cntD_le (end_ : Int) (L : List It) : cntD end_ L ≤ L.length := List.length_filter_le _ _
theorem ins_filter (p : It → Bool) (x : It) (hx : p x = false) (L : List It) : (ins L x).filter p = L.filter p := by
  unfold ins
  rw [List.filter_append, List.filter_cons, hx]
  simp only [Bool.false_eq_true, if_false]
  rw [← List.filter_append, List.take_append_drop]
theorem cntD_add (end_ : Int) (L : List It) (y : Int × Int × Int × Int × Int) : cntD end_ (addD L (end_ + 1, y)) = cntD end_ L := by
  unfold addD cntD
  split
  · rfl
  · rw [ins_filter]
    simp
    omega
theorem tick_stop {end_ : Int} {E : ES} (h : due E.due end_ = false) : ∀ n, tickL end_ n E = E
  | 0 => rfl
  | n + 1 => by
    unfold tickL
    split
    · rfl
    · rename_i i r e
      rw [e] at h
      simp [due, hd] at h
      rw [if_pos h]
theorem tick_go {end_ : Int} {E : ES} {i : It} {r : List It} (e : E.due = i :: r) (h : i.1 ≤ end_) (n : Nat) :
    tickL end_ (n + 1) E = match fireE { E with due := r } i with | some E' => tickL end_ n E' | none => tickL end_ n { E with due := addD r (end_ + 1, i.2) } := by
  rw [tickL]
  rw [e]
  simp only
  rw [if_neg (by omega)]
  rfl
theorem cntD_cons {end_ : Int} {i : It} {r : List It} (h : i.1 ≤ end_) : cntD end_ (i :: r) = cntD end_ r + 1 := by
  unfold cntD
  simp [h]
def tickE (E : ES) (n : Int) : Int × ES :=
  if n < 1 ∨ 1048576 < n then (1, E) else if 1099511627776 - n < E.now then (4, E) else (0, { tickL (E.now + n) E.due.length E with now := E.now + n })
def tm (n at_ : Int) : ES := ⟨0, 1, at_, [(1, ⟨FL 1 1 0 1000 0 2 3 [e1 0 1000 [], e2 0, e3, e4, ⟨12, 0, 0, 4, 0, n, []⟩] [(5, ⟨12, 4, 0⟩)], 0, 0⟩)], [], [], [(n, 1, 1, 5, 0, 5), (1000, 1, 1, 2, 0, 3)]⟩
def tE (n : Int) : ES := ⟨0, 1, n, [(1, ⟨FL 1 1 0 1000 1 7 0 [e1 0 1000 [], e2 0, e3, e4, ⟨12, 0, 0, 4, 0, n, []⟩, ⟨13, n, 5, 4, 0, 0, []⟩, ⟨2, n, 0, 0, 0, 0, []⟩] [], 0, 0⟩)], [(0, [⟨1, 1, 7, 0⟩])], [], [(1000, 1, 1, 2, 0, 3)]⟩
def T1 : ES := ⟨0, 1, 0, [(1, ⟨nF 1 1 0 1000 [], 0, 0⟩)], [(0, [⟨1, 1, 2, 0⟩])], [], []⟩
def T2 : ES := ⟨0, 1, 0, [(1, ⟨bF 1 1 0 1000 [], 0, 0⟩)], [], [], [(1000, 1, 1, 2, 0, 3)]⟩
theorem ti_1 : call1 (e0 0 1) ⟨1, 1, 0, 1000, tok0, [], []⟩ = ({ ans0 with run := 1 }, T1) := by rfl
theorem ti_2 : call1 T1 ⟨7, 0, 0, 0, tok0, [], []⟩ = (gA 1 1 2, T2) := by rfl
theorem ti_6 (n at_ : Int) : call1 (tm n at_) ⟨6, 1, 0, 0, tok0, [], []⟩ = ({ ans0 with run := 1, events := [e1 0 1000 [], e2 0, e3, e4, ⟨12, 0, 0, 4, 0, n, []⟩] }, tm n at_) := by rfl
theorem ti_7 (n : Int) : call1 (tE n) ⟨6, 1, 0, 0, tok0, [], []⟩ = ({ ans0 with run := 1, events := [e1 0 1000 [], e2 0, e3, e4, ⟨12, 0, 0, 4, 0, n, []⟩, ⟨13, n, 5, 4, 0, 0, []⟩, ⟨2, n, 0, 0, 0, 0, []⟩] }, tE n) := by rfl
theorem ti_add (n : Int) (h : 1 ≤ n ∧ n ≤ 200) : addD [(1000, 1, 1, 2, 0, 3)] (n, 1, 1, 5, 0, 5) = [(n, 1, 1, 5, 0, 5), (1000, 1, 1, 2, 0, 3)] := by
  have hc : cmpI ((1000, 1, 1, 2, 0, 3) : It) (n, 1, 1, 5, 0, 5) = 1 := by
    simp only [cmpI, il, cmpL]
    rw [if_neg (by omega), if_pos (by omega)]
  have hp : pos [((1000, 1, 1, 2, 0, 3) : It)] (n, 1, 1, 5, 0, 5) = 0 := by simp [pos, hc]
  have hh : has [((1000, 1, 1, 2, 0, 3) : It)] (n, 1, 1, 5, 0, 5) = false := by
    unfold has
    rw [hp]
    simp
  unfold addD ins
  rw [hh, hp]
  rfl
attribute [local simp] callE checkE rightC homeC sh0 doE startE beginF newF rightF scheduleF putF outs0 out0 pushR rowOf lk up rm popE setRowsE rowsE popR setR pollE pollL wantedE giveE changeE giveD giveA decidesF tryF decidesD wantsF outsE outE childE isOpenE endsE childEndsF childEndsD findF ok wakeF statusL statusK ans0 failA tok0 e0 f0 numB ticksB hasFlow hasList hasN hasTok hasData hasL flowOfE staleE askE decideF decideD badF badL badOne mayF takeB takeS isOf kindD nearD donesF doneF closeF closeK atF terminateF terminateD eventsF endsL faultyF fireE fireF firedD
theorem ti_3 (n : Int) (h : 1 ≤ n ∧ n ≤ 200) : call1 T2 ⟨8, 0, 0, 0, ⟨1, 1, 2, 0⟩, [], [⟨2, 4, 0, n, []⟩]⟩ = (ans0, tm n 0) := by
  have h2 : n ≤ 1048576 := by omega
  have ha := ti_add n h
  simp [T2, tm, h, h2, ha]
theorem ti_4 (n at_ k : Int) (h : n ≤ 200) (h0 : 0 ≤ at_) (h1 : 1 ≤ k) (h2 : at_ + k < n) : tickE (tm n at_) k = (0, tm n (at_ + k)) := by
  unfold tickE
  rw [if_neg (by omega), if_neg (by simp only [tm]; omega), tick_stop]
  · rfl
  · simp [tm, due, hd]
    omega
theorem ti_5 (n at_ : Int) (h : 1 ≤ n ∧ n ≤ 200) (h0 : 0 ≤ at_) (h2 : at_ < n) : tickE (tm n at_) (n - at_) = (0, tE n) := by
  unfold tickE
  have e : (tm n at_).now + (n - at_) = n := by simp only [tm]; omega
  rw [if_neg (by omega), if_neg (by simp only [tm]; omega), e]
  have h3 : n ≤ 1099511627776 := by omega
  have h4 : 0 ≤ n := by omega
  have hf : fireE { tm n at_ with due := [(1000, 1, 1, 2, 0, 3)] } (n, 1, 1, 5, 0, 5) = some { tE n with now := at_ } := by
    simp [tm, tE, h3, h4]
  rw [show (tm n at_).due.length = 1 + 1 from rfl, tick_go (i := (n, 1, 1, 5, 0, 5)) (r := [(1000, 1, 1, 2, 0, 3)]) rfl (Int.le_refl n), hf]
  simp only
  rw [tick_stop]
  · rfl
  · simp [tE, due, hd]
    omega
end Go.Proofs.YtniknicnnaiilaaGreat
end
section
namespace Go.Proofs.YtniknicnnaiilaaGreat
set_option maxRecDepth 100000
open Go.RowKit Go.Ext Go.BigFrame Go.Maps Go.MapKept
attribute [local go_sem] Ext.cell Ext.frozen Ext.lt Ext.le s1 s2 s3 s4 s5 s6 t1 t2 t3 t4 t5 t6
attribute [local go_sem ↓] Go.wp_at_zero Go.wp_at_succ
def TokOk (t : Tok) : Prop := I64 t.flow ∧ I64 t.run ∧ I64 t.event ∧ I64 t.turn
def tv (t : Tok) : Value := .agg #[.int .i64 t.flow, .int .i64 t.run, .int .i64 t.event, .int .i64 t.turn]
def MT (w : World) (b n : Nat) (S : (Tok → Bool)) : Prop :=
  ∃ D : DataW Empty, w.ownsMap Tryz.prog 28 (plainElem Tryz.prog 4) b n D ∧ ∀ x l, keyOf Tryz.prog 28 (tv x) = some l → D.atKey l (.lit (.bool false)) = .lit (.bool (S x))
section
variable {w w' : World} {b n : Nat} {S : (Tok → Bool)}
end
end Go.Proofs.YtniknicnnaiilaaGreat
end
section
namespace Go.Proofs.YtniknicnnaiilaaGreat
set_option maxRecDepth 100000
open Go.RowKit Go.Ext Go.BigFrame Go.Maps Go.MapKept
attribute [local go_sem] Ext.cell Ext.frozen Ext.lt Ext.le s1 s2 s3 s4 s5 s6 t1 t2 t3 t4 t5 t6
attribute [local go_sem ↓] Go.wp_at_zero Go.wp_at_succ
theorem give_tok {E E' : ES} {d : Bool} {t : Task} {a : Ans} (hE : EJ E) (hw : wantedE E t = true) (h : giveE E d t = some (a, E')) : TokOk a.tok := by
  unfold giveE at h
  split at h
  · cases h
  rename_i r hr
  unfold wantedE at hw
  rw [hr] at hw
  simp only [Bool.and_eq_true, beq_iff_eq] at hw
  obtain ⟨hrun, hwant⟩ := hw
  have hJ : FJ r.f := hE.j _ (lk_mem hr)
  obtain ⟨hO, hid⟩ := hE.ok.get hr
  split at h
  rotate_left
  · cases h
  split at h
  rotate_left
  · cases h
  injection h with h
  injection h with h1 h2
  subst h1
  have h4 := hO.len
  have hi := hO.idn
  have hn := hO.runn
  have hb : (1 ≤ t.ref ∧ t.ref ≤ 4096) ∧ -1 ≤ t.turn ∧ t.turn ≤ 4096 := by
    unfold wantsF at hwant
    split at hwant
    · rename_i ht
      split at hwant
      · rename_i x hx
        have := (hO.i.keys _ (lk_mem hx))
        simp only at this
        omega
      · cases hwant
    · simp only [Bool.and_eq_true, beq_iff_eq] at hwant
      obtain ⟨⟨k1, k2⟩, k3⟩ := hwant
      obtain ⟨p1, p2, _⟩ := hJ.place (by omega)
      have := hO.i.turn
      omega
  refine ⟨?_, ?_, ?_, ?_⟩ <;> simp only [giveA] <;> constructor <;> omega
theorem pollL_tok {d : Bool} {list : Int} : ∀ (l : List Task) (E : ES), EJ E → (pollL d list E l).1.given = true → TokOk (pollL d list E l).1.tok
  | [], E, _, h => by simp [pollL, ans0] at h
  | t :: r, E, hE, h => by
    unfold pollL at h ⊢
    split
    · rename_i hw
      rw [if_pos hw] at h
      split
      · rename_i hg
        rw [hg] at h
        simp [ans0] at h
      · rename_i a E' hg
        exact give_tok hE hw hg
    · rename_i hw
      rw [if_neg hw] at h
      exact pollL_tok r (popE E d list) (hE.gro nx_pop (.same (pop_runs _ _ _))) h
theorem call_tok (sh : Int → Int) {E : ES} (c : Call) (hE : EJ E) (h : (callE sh E c).1.given = true) : TokOk (callE sh E c).1.tok := by
  unfold callE at h ⊢
  split
  · rename_i hc
    rw [if_pos hc] at h
    simp [failA, ans0] at h
  rename_i hc
  rw [if_neg hc] at h
  obtain ⟨x, hx⟩ : ∃ x, doE sh E c = x := ⟨_, rfl⟩
  rw [hx] at h ⊢
  rcases x with ⟨a, E' | E'⟩
  · simp [failA, ans0] at h
  simp only at h ⊢
  unfold doE at hx
  split at hx
  · unfold startE at hx
    split at hx
    · injection hx with hx _; subst hx; simp [failA, ans0] at h
    · split at hx
      · cases hx
      · injection hx with hx _; subst hx; simp [ans0] at h
  split at hx
  · injection hx with h1 h2
    subst h1
    exact pollL_tok _ _ hE h
  split at hx
  · injection hx with hx _; subst hx; simp [failA, ans0] at h
  split at hx
  · injection hx with hx _; subst hx; simp [failA, ans0] at h
  split at hx
  · injection hx with hx _; subst hx; simp [ans0] at h
  split at hx
  · injection hx with hx _; subst hx; simp [ans0] at h
  · injection hx with hx _; subst hx; simp [failA, ans0] at h
theorem ej_call {E : ES} (h : EJ E) (c : Call) : EJ (call1 E c).2 := h.gro (nx_call sh0 E c) (gro_call sh0 E c)
theorem seen_call {E : ES} {t : Tok} (h : Seen E t) (c : Call) : Seen (call1 E c).2 t := h.gro (gro_call sh0 E c)
theorem tick_nx (E : ES) (n : Int) : (EOk E → EOk (tickE E n).2) ∧ (tickE E n).2.due.length ≤ E.due.length ∧ (tickE E n).2.groups = E.groups ∧ Gro E (tickE E n).2 := by
  unfold tickE
  split
  · exact ⟨id, Nat.le_refl _, rfl, Gro.refl _⟩
  split
  · exact ⟨id, Nat.le_refl _, rfl, Gro.refl _⟩
  rename_i h1 h2
  have hx := nx_tick (E.now + n) E.due.length E
  have hg := gro_tick (E.now + n) E.due.length E
  refine ⟨fun e => ?_, by have := hx.due; simpa using this, hx.groups, hg.trans (.same rfl) hx.ok⟩
  obtain ⟨a, _, c, d, e', f, g⟩ := hx.ok e
  have hn := e.now
  exact ⟨a, by simp only; omega, c, d, e', f, g⟩
theorem ej_tick {E : ES} (h : EJ E) (n : Int) : EJ (tickE E n).2 := ⟨(tick_nx E n).1 h.ok, (tick_nx E n).2.2.2.j h.ok h.j⟩
end Go.Proofs.YtniknicnnaiilaaGreat
end
