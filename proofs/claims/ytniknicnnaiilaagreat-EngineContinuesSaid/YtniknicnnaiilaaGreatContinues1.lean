/- Lemmas: what the functions of the engine answer, and which blocks they write. -/
import Derived.ChangeOld
import Derived.Lib.SmallJoins
import Derived.OpenShut
import Derived.ProofKit
import Derived.Test.YtniknicnnaiilaaGreatX01
import Derived.Test.YtniknicnnaiilaaGreatX25
import Derived.Test.YtniknicnnaiilaaGreatX33
import Derived.Test.YtniknicnnaiilaaGreatX37
section
namespace Go.Proofs.YtniknicnnaiilaaGreat
set_option maxRecDepth 100000
open Go.RowKit Go.Ext Go.BigFrame Go.Maps Go.MapKept
attribute [local go_sem] Ext.cell Ext.frozen Ext.lt Ext.le s1 s2 s3 s4 s5 s6 t1 t2 t3 t4 t5 t6
attribute [local go_sem ↓] Go.wp_at_zero Go.wp_at_succ
theorem field31 (a b c d e f g h i j : Value) (w : World) : (Instr.field 31 (.agg #[a, b, c, d, e, f, g, h, i, j]) 0).run Tryz.prog w = .ok a w := by kernel_rfl
theorem field31tok (a b c d e f g h i j : Value) (w : World) : (Instr.field 31 (.agg #[a, b, c, d, e, f, g, h, i, j]) 4).run Tryz.prog w = .ok (.agg #[e, f, g, h]) w := by kernel_rfl
theorem field31events (a b c d e f g h i j : Value) (w : World) : (Instr.field 31 (.agg #[a, b, c, d, e, f, g, h, i, j]) 6).run Tryz.prog w = .ok j w := by kernel_rfl
structure Lw (w0 w : World) (M S : Bl) (k : Nat) (E : ES) (n : Nat) : Prop where
  law : Law w0 w M S k E n
  m : ∀ b, M b → w0.heap.size ≤ b
section
variable {w0 w w' w2 : World} {M S M2 S2 : Bl} {k n : Nat} {E E' : ES}
theorem Lw.gr (h : Lw w0 w M S k E n) (g : Gr w w') : Lw w0 w' M S k E n := ⟨h.law.gr g, h.m⟩
theorem Lw.step {m : Nat} (h : Lw w0 w M S k E n) (hal : Along w M S w2 M2 S2) (heng : EngR w2 M2 S2 k E') (he : E1 E' m) : Lw w0 w2 M2 S2 k E' m :=
  ⟨h.law.step hal heng he, fun b e => by
    by_cases hb : b < w.heap.size
    · exact h.m b (hal.m b hb e)
    · have := h.law.g.size
      omega⟩
theorem Lw.bys {dv : Value} {d : List UInt8} (h : Lw w0 w M S k E n) (hd : BysM w0 (fun _ => False) dv d) : BysM w M dv d :=
  hd.up ⟨h.law.g.mod _, fun b hb e => by have := h.m b e; omega⟩
theorem Lw.more {B : Nat} (h : Lw w0 w M S k E n) (g : Gr w w') (h1 : w.heap.size ≤ B) (h2 : B < w'.heap.size) : Lw w0 w' (fun b => M b ∨ b = B) S k E n :=
  ⟨⟨h.law.eng.more g h1 h2, h.law.e1, h.law.g.trans g, h.law.s⟩, fun b e => by
    rcases e with e | e
    · exact h.m b e
    · have := h.law.g.size
      omega⟩
theorem Lw.set {B : Nat} (h : Lw w0 w M S k E n) (m : Mod (fun b => b = B) w w') (h1 : M B) (h2 : ¬ S B) : Lw w0 w' M S k E n :=
  ⟨⟨h.law.eng.setOther m h1 h2, h.law.e1, gr_newS h.law.g m (fun _ e => e ▸ h.m B h1), h.law.s⟩, h.m⟩
end
def RetLm (w0 : World) (M S : Bl) (k : Nat) (x : Ans × ES) (n : Nat) (w : World) (en : Ending) (w2 : World) : Prop :=
  ∃ A c A' c' M' S', en = .returned (ansV x.1 (.slice A x.1.data.length c) (.slice A' x.1.events.length c')) ∧ Lw w0 w2 M' S' k x.2 (n + 100) ∧ Along w M S w2 M' S' ∧ BysM w2 M' (.slice A x.1.data.length c) x.1.data ∧ RecsM evR w2 M' (.slice A' x.1.events.length c') x.1.events
theorem Lw.call {w0 w : World} {M S : Bl} {k n : Nat} {E : ES} (h : Lw w0 w M S k E n) (c : Call) (d l : Value) (hn : n ≤ 998000) (hc : CallM w M c d l) (hll : c.l.length ≤ 140737488351232) (hdd : ∀ d ∈ c.l, d.data.length ≤ 140737488351232) :
    Calls Tryz.prog 14 #[.pointer (some ⟨k, 0, none⟩), callV c d l] w (RetLm w0 M S k (call1 E c) n w) := by
  refine (call1_any k E c d l M S w h.law.eng h.law.e1 hn hc hll hdd).mono ?_
  rintro en w2 ⟨dv, ev, M2, S2, rfl, h2, hal2, hd2, he2⟩
  obtain ⟨A, ca, rfl⟩ := hd2.shape
  obtain ⟨A', ca', rfl, _⟩ := he2.shape
  exact ⟨A, ca, A', ca', M2, S2, rfl, h.step hal2 h2 (h.law.e1.call c), hal2, hd2, he2⟩
theorem made_any (w : World) : Calls Tryz.prog 13 #[] w (fun en w' => ∃ k M S, en = .returned (.pointer (some ⟨k, 0, none⟩)) ∧ Lw w w' M S k (e0 0 1) 0) := by
  go_enter Tryz.func13, Tryz.ntmps13
  go_wp2_with fail
  refine (new1_any (fun _ => False) w (fun _ e => e.elim)).mono ?_
  rintro en w1 ⟨M1, S1, k, rfl, g, he, -, hm, hs⟩
  have L1 := hid (show Lw w w1 M1 S1 k (e0 0 1) 0 from ⟨⟨he, e1_e0, g, hs⟩, fun b e => Nat.le_of_not_lt fun hb => hm b hb e⟩)
  clear g he hm hs
  go_wp2_with fail
  go_ret
  exact ⟨k, M1, S1, rfl, L1.out⟩
set_option maxHeartbeats 4000000 in
theorem poll_any {w0 w : World} {M S : Bl} {k n : Nat} {E : ES} (h : Lw w0 w M S k E n) (list : Int) (hn : n ≤ 998000) :
    Calls Tryz.prog 16 #[.pointer (some ⟨k, 0, none⟩), .int .i64 list] w (RetLm w0 M S k (call1 E ⟨7, 0, list, 0, tok0, [], []⟩) n w) := by
  have HL := hid h
  have HS := hid (show ∀ b, S b → b < w.heap.size from fun b e => h.law.eng.lt.1 b (h.law.eng.lt.2.1 b e))
  have HN := hid (h.law.eng.nS (Nat.le_refl w.heap.size))
  obtain ⟨w1, hw1⟩ : ∃ w1, w.alloc (.cells #[.int .i64 0, .int .i64 0, .int .i64 0, .bool false, .int .i64 0, .int .i64 0, .int .i64 0, .int .i64 0, .slice none 0 0, .slice none 0 0] 31) = w1 := ⟨_, rfl⟩
  have HB := hid (hw1 ▸ heap_alloc_new w (.cells #[.int .i64 0, .int .i64 0, .int .i64 0, .bool false, .int .i64 0, .int .i64 0, .int .i64 0, .int .i64 0, .slice none 0 0, .slice none 0 0] 31))
  have G1 := hid (hw1 ▸ (Gr.refl w).alloc (.cells #[.int .i64 0, .int .i64 0, .int .i64 0, .bool false, .int .i64 0, .int .i64 0, .int .i64 0, .int .i64 0, .slice none 0 0, .slice none 0 0] 31))
  have HM := hid (show EngR w1 (fun b => M b ∨ b = w.heap.size) S k E from h.law.eng.more G1.out (Nat.le_refl _) (block_lt HB.out))
  have HW1 := hid hw1
  have HC := hid (call1_any k E ⟨7, 0, list, 0, tok0, [], []⟩ (.slice none 0 0) (.slice none 0 0) _ S w1 HM.out h.law.e1 hn (callM_none _ _ _ rfl rfl) (by simp) (by simp))
  have HE1 := hid (h.law.e1.call ⟨7, 0, list, 0, tok0, [], []⟩)
  obtain ⟨⟨a, E'⟩, hx⟩ : ∃ x, call1 E ⟨7, 0, list, 0, tok0, [], []⟩ = x := ⟨_, rfl⟩
  rw [hx] at HC HE1 ⊢
  clear hx hw1 h
  go_enter Tryz.func16, Tryz.ntmps16
  go_upto_region 1 with fail
  rw [HW1.out]
  go_wp2_with fail
  refine HC.out.mono ?_
  rintro en w2 ⟨dv, ev, M2, S2, rfl, h2, hal2, hd2, he2⟩
  obtain ⟨A, ca, rfl⟩ := hd2.shape
  obtain ⟨A', ca', rfl, _⟩ := he2.shape
  have H2 := hid h2
  have HAL := hid hal2
  have HD := hid hd2
  have HEV := hid he2
  have hb2 := (hal2.keepb HB.out HN.out).1
  clear h2 hal2 hd2 he2
  rcases a with ⟨v0, v1, v2, v3, ⟨v4, v5, v6, v7⟩, v8, v9⟩
  simp only [ansV, ansC] at *
  obtain ⟨n8, hn8⟩ : ∃ n, v8.length = n := ⟨_, rfl⟩
  obtain ⟨n9, hn9⟩ : ∃ n, v9.length = n := ⟨_, rfl⟩
  have HN8 := hid hn8
  have HN9 := hid hn9
  rw [hn8, hn9]
  clear hn8 hn9
  obtain ⟨b0, b1, b2, b3, b4, b5, b6, b7, b8, b9⟩ := cells10 hb2
  have lb := block_lt hb2
  obtain ⟨f0, f1, f2, f3, f4, f5, f6, f7, f8, f9⟩ := FZ hb2
  have HF := hid (show ∀ w3, Mod (fun x => x = w.heap.size) w2 w3 → RetLm w0 M S k (⟨v0, v1, v2, v3, ⟨v4, v5, v6, v7⟩, v8, v9⟩, E') n w (.returned (ansV ⟨v0, v1, v2, v3, ⟨v4, v5, v6, v7⟩, v8, v9⟩ (.slice A n8 ca) (.slice A' n9 ca'))) w3 from fun w3 m => by
    have hfin := fin_ans (a := ⟨v0, v1, v2, v3, ⟨v4, v5, v6, v7⟩, v8, v9⟩) HS.out G1.out (Nat.le_refl _) (block_lt HB.out) H2.out HAL.out HD.out HEV.out m
    refine ⟨A, ca, A', ca', M2, S2, ?_, HL.out.step hfin.2.1 hfin.1 HE1.out, hfin.2.1, hfin.2.2.1, hfin.2.2.2⟩
    rw [← HN8.out, ← HN9.out])
  clear hb2
  go_wp2_with fail
  refine bodyPost_ret (v := ansV ⟨v0, v1, v2, v3, ⟨v4, v5, v6, v7⟩, v8, v9⟩ (.slice A n8 ca) (.slice A' n9 ca')) (by simp [results, Tryz.results16, go_sem, ansV, ansC, b0, b1, b2, b3, b4, b5, b6, b7, b8, b9]) rfl ?_
  refine HF.out _ ?_
  exact mod10 w2 w.heap.size _ _ _ _ _ _ _ _ _ _
def RetDc (w0 : World) (M S : Bl) (k : Nat) (x : Ans × ES) (n : Nat) (w : World) (en : Ending) (w2 : World) : Prop := ∃ M' S', en = .returned (.int .i64 x.1.err) ∧ Lw w0 w2 M' S' k x.2 (n + 100) ∧ Along w M S w2 M' S'
set_option maxHeartbeats 4000000 in
theorem decideL_any {w0 w : World} {M S : Bl} {k n : Nat} {E : ES} (h : Lw w0 w M S k E n) (t : Tok) (l : List Dec) (lv : Value) (hn : n ≤ 998000) (hl : RecsM decR w M lv l) (hll : l.length ≤ 100000) (hdd : ∀ d ∈ l, d.data.length ≤ 1000000) :
    Calls Tryz.prog 15 #[.pointer (some ⟨k, 0, none⟩), .agg #[.int .i64 t.flow, .int .i64 t.run, .int .i64 t.event, .int .i64 t.turn], lv] w
      (RetDc w0 M S k (call1 E ⟨8, 0, 0, 0, t, [], l⟩) n w) := by
  obtain ⟨Al, cl, rfl, _⟩ := hl.shape
  rcases t with ⟨t0, t1, t2, t3⟩
  have hg := (Gr.refl w).alloc (.cells #[.int .i64 t0, .int .i64 t1, .int .i64 t2, .int .i64 t3] 28)
  have hc := (h.gr hg).call ⟨8, 0, 0, 0, ⟨t0, t1, t2, t3⟩, [], l⟩ (.slice none 0 0) (.slice Al l.length cl) hn ⟨BysM.none _ _, hl.up (Gr.up hg M)⟩ (by simp only; omega) (fun d hd => Nat.le_trans (hdd d hd) (by omega))
  have HC := hid hc
  have G := hid hg
  obtain ⟨⟨a, E'⟩, hx⟩ : ∃ x, call1 E ⟨8, 0, 0, 0, ⟨t0, t1, t2, t3⟩, [], l⟩ = x := ⟨_, rfl⟩
  rw [hx] at HC ⊢
  clear hx h hl hc hg hll hdd
  go_enter Tryz.func15, Tryz.ntmps15
  simp only [callV, callC] at HC
  generalize l.length = ll at *
  go_wp2_with fail
  refine HC.out.mono ?_
  rintro en w2 ⟨A, c, A', c', M2, S2, rfl, l2, hal2, -, -⟩
  have L2 := hid l2
  have AL := hid ((Along.refl w M S).gr G.out |>.trans hal2)
  clear l2 hal2
  rcases a with ⟨v0, v1, v2, v3, ⟨v4, v5, v6, v7⟩, v8, v9⟩
  simp only [ansV, ansC]
  generalize v8.length = n8 at *
  generalize v9.length = n9 at *
  have hfld := field31
  go_wp2_with fail
  go_ret
  exact ⟨M2, S2, rfl, L2.out, AL.out⟩
abbrev e1 (list n : Int) (d : List UInt8) : Ev := ⟨1, 0, 0, 0, list, n, d⟩
abbrev e2 (list : Int) : Ev := ⟨2, 0, 0, 0, list, 0, []⟩
abbrev e3 : Ev := ⟨3, 0, 2, 0, 0, 0, []⟩
abbrev e4 : Ev := ⟨4, 0, 3, 0, 0, 0, []⟩
abbrev e17 (C n : Int) (d : List UInt8) : Ev := ⟨17, 0, 0, C, 2, n, d⟩
abbrev e18 (C st : Int) (d : List UInt8) : Ev := ⟨18, 0, 5, C, 0, st, d⟩
abbrev FL (id run list n task place begun : Int) (l : List Ev) (op : List (Int × Opn)) : FS := ⟨id, run, list, n, l, task, place, begun, 0, false, false, op⟩
abbrev St (runs : List (Int × RunS)) (dec : Rows) (due : List It) : ES := ⟨0, 1, 0, runs, dec, [], due⟩
abbrev gA (id run ref : Int) : Ans := { ans0 with given := true, tok := ⟨id, run, ref, 0⟩ }
abbrev nF (id run list n : Int) (d : List UInt8) : FS := FL id run list n 1 2 0 [e1 list n d, e2 list] []
abbrev bF (id run list n : Int) (d : List UInt8) : FS := FL id run list n 2 2 3 [e1 list n d, e2 list, e3] []
abbrev wF (P C n : Int) (d : List UInt8) : FS := FL P 1 1 50 0 2 3 [e1 1 50 [], e2 1, e3, e4, e17 C n d] [(5, ⟨17, C, 0⟩)]
abbrev tF (P C n : Int) (d : List UInt8) (st : Int) (x : List UInt8) : FS := FL P 1 1 50 1 7 0 [e1 1 50 [], e2 1, e3, e4, e17 C n d, e18 C st x, e2 1] []
def S1 (P : Int) : ES := St [(P, ⟨nF P 1 1 50 [], 0, 0⟩)] [(1, [⟨P, 1, 2, 0⟩])] []
def S2 (P : Int) (D : List It) : ES := St [(P, ⟨bF P 1 1 50 [], 0, 0⟩)] [] D
def S3 (P C n : Int) (d0 : List UInt8) (r : Int) (d : List UInt8) (D : List It) : ES := St [(P, ⟨wF P C n d0, 0, 0⟩), (C, ⟨nF C r 2 n d, P, 1⟩)] [(2, [⟨C, r, 2, 0⟩])] D
def S4 (P C n : Int) (d0 : List UInt8) (r : Int) (d : List UInt8) (D : List It) : ES := St [(P, ⟨wF P C n d0, 0, 0⟩), (C, ⟨bF C r 2 n d, P, 1⟩)] [] D
def S5 (P C n : Int) (d0 : List UInt8) (st : Int) (x : List UInt8) (X : RunS) (D : List It) : ES := St [(P, ⟨tF P C n d0 st x, 0, 0⟩), (C, X)] [(1, [⟨P, 1, 7, 0⟩])] D
def R1 (C : Int) : ES := St [(C, ⟨nF C 1 5 50 [], 0, 0⟩)] [(5, [⟨C, 1, 2, 0⟩])] []
def R2 (P C : Int) : ES := St [(C, ⟨nF C 1 5 50 [], 0, 0⟩), (P, ⟨nF P 1 1 50 [], 0, 0⟩)] [(5, [⟨C, 1, 2, 0⟩]), (1, [⟨P, 1, 2, 0⟩])] []
def R3 (P C : Int) (D : List It) : ES := St [(C, ⟨nF C 1 5 50 [], 0, 0⟩), (P, ⟨bF P 1 1 50 [], 0, 0⟩)] [(5, [⟨C, 1, 2, 0⟩])] D
def R4 (P C : Int) (d : List UInt8) (D : List It) : ES := St [(C, ⟨nF C 1 5 50 [], 0, 0⟩), (P, ⟨tF P C 50 d 0 [], 0, 0⟩)] [(5, [⟨C, 1, 2, 0⟩]), (1, [⟨P, 1, 7, 0⟩])] D
attribute [local simp] callE checkE rightC homeC sh0 doE startE beginF newF rightF scheduleF putF outs0 out0 pushR rowOf lk up rm popE setRowsE rowsE popR setR pollE pollL wantedE giveE changeE giveD giveA decidesF tryF decidesD wantsF outsE outE childE isOpenE endsE childEndsF childEndsD findF ok wakeF statusL statusK ans0 failA tok0 e0 f0 numB ticksB hasFlow hasList hasN hasTok hasData hasL flowOfE staleE askE decideF decideD badF badL badOne mayF takeB takeS isOf kindD nearD donesF doneF closeF closeK atF terminateF terminateD eventsF endsL faultyF
abbrev Nm (x : Int) : Prop := 0 ≤ x ∧ x ≤ 1048576
theorem st_1 {P : Int} (hP : Nm P) : call1 (e0 0 1) ⟨1, P, 1, 50, tok0, [], []⟩ = ({ ans0 with run := 1 }, S1 P) := by
  simp [S1, hP]
theorem st_2 (P : Int) : ∃ D, call1 (S1 P) ⟨7, 0, 1, 0, tok0, [], []⟩ = (gA P 1 2, S2 P D) := by
  simp [S1, S2]
theorem st_3 {P C n : Int} {d : List UInt8} (hP : Nm P) (hC : Nm C) (hn : 1 ≤ n ∧ n ≤ 1048576) (hd : d.length ≤ 1000) (hne : P ≠ C) (D : List It) : ∃ D', call1 (S2 P D) ⟨8, 0, 0, 0, ⟨P, 1, 2, 0⟩, [], [⟨4, C, 2, n, d⟩]⟩ = (ans0, S3 P C n d 1 d D') := by
  have hd' : d.length ≤ 4096 := by omega
  have hne' : ¬ C = P := fun e => hne e.symm
  simp [S2, S3, hP, hC, hn, hd', hne, hne']
theorem st_4 {P C n r : Int} {d0 d : List UInt8} (hne : P ≠ C) (D : List It) : ∃ D', call1 (S3 P C n d0 r d D) ⟨7, 0, 2, 0, tok0, [], []⟩ = (gA C r 2, S4 P C n d0 r d D') := by
  simp [S3, S4, hne]
theorem st_5 {P C n r k : Int} {d0 d x : List UInt8} (hC : Nm C) (hr : 1 ≤ r ∧ r ≤ 1000) (hne : P ≠ C) (hx : x.length ≤ 1000) (hk : k = 5 ∨ k = 6) (D : List It) :
    ∃ X D', call1 (S4 P C n d0 r d D) ⟨8, 0, 0, 0, ⟨C, r, 2, 0⟩, [], [⟨k, 0, 0, 0, x⟩]⟩ = (ans0, S5 P C n d0 (k - 3) x X D') := by
  have hx' : x.length ≤ 4096 := by omega
  have hr' : r ≤ 1048576 := by omega
  have hr0 : 0 ≤ r := by omega
  rcases hk with rfl | rfl <;> simp [S4, S5, hC, hne, hx', hr', hr0]
theorem st_6 {P C n st : Int} {d0 x : List UInt8} {X : RunS} (hP : Nm P) (D : List It) :
    call1 (S5 P C n d0 st x X D) ⟨6, P, 0, 6, tok0, [], []⟩ = ({ ans0 with run := 1, events := [e18 C st x, e2 1] }, S5 P C n d0 st x X D) := by
  simp [S5, hP]
  rfl
theorem st_c {P C n r : Int} {d0 d x : List UInt8} (hC : Nm C) (hn : 1 ≤ n ∧ n ≤ 1048576) (hr : 1 ≤ r ∧ r ≤ 1000) (hne : P ≠ C) (hx : x.length ≤ 1000) (D : List It) :
    ∃ D', call1 (S4 P C n d0 r d D) ⟨8, 0, 0, 0, ⟨C, r, 2, 0⟩, [], [⟨8, 0, 0, 0, x⟩]⟩ = (ans0, S3 P C n d0 (r + 1) x D') := by
  have hx' : x.length ≤ 4096 := by omega
  have hr' : r ≤ 1048576 := by omega
  have hr1 : r + 1 ≤ 1048576 := by omega
  have hr0 : 0 ≤ r := by omega
  have hr2 : 1 ≤ r + 1 := by omega
  simp [S4, S3, hC, hn, hne, hx', hr', hr0, hr1, hr2]
theorem st_s {P C n r : Int} {d0 d : List UInt8} (hC : Nm C) (hr : 1 ≤ r ∧ r ≤ 1000) (hne : P ≠ C) (D : List It) :
    call1 (S3 P C n d0 (r + 1) d D) ⟨8, 0, 0, 0, ⟨C, r, 2, 0⟩, [], []⟩ = (failA 21, S3 P C n d0 (r + 1) d D) := by
  have hr' : r ≤ 1048576 := by omega
  have hr0 : 0 ≤ r := by omega
  simp [S3, hC, hne, hr', hr0]
theorem st_h {P C n r : Int} {d0 d : List UInt8} (hC : Nm C) (hne : P ≠ C) (D : List It) :
    call1 (S3 P C n d0 r d D) ⟨6, C, 0, 0, tok0, [], []⟩ = ({ ans0 with run := r, events := [e1 2 n d, e2 2] }, S3 P C n d0 r d D) := by
  simp [S3, hC, hne]
  rfl
theorem st_w {P C n r : Int} {d0 d : List UInt8} (hP : Nm P) (D : List It) :
    call1 (S3 P C n d0 r d D) ⟨6, P, 0, 6, tok0, [], []⟩ = ({ ans0 with run := 1 }, S3 P C n d0 r d D) := by
  simp [S3, hP]
theorem Lw.old {w0 w1 w : World} {M S : Bl} {k n : Nat} {E : ES} (h : Lw w1 w M S k E n) (g : Gr w0 w1) : Lw w0 w M S k E n :=
  ⟨⟨h.law.eng, h.law.e1, g.trans h.law.g, fun b e => Nat.le_trans g.size (h.law.s b e)⟩, fun b e => Nat.le_trans g.size (h.m b e)⟩
def RetGv (w0 : World) (M S : Bl) (k n : Nat) (w : World) (en : Ending) (w2 : World) : Prop :=
  ∃ (a : Ans) (A : Option Addr) (c : Nat) (A' : Option Addr) (c' : Nat) (E' : ES) (M' S' : Bl), a.given = true ∧ en = .returned (ansV a (.slice A a.data.length c) (.slice A' a.events.length c')) ∧ Lw w0 w2 M' S' k E' (n + 100) ∧ Along w M S w2 M' S'
structure Ev2 (w : World) (b off : Nat) (A : Option Addr) (c : Nat) (x y : Ev) : Prop where
  lt : b < w.heap.size
  d : Bys w (.slice A x.data.length c) x.data
  c0 : w.cell? ⟨b, off, none⟩ = some (.int .i64 x.kind)
  c2 : w.cell? ⟨b, off + 2, none⟩ = some (.int .i64 x.ref)
  c3 : w.cell? ⟨b, off + 3, none⟩ = some (.int .i64 x.id)
  c4 : w.cell? ⟨b, off + 4, none⟩ = some (.int .i64 x.list)
  c5 : w.cell? ⟨b, off + 5, none⟩ = some (.int .i64 x.n)
  c6 : w.cell? ⟨b, off + 6, none⟩ = some (.slice A x.data.length c)
  k0 : w.cell? ⟨b, off + 7, none⟩ = some (.int .i64 y.kind)
theorem ev_two {w : World} {M : Bl} {A : Option Addr} {c : Nat} {x y : Ev} (h : RecsM evR w M (.slice A 2 c) [x, y]) : ∃ b off A' c', A = some ⟨b, off, none⟩ ∧ ∀ w' M', Up M w M' w' → Ev2 w' b off A' c' x y := by
  obtain ⟨b, off, v, rfl, hb, hM, hd, hc⟩ := h.at_ (i := 0) (m := 6) (fun x => evR_len x) rfl
  obtain ⟨b2, off2, v2, e, _, _, _, hc2⟩ := h.at_ (i := 1) (m := 6) (fun x => evR_len x) rfl
  injection e with e
  injection e with e1 e2 _
  subst e1 e2
  obtain ⟨A', c', rfl⟩ := hd.shape
  simp only [Nat.zero_mul, Nat.add_zero] at hc
  simp only [Nat.one_mul] at hc2
  exact ⟨b, off, A', c', rfl, fun w' M' u => ⟨Nat.lt_of_lt_of_le hb u.size, (hd.up u).bys, (World.cell?_of_block (u.block hb hM)).trans (hc 0 _ rfl), (World.cell?_of_block (u.block hb hM)).trans (hc 2 _ rfl), (World.cell?_of_block (u.block hb hM)).trans (hc 3 _ rfl), (World.cell?_of_block (u.block hb hM)).trans (hc 4 _ rfl),
    (World.cell?_of_block (u.block hb hM)).trans (hc 5 _ rfl), (World.cell?_of_block (u.block hb hM)).trans (hc 6 _ rfl), (World.cell?_of_block (u.block hb hM)).trans (hc2 0 _ rfl)⟩⟩
set_option maxHeartbeats 16000000 in
theorem continues_any (times : Int) (d : List UInt8) (dv : Value) (w : World) (hd : BysM w (fun _ => False) dv d) :
    Calls Tryz.prog 4 #[.int .i64 times, dv] w (RetE (.bool true) w) := by
  have HKN := hid known_any
  have HD := hid hd
  obtain ⟨Ad, cd, rfl, hdl, -, -⟩ := hd
  have HDL := hid hdl
  obtain ⟨dl, hdl9⟩ : ∃ n, d.length = n := ⟨_, rfl⟩
  have HLEN := hid hdl9
  rw [hdl9] at HD HDL ⊢
  clear hdl hdl9
  refine retE ?_
  go_enter Tryz.func4, Tryz.ntmps4
  go_upto_region 3 with (go_at_call 12; refine (HKN.out _).mono ?_; rintro en _ ⟨rfl, y1, rfl⟩)
  have hk : times < 0 ∨ (¬ times < 0 ∧ 20 < times) ∨ (¬ times < 0 ∧ ¬ 20 < times ∧ (1000 : Int) < (dl : Int)) ∨ (¬ times < 0 ∧ ¬ 20 < times ∧ ¬ (1000 : Int) < (dl : Int)) := by omega
  rcases hk with h0 | ⟨h0, h1⟩ | ⟨h0, h1, h2⟩ | ⟨h0, h1, h2⟩
  iterate 3
    · go_wp2_with fail
      go_ret
      exact ⟨rfl, y1.gr⟩
  have HDD := hid (show d.length ≤ 1000 by rw [HLEN.out]; omega)
  have HT := hid (And.intro h0 h1)
  go_wp2_with fail
  clear h0 h1 h2
  refine (made_any _).mono ?_
  rintro en w1 ⟨k, M1, Q1, rfl, l1⟩
  have L1 := hid (l1.old y1.gr)
  clear l1
  go_wp2_with fail
  have hc := L1.out.call ⟨1, 9, 1, 50, tok0, [], []⟩ (.slice none 0 0) (.slice none 0 0) (by omega) (callM_none _ _ _ rfl rfl) (by simp) (by simp)
  rw [st_1 ⟨by decide, by decide⟩] at hc
  refine hc.mono ?_
  clear hc
  rintro en w2 ⟨A2, c2, A2', c2', M2, Q2, rfl, l2, -, -, -⟩
  have L2 := hid l2
  clear l2
  simp only [ansV, ansC, ans0, tok0, List.length_nil]
  go_wp2_with fail
  obtain ⟨D3, hq⟩ := st_2 9
  have hc := poll_any L2.out 1 (by omega)
  rw [hq] at hc
  refine hc.mono ?_
  clear hc hq
  rintro en w3 ⟨A3, c3, A3', c3', M3, Q3, rfl, l3, -, -, -⟩
  have L3 := hid l3
  clear l3
  simp only [ansV, ansC, ans0, tok0, List.length_nil]
  have hfld := field31tok
  go_wp2_with fail
  clear hfld
  have hg := (Gr.refl w3).alloc (.cells #[.int .i64 4, .int .i64 3, .int .i64 2, .int .i64 7, .slice none 0 0] 39)
  obtain ⟨D4, hq⟩ := st_3 (P := 9) (C := 3) (n := 7) (d := []) ⟨by decide, by decide⟩ ⟨by decide, by decide⟩ ⟨by decide, by decide⟩ (by simp) (by decide) D3
  have hc := decideL_any (L3.out.gr hg) ⟨9, 1, 2, 0⟩ [⟨4, 3, 2, 7, []⟩] (.slice (some ⟨w3.heap.size, 0, none⟩) 1 1) (by omega) (dec_one _ (heap_alloc_new w3 _) (L3.out.law.eng.nM (Nat.le_refl _)) (BysM.none _ _)) (by simp) (by simp)
  rw [hq] at hc
  refine hc.mono ?_
  clear hc hq hg
  rintro en w4 ⟨M4, Q4, rfl, l4, -⟩
  have L4 := hid l4
  clear l4
  simp only [ans0]
  go_wp2_with fail
  go_loopw [6] (fun iv wr => ∃ (r : Nat) (dd : List UInt8) (D : List It) (M S : Bl) (n : Nat), iv = .int .i64 r ∧ 1 ≤ r ∧ (r : Int) ≤ times + 1 ∧ Lw w wr M S k (S3 9 3 7 [] r dd D) n ∧ n ≤ 1000 * r) (fun iv _ => 30 - (intOf iv).toNat)
  case atStart => exact ⟨1, [], D4, M4, Q4, _, rfl, Nat.le_refl _, by have := HT.out; omega, L4.out, by omega⟩
  case round =>
    obtain ⟨r, dd, D, M, S, n, rfl, hr1, hr2, l, hn⟩ := hrel
    have L := hid l
    have HN := hid hn
    have HR := hid (And.intro hr1 hr2)
    clear l hn hr1 hr2 L1 L2 L3 L4
    by_cases hlt : (r : Int) ≤ times
    · go_wp2_with fail
      obtain ⟨D1, hq⟩ := st_4 (P := 9) (C := 3) (n := 7) (r := r) (d0 := []) (d := dd) (by decide) D
      have hc := poll_any L.out 2 (by have := HN.out; have := HR.out; have := HT.out; omega)
      rw [hq] at hc
      refine hc.mono ?_
      clear hc hq
      rintro en w2 ⟨A2, c2, A2', c2', M2, Q2, rfl, l2, -, -, -⟩
      have L2 := hid l2
      have N2 := hid (l2.law.eng.nS (Nat.le_refl w2.heap.size))
      clear l2
      simp only [ansV, ansC, ans0, tok0, List.length_nil]
      go_upto_region 15 with fail
      obtain ⟨w3, hw3⟩ : ∃ w3, w2.alloc (.cells #[.int .i64 0, .int .i64 0, .int .i64 0, .bool true, .int .i64 3, .int .i64 (r : Int), .int .i64 2, .int .i64 0, .slice A2 0 c2, .slice A2' 0 c2'] 31) = w3 := ⟨_, rfl⟩
      have HB3 := hid (hw3 ▸ heap_alloc_new w2 (.cells #[.int .i64 0, .int .i64 0, .int .i64 0, .bool true, .int .i64 3, .int .i64 (r : Int), .int .i64 2, .int .i64 0, .slice A2 0 c2, .slice A2' 0 c2'] 31))
      have G3 := hid (hw3 ▸ (Gr.refl w2).alloc (.cells #[.int .i64 0, .int .i64 0, .int .i64 0, .bool true, .int .i64 3, .int .i64 (r : Int), .int .i64 2, .int .i64 0, .slice A2 0 c2, .slice A2' 0 c2'] 31))
      have L3 := hid (L2.out.gr G3.out)
      rw [hw3]
      clear hw3
      obtain ⟨x0, x1, x2, x3, x4, x5, x6, x7, x8, x9⟩ := cells10 HB3.out
      have lx := block_lt HB3.out
      go_wp2_with fail
      clear x0 x1 x2 x3 x4 x5 x6 x7 x8 x9
      have hg := (Gr.refl w3).alloc (.cells #[.int .i64 8, .int .i64 0, .int .i64 0, .int .i64 0, .slice Ad dl cd] 39)
      obtain ⟨D2, hq⟩ := st_c (P := 9) (C := 3) (n := 7) (r := r) (d0 := []) (d := dd) (x := d) ⟨by decide, by decide⟩ ⟨by decide, by decide⟩ (by have := HR.out; have := HT.out; omega) (by decide) HDD.out D1
      have hc := decideL_any (L3.out.gr hg) ⟨3, r, 2, 0⟩ [⟨8, 0, 0, 0, d⟩] (.slice (some ⟨w3.heap.size, 0, none⟩) 1 1) (by have := HN.out; have := HR.out; have := HT.out; omega) (dec_one _ (heap_alloc_new w3 _) (L3.out.law.eng.nM (Nat.le_refl _)) ((L3.out.gr hg).bys HD.out)) (by simp) (by simp only [List.mem_singleton]; rintro d' rfl; exact Nat.le_trans HDD.out (by omega))
      rw [hq] at hc
      refine hc.mono ?_
      clear hc hq
      rintro en w4 ⟨M4, Q4, rfl, l4, hal4⟩
      have K4 := hid (hal4.keepb ((hg.block _ lx).trans HB3.out) N2.out)
      have L4 := hid l4
      clear l4 hal4 hg
      simp only [ans0]
      obtain ⟨x0, x1, x2, x3, x4, x5, x6, x7, x8, x9⟩ := cells10 K4.out.1
      have lx4 := block_lt K4.out.1
      go_wp2_with fail
      clear x0 x1 x2 x3 x4 x5 x6 x7 x8 x9
      have hc := decideL_any L4.out ⟨3, r, 2, 0⟩ [] (.slice none 0 0) (by have := HN.out; have := HR.out; have := HT.out; omega) (RecsM.none _ _ _) (by simp) (by simp)
      rw [st_s ⟨by decide, by decide⟩ (by have := HR.out; have := HT.out; omega) (by decide)] at hc
      refine hc.mono ?_
      clear hc
      rintro en w5 ⟨M5, Q5, rfl, l5, -⟩
      have L5 := hid l5
      clear l5
      simp only [failA, ans0]
      go_wp2_with fail
      have hc := L5.out.call ⟨6, 3, 0, 0, tok0, [], []⟩ (.slice none 0 0) (.slice none 0 0) (by have := HN.out; have := HR.out; have := HT.out; omega) (callM_none _ _ _ rfl rfl) (by simp) (by simp)
      rw [st_h ⟨by decide, by decide⟩ (by decide)] at hc
      refine hc.mono ?_
      clear hc
      rintro en w6 ⟨A6, c6, A6', c6', M6, Q6, rfl, l6, -, -, he6⟩
      have L6 := hid l6
      clear l6
      simp only [ansV, ansC, ans0, tok0, List.length_nil, List.length_cons, Nat.zero_add, Nat.reduceAdd] at he6 ⊢
      obtain ⟨b, off, A7, c7, rfl, hev⟩ := ev_two he6
      go_upto_region 18 with fail
      obtain ⟨w7, hw7⟩ : ∃ w7, w6.alloc (.cells #[.int .i64 0, .int .i64 ((r : Int) + 1), .int .i64 0, .bool false, .int .i64 0, .int .i64 0, .int .i64 0, .int .i64 0, .slice A6 0 c6, .slice (some ⟨b, off, none⟩) 2 c6'] 31) = w7 := ⟨_, rfl⟩
      have HB7 := hid (hw7 ▸ heap_alloc_new w6 (.cells #[.int .i64 0, .int .i64 ((r : Int) + 1), .int .i64 0, .bool false, .int .i64 0, .int .i64 0, .int .i64 0, .int .i64 0, .slice A6 0 c6, .slice (some ⟨b, off, none⟩) 2 c6'] 31))
      have G7 := hid (hw7 ▸ (Gr.refl w6).alloc (.cells #[.int .i64 0, .int .i64 ((r : Int) + 1), .int .i64 0, .bool false, .int .i64 0, .int .i64 0, .int .i64 0, .int .i64 0, .slice A6 0 c6, .slice (some ⟨b, off, none⟩) 2 c6'] 31))
      have L7 := hid (L6.out.gr G7.out)
      rw [hw7]
      clear hw7
      have lx7 := block_lt HB7.out
      have HX := hid (fun W (g : Gr w7 W) => And.intro (hev W M6 (Gr.up (G7.out.trans g) M6)) (And.intro ((L7.out.gr g).bys HD.out).bys (And.intro (cells10 ((g.block _ lx7).trans HB7.out)) (Nat.lt_of_lt_of_le lx7 g.size))))
      have kw : IntKind.i64.wrap ((r : Int) + 1) = (r : Int) + 1 := IntWalk.i64_in _ (by have := HR.out; have := HT.out; omega)
      clear he6 hev
      refine wp_region_planM [(0, false), (1, false), (2, false), (3, false), (4, false), (5, false), (6, false), (7, false), (8, false), (9, false), (10, false), (11, false), (12, false), (13, false), (14, false), (15, false), (16, false), (17, false), (18, false), (19, false), (20, false), (21, false), (22, false), (23, false), (24, false), (25, false), (26, false), (27, false), (28, false), (29, false), (30, false), (31, false), (32, false), (33, false), (34, false), (35, false), (36, false), (37, true)] (fun W => Gr w7 W) (by kernel_rfl) (by kernel_rfl) (fun _ _ d _ _ h => by cases d <;> exact h) (Gr.refl w7).drew (fun _ => ?_)
      iterate 37 (refine pm_take (v := ?_) rfl (by rfl) ?_ ?_; rotate_left; (focus (intro W9 hW9; obtain ⟨⟨lb, hd9, -, -, -, e4, e5, e6, -⟩, hd8, ⟨x0, x1, x2, x3, x4, x5, x6, x7, x8, x9⟩, lx⟩ := HX.out W9 hW9; have cv1 := conv_bys hd9; have cv2 := conv_bys hd8; simp only [HLEN.out] at cv1 e6; go_simp; (try with_reducible rfl); done)); (try simp only [AP]))
      refine pm_last rfl (by rfl) (fun K hK => ?_)
      go_simp
      refine hK.out _ _ ?_
      clear hK K
      go_wp2_with fail
      have hL := L7.out.gr (Gr.refl w7).drew
      try simp only at hL
      have hc := hL.call ⟨6, 9, 0, 6, tok0, [], []⟩ (.slice none 0 0) (.slice none 0 0) (by have := HN.out; have := HR.out; have := HT.out; omega) (callM_none _ _ _ rfl rfl) (by simp) (by simp)
      rw [st_w ⟨by decide, by decide⟩] at hc
      refine hc.mono ?_
      clear hc hL
      rintro en w8 ⟨A8, c8, A8', c8', M8, Q8, rfl, l8, -, -, -⟩
      have L8 := hid l8
      clear l8
      simp only [ansV, ansC, ans0, tok0, List.length_nil]
      have hfld := field31events
      go_wp2_with fail
      clear hfld
      go_roundw
      case rel => exact ⟨r + 1, d, _, _, _, _, by go_num, by omega, by omega, L8.out, by have := HN.out; omega⟩
      case measure => have := HR.out; have := HT.out; simp [intOf]; omega
    · go_wp2_with fail
      obtain ⟨D1, hq⟩ := st_4 (P := 9) (C := 3) (n := 7) (r := r) (d0 := []) (d := dd) (by decide) D
      have hc := poll_any L.out 2 (by have := HN.out; have := HR.out; have := HT.out; omega)
      rw [hq] at hc
      refine hc.mono ?_
      clear hc hq
      rintro en w2 ⟨A2, c2, A2', c2', M2, Q2, rfl, l2, -, -, -⟩
      have L2 := hid l2
      clear l2
      simp only [ansV, ansC, ans0, tok0, List.length_nil]
      go_upto_region 23 with fail
      obtain ⟨w3, hw3⟩ : ∃ w3, w2.alloc (.cells #[.int .i64 0, .int .i64 0, .int .i64 0, .bool true, .int .i64 3, .int .i64 (r : Int), .int .i64 2, .int .i64 0, .slice A2 0 c2, .slice A2' 0 c2'] 31) = w3 := ⟨_, rfl⟩
      have HB3 := hid (hw3 ▸ heap_alloc_new w2 (.cells #[.int .i64 0, .int .i64 0, .int .i64 0, .bool true, .int .i64 3, .int .i64 (r : Int), .int .i64 2, .int .i64 0, .slice A2 0 c2, .slice A2' 0 c2'] 31))
      have L3 := hid (L2.out.gr (hw3 ▸ (Gr.refl w2).alloc (.cells #[.int .i64 0, .int .i64 0, .int .i64 0, .bool true, .int .i64 3, .int .i64 (r : Int), .int .i64 2, .int .i64 0, .slice A2 0 c2, .slice A2' 0 c2'] 31)))
      rw [hw3]
      clear hw3
      obtain ⟨x0, x1, x2, x3, x4, x5, x6, x7, x8, x9⟩ := cells10 HB3.out
      have lx := block_lt HB3.out
      go_wp2_with fail
      clear x0 x1 x2 x3 x4 x5 x6 x7 x8 x9
      have hg := (Gr.refl w3).alloc (.cells #[.int .i64 5, .int .i64 0, .int .i64 0, .int .i64 0, .slice none 0 0] 39)
      obtain ⟨X2, D2, hq⟩ := st_5 (P := 9) (C := 3) (n := 7) (r := r) (k := 5) (d0 := []) (d := dd) (x := []) ⟨by decide, by decide⟩ (by have := HR.out; have := HT.out; omega) (by decide) (by simp) (.inl rfl) D1
      have hc := decideL_any (L3.out.gr hg) ⟨3, r, 2, 0⟩ [⟨5, 0, 0, 0, []⟩] (.slice (some ⟨w3.heap.size, 0, none⟩) 1 1) (by have := HN.out; have := HR.out; have := HT.out; omega) (dec_one _ (heap_alloc_new w3 _) (L3.out.law.eng.nM (Nat.le_refl _)) (BysM.none _ _)) (by simp) (by simp)
      rw [hq] at hc
      refine hc.mono ?_
      clear hc hq hg
      rintro en w4 ⟨M4, Q4, rfl, l4, -⟩
      have L4 := hid l4
      clear l4
      simp only [ans0]
      go_wp2_with fail
      have hc := L4.out.call ⟨6, 9, 0, 6, tok0, [], []⟩ (.slice none 0 0) (.slice none 0 0) (by have := HN.out; have := HR.out; have := HT.out; omega) (callM_none _ _ _ rfl rfl) (by simp) (by simp)
      try simp only at hc
      rw [st_6 ⟨by decide, by decide⟩] at hc
      refine hc.mono ?_
      clear hc
      rintro en w5 ⟨A5, c5, A5', c5', M5, Q5, rfl, l5, -, -, he5⟩
      have L5 := hid l5
      clear l5
      simp only [ansV, ansC, ans0, tok0, List.length_nil, List.length_cons, Nat.zero_add, Nat.reduceAdd] at he5 ⊢
      obtain ⟨b, off, A7, c7, rfl, hev⟩ := ev_two he5
      obtain ⟨hb, -, e0, e2, e3, e4, e5, e6, e7⟩ := hev w5 M5 (Gr.up (Gr.refl w5) M5)
      clear he5 hev
      have hfld := field31events
      go_wp2_with fail
      clear hfld
      go_ret
      exact ⟨rfl, L5.out.law.g⟩
end Go.Proofs.YtniknicnnaiilaaGreat
end
section
namespace Go.Ext
open Go.RowKit Go.ChangeShapes Go.WideShapes Go.ChangeAt
section
variable {H : Type} {enc : TypeId × Value → H} {P : Program}
theorem trodAll_gr (hl : laidOutB P = true) {W W' : World} (hb : Gr W W') : ∀ (ts : List TypeId) (vs : List Value) (ds : List (DataW H)) (ps : List MemPlace), (∀ t ∈ ts, P.readableRec t = true ∧ t < P.types.size) →
    DataW.TrodAll enc P W 0 (fun _ => true) true ts vs ds ps → (∀ x ∈ ps, x.block < W.heap.size) → DataW.TrodAll enc P W' 0 (fun b => decide (b < W.heap.size)) true ts vs ds ps
  | [], vs, ds, ps, _, h, _ => by
    obtain ⟨rfl, rfl, rfl⟩ := trodAll_nil h
    exact trodAll_mk0
  | t :: ts, vs, ds, ps, hr, h, hlt => by
    obtain ⟨v, vs', d, ds', p, q, rfl, rfl, rfl, h0, h1⟩ := trodAll_cons h
    have ht := hr t (by simp)
    exact trodAll_cons_mk (Below.trod hl ht.1 ht.2 h0 hb (fun x hx => hlt x (by simp [hx]))) (trodAll_gr hl hb ts vs' ds' q (fun t' h' => hr t' (by simp [h'])) h1 (fun x hx => hlt x (by simp [hx])))
theorem of_all {ts : List TypeId} (h : (ts.all fun t => P.readableRec t && decide (t < P.types.size)) = true) : ∀ t ∈ ts, P.readableRec t = true ∧ t < P.types.size := by
  intro t ht
  have := List.all_eq_true.1 h t ht
  simpa using this
theorem law_post {fn : Func} {s : ChangeSpec} {tb : TypeId} (hl : laidOutB P = true) (hread : (fn.params.toList.all fun t => P.readableRec t && decide (t < P.types.size)) = true) (hres : fn.resultTypes = #[tb]) (htb : P.underlying tb = some .bool) (hvars : s.vars = [])
    {W W' : World} {args : Array Value} {ds gs : List (DataW H)} {before : List MemPlace} (hW : DataW.Whole enc P fn.params.toList s.vars false W args.toList ds gs before)
    (hs : s.fn H (ds ++ gs) = { results := [.lit (.bool true)], args := ds }) (hb : Gr W W') : s.post enc P fn false true false false W args (.bool true) W' := by
  have hlt : ∀ x ∈ before, x.block < W.heap.size := hW.lt
  have hW' := hW
  obtain ⟨p, q, hA, hV, rfl, _, _⟩ := hW
  refine ⟨ds, gs, p ++ q, [], p, [], hW', ?_, ?_, ?_, hb.below.frame _, fun h => by cases h⟩
  · rw [hs, hres]
    exact trodAll_mk1 (shut_bool htb true)
  · rw [hs]
    exact trodAll_gr hl hb _ _ _ _ (of_all hread) hA (fun x hx => hlt x (by simp [hx]))
  · rw [hs, hvars]
    rfl
end
end Go.Ext
end
