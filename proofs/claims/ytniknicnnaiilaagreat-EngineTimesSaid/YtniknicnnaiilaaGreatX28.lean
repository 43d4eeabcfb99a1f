/- Lemmas: what the functions of the engine answer, and which blocks they write. -/
import Derived.Test.YtniknicnnaiilaaGreatX11
import Derived.Test.YtniknicnnaiilaaGreatX25
section
namespace Go.Proofs.YtniknicnnaiilaaGreat
set_option maxRecDepth 100000
open Go.RowKit Go.Ext Go.BigFrame Go.Maps Go.MapKept
attribute [local go_sem] Ext.cell Ext.frozen Ext.lt Ext.le s1 s2 s3 s4 s5 s6 t1 t2 t3 t4 t5 t6
attribute [local go_sem ↓] Go.wp_at_zero Go.wp_at_succ
theorem poll_row (d : Bool) (list : Int) (E : ES) (t : Task) (r : List Task) (hE : EOk E) (h : rowOf (rowsE E d) list = t :: r) : rowOf (rowsE (popE E d list) d) list = r := by
  have hp : popR (rowsE E d) list = setR (rowsE E d) list r := by unfold popR; rw [h]
  have hr : rowsE (popE E d list) d = popR (rowsE E d) list := by cases d <;> rfl
  rw [hr, hp]
  unfold setR rowOf
  cases r with
  | nil =>
    have hn : ((rowsE E d).map (·.1)).Nodup := by
      cases d
      · exact hE.a.nodup
      · exact hE.d.nodup
    simp [lk_rm_same hn]
  | cons a b => simp [lk_up_same]
theorem give_events {E E' : ES} {d : Bool} {t : Task} {a : Ans} (h : giveE E d t = some (a, E')) : a.events = [] := by
  unfold giveE at h
  split at h
  · cases h
  · split at h
    · split at h
      · injection h with h
        injection h with h _
        rw [← h]
        rfl
      · cases h
    · cases h
theorem pollL_F {d : Bool} {list : Int} {E : ES} {t : Task} {r : List Task} (h : wantedE E t = false) : pollL d list E (t :: r) = pollL d list (popE E d list) r := by rw [pollL, if_neg (by rw [h]; exact Bool.false_ne_true)]
theorem pollL_N {d : Bool} {list : Int} {E : ES} {t : Task} {r : List Task} (h : wantedE E t = true) (hg : giveE E d t = none) : pollL d list E (t :: r) = (ans0, E) := by rw [pollL, if_pos h, hg]
theorem pollL_S {d : Bool} {list : Int} {E E' : ES} {t : Task} {r : List Task} {a : Ans} (h : wantedE E t = true) (hg : giveE E d t = some (a, E')) : pollL d list E (t :: r) = (a, popE E' d list) := by rw [pollL, if_pos h, hg]
set_option maxHeartbeats 8000000 in
theorem poll_7 (PUT : PutAny) (k : Nat) (E : ES) (c : Call) (d l : Value) (M S : Bl) (w : World) (h : EngR w M S k E) (hE : EOk E) (hdue : E.due.length ≤ 998000) (hc : CallM w M c d l) (hkind : c.kind = 7) :
    Calls Tryz.prog 62 #[.pointer (some ⟨k, 0, none⟩), callV c d l] w (RetDo M S k (pollE E true c.list).1 (pollE E true c.list).2 w) := by
  obtain ⟨Ad, cd, rfl⟩ := hc.1.shape
  obtain ⟨Al, cl, rfl, _⟩ := hc.2.shape
  have HENG := hid h
  have HLT := hid h.lt
  have HC := hid hc
  have HE := hid hE
  have HDUE := hid hdue
  have hks : k < w.heap.size := h.lt.1 k (h.lt.2.1 k h.lt.2.2)
  clear hc hE hdue
  obtain ⟨kd, ka, md, ma, mr, kh, hv, hP⟩ := h
  obtain ⟨e0, e1, e2, e3, e4, e5, e6, hkl⟩ := hP.cells
  clear hP
  obtain ⟨R, hR⟩ : ∃ R, pollE E true c.list = R := ⟨_, rfl⟩
  rw [hR]
  have HR := hid (show pollL true c.list E (rowOf (rowsE E true) c.list) = R from hR)
  clear hR
  rcases c with ⟨ck, cf, cli, cn, ⟨tf, tr, te, tt⟩, cdat, cls⟩
  simp only at hkind
  subst hkind
  have HGIVE := hid (fun k' E' t M' S' W h hE hdue hc hw hta => give_anyE PUT k' E' ⟨7, cf, cli, cn, ⟨tf, tr, te, tt⟩, cdat, cls⟩ (.slice Ad cdat.length cd) (.slice Al cls.length cl) t M' S' W h hE hdue hc hw hta)
  simp only [callV, callC] at *
  generalize cdat.length = dl at *
  generalize cls.length = ll at *
  go_enter Tryz.func62, Tryz.ntmps62
  go_wp2_with fail
  obtain ⟨w1, hw1, g1, hb0, hb1⟩ := alloc2 w (.cells #[.int .i64 7, .int .i64 cf, .int .i64 cli, .int .i64 cn, .int .i64 tf, .int .i64 tr, .int .i64 te, .int .i64 tt, .slice Ad dl cd, .slice Al ll cl] 35) (.cells #[.int .i64 0, .int .i64 0, .int .i64 0, .bool false, .int .i64 0, .int .i64 0, .int .i64 0, .int .i64 0, .slice none 0 0, .slice none 0 0] 31)
  rw [hw1]
  clear hw1
  have HM1 := hid (HENG.out.more g1 (Nat.le_succ _) (block_lt hb1))
  have G1 := hid g1
  have HB0 := hid hb0
  have HB1 := hid hb1
  have hcell : w1.cell? ⟨k, 0, none⟩ = some (.pointer (some ⟨kd, 0, none⟩)) := (g1.cell (p := ⟨k, 0, none⟩) hkl).trans e0
  have HCELL := hid hcell
  clear hcell g1 hb0 hb1 e0 e1 e2 e3 e4 e5 e6
  go_loopg [5] (rowOf (rowsE E true) cli).length (fun g rv wr => ∃ (Ei : ES) (Mi Si : Bl), rv = .pointer (some ⟨kd, 0, none⟩) ∧ EngR wr Mi Si k Ei ∧ wr.cell? ⟨k, 0, none⟩ = some (.pointer (some ⟨kd, 0, none⟩)) ∧ EOk Ei ∧ Ei.due.length ≤ 998000 ∧ pollL true cli Ei (rowOf (rowsE Ei true) cli) = R ∧ g = (rowOf (rowsE Ei true) cli).length ∧ Along w1 (fun b => M b ∨ b = w.heap.size + 1) S wr Mi Si)
  case atStart => exact ⟨E, _, S, rfl, HM1.out, HCELL.out, HE.out, HDUE.out, HR.out, rfl, Along.refl _ _ _⟩
  case round =>
    obtain ⟨Ei, Mi, Si, rfl, heng, hcell, hEi, hdi, hR, rfl, hal⟩ := hrel
    have HENGI := hid heng
    have HAL := hid hal
    have HEI := hid hEi
    have HDI := hid hdi
    have HPR := hid hR
    have nS : ∀ b, w.heap.size ≤ b → ¬ S b := fun b hb e => by have := HLT.out.1 b (HLT.out.2.1 b e); omega
    have q0 := (hal.mod.block w.heap.size (block_lt HB0.out) (nS _ (Nat.le_refl _))).trans HB0.out
    have q1 := (hal.mod.block (w.heap.size + 1) (block_lt HB1.out) (nS _ (Nat.le_succ _))).trans HB1.out
    have Q0 := hid q0
    have Q1 := hid q1
    obtain ⟨a0, a1, a2, a3, a4, a5, a6, a7, a8, a9⟩ := cells10 q0
    have l0 := block_lt q0
    have l1 := block_lt q1
    obtain ⟨kd', ka', md', ma', mr', kh', hv', hPi⟩ := heng
    have hkk : kd' = kd := by
      have := hPi.cells.1
      rw [hcell] at this
      injection this with this
      injection this with this
      injection this with this
      injection this with this _
      exact this.symm
    subst hkk
    have HPI := hid hPi
    obtain ⟨e0, e1, e2, e3, e4, e5, e6, hkl'⟩ := hPi.cells
    clear hal hEi hdi hR hPi hcell q0 q1
    cases hrow : rowOf (rowsE Ei true) cli with
    | nil =>
      have HPEEK := hid (fun W (g : Gr wr W) => (show Calls Tryz.prog 101 #[.pointer (some ⟨kd', 0, none⟩), .int .i64 cli] W (RetE (.tuple #[.agg #[.int .i64 0, .int .i64 0, .int .i64 0, .int .i64 0], .bool false]) W) from by
        have := peekL_any kd' md' Ei.dec cli Mi W (HPI.out.d.gr g)
        rw [show rowOf Ei.dec cli = [] from hrow] at this
        exact this))
      go_wp2_with (go_at_call 101; refine (HPEEK.out _ (Gr.refl _)).mono ?_; rintro en _ ⟨rfl, y1, rfl⟩)
      have G4 := hid (y1.gr.alloc (.cells #[.int .i64 0, .int .i64 0, .int .i64 0, .int .i64 0] 84))
      refine (popL_any kd' md' Ei.dec cli Mi _ (HPI.out.d.gr G4.out) (HPI.out.SM _ HPI.out.smd) (fun b e => Nat.lt_of_lt_of_le (HENGI.out.lt.1 b e) G4.out.size) (Nat.le_trans (rowOf_len HEI.out.d cli) (by omega))).mono ?_
      rw [show rowOf Ei.dec cli = [] from hrow]
      simp only [List.headD_nil, List.isEmpty_nil, Bool.not_true, tkV, tk0]
      rintro en w4 ⟨rfl, hl4, hm4⟩
      have HL4 := hid hl4
      have M4 := hid hm4
      have HA4 := hid (show Along w1 (fun b => M b ∨ b = w.heap.size + 1) S w4 Mi Si from HAL.out.trans ⟨(G4.out.mod Si).trans hm4 (fun b _ e => e ▸ HPI.out.smd), fun _ _ e => e, fun _ _ e => e, fun _ e => e⟩)
      have q4 := (HA4.out.mod.block w.heap.size (block_lt HB0.out) (nS _ (Nat.le_refl _))).trans HB0.out
      have r4 := (HA4.out.mod.block (w.heap.size + 1) (block_lt HB1.out) (nS _ (Nat.le_succ _))).trans HB1.out
      obtain ⟨a0, a1, a2, a3, a4, a5, a6, a7, a8, a9⟩ := cells10 q4
      obtain ⟨b0, b1, b2, b3, b4, b5, b6, b7, b8, b9⟩ := cells10 r4
      have l4 := block_lt q4
      have l5 := block_lt r4
      obtain ⟨f0, f1, f2, f3, f4, f5, f6, f7, f8, f9⟩ := FZ r4
      clear q4 r4
      have HF := hid (show ∀ w3, Mod (fun x => x = w.heap.size + 1) w4 w3 → RetDo M S k R.1 R.2 w (.returned (ansV ans0 (.slice none 0 0) (.slice none 0 0))) w3 from fun w3 m => by
        have hR0 : R = (ans0, Ei) := by rw [← HPR.out, hrow]; rfl
        have hp : popR Ei.dec cli = Ei.dec := by unfold popR; rw [show rowOf Ei.dec cli = [] from hrow]
        have h5 := (HPI.out.gr G4.out).setDec M4.out (hp ▸ HL4.out)
        have h6 : EngR w4 Mi Si k Ei := ⟨_, _, _, _, _, _, _, h5⟩
        rw [hR0]
        have hd : BysM w4 Mi (.slice none 0 0) ans0.data := BysM.none _ _
        have he : RecsM evR w4 Mi (.slice none 0 0) ans0.events := RecsM.none _ _ _
        have hfin := fin_ans (fun b e => HLT.out.1 b (HLT.out.2.1 b e)) G1.out (Nat.le_succ w.heap.size) (block_lt HB1.out) h6 HA4.out hd he m
        exact ⟨.slice none 0 0, .slice none 0 0, Mi, Si, rfl, hfin⟩)
      go_wp2_with fail
      refine bodyPost_ret (v := ansV ans0 (.slice none 0 0) (.slice none 0 0)) (by simp [results, Tryz.results62, go_sem, ansV, ansC, ans0, tok0, b0, b1, b2, b3, b4, b5, b6, b7, b8, b9, l5]) rfl ?_
      refine HF.out _ ?_
      exact (mod10 w4 (w.heap.size + 1) _ _ _ _ _ _ _ _ _ _).gr ((Gr.refl _).alloc _)
    | cons t r =>
      obtain ⟨t1, t2, t3, t4⟩ := t
      have HROW := hid hrow
      have HPEEK := hid (fun W (g : Gr wr W) => (show Calls Tryz.prog 101 #[.pointer (some ⟨kd', 0, none⟩), .int .i64 cli] W (RetE (.tuple #[.agg #[.int .i64 t1, .int .i64 t2, .int .i64 t3, .int .i64 t4], .bool true]) W) from by
        have := peekL_any kd' md' Ei.dec cli Mi W (HPI.out.d.gr g)
        rw [show rowOf Ei.dec cli = ⟨t1, t2, t3, t4⟩ :: r from hrow] at this
        exact this))
      have HW := hid (fun W (g : Gr wr W) => wanted_any k Ei ⟨t1, t2, t3, t4⟩ Mi Si W (HENGI.out.gr g))
      simp only [tkV] at HW
      go_upto_region 5 with (go_at_call 101; refine (HPEEK.out _ (Gr.refl _)).mono ?_; rintro en _ ⟨rfl, y1, rfl⟩)
      have HB6 := hid (heap_alloc_new y1.val (.cells #[.int .i64 t1, .int .i64 t2, .int .i64 t3, .int .i64 t4] 84))
      have G5 := hid (y1.gr.alloc (.cells #[.int .i64 t1, .int .i64 t2, .int .i64 t3, .int .i64 t4] 84))
      obtain ⟨w5, hw5⟩ : ∃ w5, y1.val.alloc (.cells #[.int .i64 t1, .int .i64 t2, .int .i64 t3, .int .i64 t4] 84) = w5 := ⟨_, rfl⟩
      rw [hw5] at HB6 G5 ⊢
      clear hw5
      generalize y1.val.heap.size = n6 at *
      clear y1
      obtain ⟨c0, c1, c2, c3⟩ := cells4 HB6.out
      have l6 := block_lt HB6.out
      clear a0 a1 a2 a3 a4 a5 a6 a7 a8 a9 e0 e1 e2 e3 e4 e5 e6
      obtain ⟨a0, a1, a2, a3, a4, a5, a6, a7, a8, a9⟩ := cells10 ((G5.out.block _ l0).trans Q0.out)
      have l0' := Nat.lt_of_lt_of_le l0 G5.out.size
      have hk5 := (G5.out.block k hkl').trans HPI.out.cell
      have HK5 := hid hk5
      have hkl5 := block_lt hk5
      clear l0 l1 hkl' hk5
      cases hwant : wantedE Ei ⟨t1, t2, t3, t4⟩ with
      | false =>
        rw [hwant] at HW
        go_wp2_with (go_at_call 102; refine (HW.out _ G5.out).mono ?_; rintro en _ ⟨rfl, y2, rfl⟩)
        have G4 := hid (G5.out.trans y2.gr)
        refine (popL_any kd' md' Ei.dec cli Mi _ (HPI.out.d.gr G4.out) (HPI.out.SM _ HPI.out.smd) (fun b e => Nat.lt_of_lt_of_le (HENGI.out.lt.1 b e) G4.out.size) (Nat.le_trans (rowOf_len HEI.out.d cli) (by omega))).mono ?_
        rw [show rowOf Ei.dec cli = ⟨t1, t2, t3, t4⟩ :: r from HROW.out]
        simp only [List.headD_cons, List.isEmpty_cons, Bool.not_false, tkV]
        rintro en w4 ⟨rfl, hl4, hm4⟩
        have HL4 := hid hl4
        have M4 := hid hm4
        have HA4 := hid (show Along w1 (fun b => M b ∨ b = w.heap.size + 1) S w4 Mi Si from HAL.out.trans ⟨(G4.out.mod Si).trans hm4 (fun b _ e => e ▸ HPI.out.smd), fun _ _ e => e, fun _ _ e => e, fun _ e => e⟩)
        go_wp2_with fail
        go_roundg r.length
        case rel =>
          have h5 : EngP (w4.alloc (.cells #[.int .i64 t1, .int .i64 t2, .int .i64 t3, .int .i64 t4] 84)) Mi Si k (popE Ei true cli) kd' ka' md' ma' mr' kh' hv' := ((HPI.out.gr G4.out).setDec M4.out HL4.out).gr ((Gr.refl _).alloc _)
          exact ⟨popE Ei true cli, Mi, Si, rfl, ⟨_, _, _, _, _, _, _, h5⟩, h5.cells.1, (nx_pop (E := Ei) (d := true) (list := cli)).ok HEI.out, HDI.out, by rw [poll_row true cli Ei _ r HEI.out HROW.out, ← pollL_F hwant, ← HROW.out]; exact HPR.out, by rw [poll_row true cli Ei _ r HEI.out HROW.out], HA4.out.gr ((Gr.refl _).alloc _)⟩
        case measure => rw [HROW.out]; simp
      | true =>
        rw [hwant] at HW
        go_wp2_with (go_at_call 102; refine (HW.out _ G5.out).mono ?_; rintro en _ ⟨rfl, y2, rfl⟩)
        have G6 := hid (G5.out.trans y2.gr)
        refine (twin_anyE k Ei Mi Si _ (HENGI.out.gr G6.out) (Nat.le_trans HDI.out (by omega))).mono ?_
        rintro en w7 ⟨M7, S7, k7, rfl, g7, heng7, hMM, hMo, hS7⟩
        have HT := hid (And.intro hMM (And.intro hMo hS7))
        have G7 := hid g7
        have HE7 := hid heng7
        have G57 := hid (y2.gr.trans g7)
        have G07 := hid (G6.out.trans g7)
        obtain ⟨a0, a1, a2, a3, a4, a5, a6, a7, a8, a9⟩ := cells10 ((G07.out.block _ (block_lt Q0.out)).trans Q0.out)
        obtain ⟨c0, c1, c2, c3⟩ := cells4 ((G57.out.block _ l6).trans HB6.out)
        have l7 := Nat.lt_of_lt_of_le l0' G57.out.size
        have l8 := Nat.lt_of_lt_of_le l6 G57.out.size
        clear hMM hMo hS7 g7 heng7
        go_wp2_with fail
        have hup : Up M w M7 w7 := (((⟨G1.out.mod M, fun b hb e => by
          rcases e with e | e
          · exact e
          · omega⟩ : Up M w (fun b => M b ∨ b = w.heap.size + 1) w1).trans (HAL.out.up (fun b e => .inl (HLT.out.2.1 b e)))).gr G6.out).trans ⟨G7.out.mod Mi, HT.out.2.1⟩
        refine (HGIVE.out k7 Ei ⟨t1, t2, t3, t4⟩ M7 S7 w7 HE7.out HEI.out HDI.out (HC.out.up hup) hwant (fun e => by cases e)).mono ?_
        clear hup
        intro en w8 hg
        obtain ⟨g, hgv⟩ : ∃ g, giveE Ei true ⟨t1, t2, t3, t4⟩ = g := ⟨_, rfl⟩
        have hg' : RetG M7 S7 k7 g w7 en w8 := hgv ▸ hg
        have HGV := hid hgv
        clear hgv hg
        cases g with
        | none =>
          obtain ⟨a, A, n, c', rfl, m8⟩ := hg'
          have G8 := hid (gr_newS (w := y2.val) G7.out m8 HT.out.2.2)
          have HA4 := hid (HAL.out.gr (G6.out.trans G8.out))
          clear m8 a0 a1 a2 a3 a4 a5 a6 a7 a8 a9
          have r4 := (HA4.out.mod.block (w.heap.size + 1) (block_lt HB1.out) (nS _ (Nat.le_succ _))).trans HB1.out
          obtain ⟨b0, b1, b2, b3, b4, b5, b6, b7, b8, b9⟩ := cells10 r4
          have l5 := block_lt r4
          obtain ⟨f0, f1, f2, f3, f4, f5, f6, f7, f8, f9⟩ := FZ r4
          clear r4
          have HF := hid (show ∀ w3, Mod (fun x => x = w.heap.size + 1) w8 w3 → RetDo M S k R.1 R.2 w (.returned (ansV ans0 (.slice none 0 0) (.slice none 0 0))) w3 from fun w3 m => by
            have hR0 : R = (ans0, Ei) := by rw [← HPR.out, HROW.out, pollL_N hwant HGV.out]
            have h6 : EngR w8 Mi Si k Ei := HENGI.out.gr (G6.out.trans G8.out)
            rw [hR0]
            have hd : BysM w8 Mi (.slice none 0 0) ans0.data := BysM.none _ _
            have he : RecsM evR w8 Mi (.slice none 0 0) ans0.events := RecsM.none _ _ _
            have hfin := fin_ans (fun b e => HLT.out.1 b (HLT.out.2.1 b e)) G1.out (Nat.le_succ w.heap.size) (block_lt HB1.out) h6 HA4.out hd he m
            exact ⟨.slice none 0 0, .slice none 0 0, Mi, Si, rfl, hfin⟩)
          simp only [ansV, ansC]
          go_wp2_with fail
          refine bodyPost_ret (v := ansV ans0 (.slice none 0 0) (.slice none 0 0)) (by simp [results, Tryz.results62, go_sem, ansV, ansC, ans0, tok0, b0, b1, b2, b3, b4, b5, b6, b7, b8, b9, l5]) rfl ?_
          refine HF.out _ ?_
          exact (mod10 w8 (w.heap.size + 1) _ _ _ _ _ _ _ _ _ _).gr ((Gr.refl _).alloc _)
        | some x =>
          obtain ⟨a, E'⟩ := x
          obtain ⟨dv, M8, S8, rfl, heng8, hal8, hdv⟩ := hg'
          have HAL8 := hid hal8
          have HDV := hid hdv
          have HE8 := hid heng8
          obtain ⟨kd8, ka8, md8, ma8, mr8, kh8, hv8, hP8⟩ := heng8
          have HP8 := hid hP8
          have hk7 : k7 < w8.heap.size := hP8.cells.2.2.2.2.2.2.2
          have hS7k : ¬ S7 k := fun e => by have := HT.out.2.2 k e; have := y2.gr.size; omega
          have hk8 := (hal8.mod.block k (Nat.lt_of_lt_of_le hkl5 G57.out.size) hS7k).trans ((G57.out.block k hkl5).trans HK5.out)
          have HK8 := hid hk8
          have hkl8 := block_lt hk8
          have q8 := (hal8.mod.block w.heap.size (by omega) (fun e => by have := HT.out.2.2 _ e; have := y2.gr.size; omega)).trans ((G07.out.block _ (block_lt Q0.out)).trans Q0.out)
          have Q8 := hid q8
          have l9 := block_lt q8
          obtain ⟨Adv, cdv, rfl⟩ := hdv.shape
          clear hal8 hdv hP8 hk8 q8
          have HR9 := hid (show (a, popE E' true cli) = R from by rw [← HPR.out, HROW.out, pollL_S hwant HGV.out])
          rcases a with ⟨v0, v1, v2, v3, ⟨v4, v5, v6, v7⟩, v8, v9⟩
          simp only [ansV, ansC]
          generalize hv8l : v8.length = v8l at *
          have HV8 := hid hv8l
          clear hv8l
          go_upto_region 10 with fail
          have HB9 := hid (heap_alloc_new w8 (.cells #[.int .i64 v0, .int .i64 v1, .int .i64 v2, .bool v3, .int .i64 v4, .int .i64 v5, .int .i64 v6, .int .i64 v7, .slice Adv v8l cdv, .slice none 0 0] 31))
          have G9 := hid ((Gr.refl w8).alloc (.cells #[.int .i64 v0, .int .i64 v1, .int .i64 v2, .bool v3, .int .i64 v4, .int .i64 v5, .int .i64 v6, .int .i64 v7, .slice Adv v8l cdv, .slice none 0 0] 31))
          obtain ⟨w9, hw9⟩ : ∃ w9, w8.alloc (.cells #[.int .i64 v0, .int .i64 v1, .int .i64 v2, .bool v3, .int .i64 v4, .int .i64 v5, .int .i64 v6, .int .i64 v7, .slice Adv v8l cdv, .slice none 0 0] 31) = w9 := ⟨_, rfl⟩
          rw [hw9] at HB9 G9 ⊢
          clear hw9
          have hk7 : k7 < w9.heap.size := Nat.lt_of_lt_of_le hk7 G9.out.size
          obtain ⟨g0, g1, g2, g3, g4, g5, g6, g7⟩ := (HP8.out.gr G9.out).cells
          have hk9 := (G9.out.block k hkl8).trans HK8.out
          have HK9 := hid hk9
          have hkl9 := block_lt hk9
          have z0 := frozen_of (j := 0) hk9
          have z1 := frozen_of (j := 1) hk9
          have z2 := frozen_of (j := 2) hk9
          have z3 := frozen_of (j := 3) hk9
          have z4 := frozen_of (j := 4) hk9
          have z5 := frozen_of (j := 5) hk9
          have z6 := frozen_of (j := 6) hk9
          obtain ⟨a0, a1, a2, a3, a4, a5, a6, a7, a8, a9⟩ := cells10 ((G9.out.block _ l9).trans Q8.out)
          have l9' := Nat.lt_of_lt_of_le l9 G9.out.size
          obtain ⟨y0, y1, y2, y3, y4, y5, y6⟩ := cells7e hk9
          clear hk9
          go_wp2_with fail
          clear y0 y1 y2 y3 y4 y5 y6
          obtain ⟨w10, hw10, m10, hc10⟩ := set7_heap (a' := .pointer (some ⟨kd8, 0, none⟩)) (b' := .pointer (some ⟨ka8, 0, none⟩)) (c' := .int .i64 E'.shard) (d' := .int .i64 E'.groups) (e' := .int .i64 E'.now) (f' := .map (some mr8)) (g' := .pointer (some ⟨kh8, 0, none⟩)) HK9.out
          rw [hw10]
          clear hw10
          have hkM : M8 k := HAL8.out.mm k (HT.out.1 k (HPI.out.SM k HPI.out.sk))
          have hkS : ¬ S8 k := fun e => by
            have h1 := HAL8.out.s k (Nat.lt_of_lt_of_le hkl5 G57.out.size) e
            have h2 := HT.out.2.2 k h1
            have h3 := y2.gr.size
            omega
          have H10 := hid ((HP8.out.gr G9.out).move m10 hc10 hkM hkS)
          have HAL10 := hid (along_copy HAL.out G6.out G7.out HT.out.1 HT.out.2.1 HT.out.2.2 (HAL8.out.gr G9.out) m10 HPI.out.sk)
          have hE8 : EOk E' := (nx_give HGV.out).ok HEI.out
          have HDV10 := hid (HDV.out.up ((Gr.up G9.out M8).trans (Mod.up m10 (fun _ _ e => e ▸ hkM))))
          have p10 := (m10.block w8.heap.size (block_lt HB9.out) (by show ¬ w8.heap.size = k; omega)).trans HB9.out
          have P10 := hid p10
          clear p10 hc10 hkM hkS a0 a1 a2 a3 a4 a5 a6 a7 a8 a9 g0 g1 g2 g3 g4 g5 g6 g7
          refine (popL_any kd8 md8 E'.dec cli M8 w10 H10.out.d (H10.out.SM _ H10.out.smd) H10.out.lt (Nat.le_trans (rowOf_len hE8.d cli) (by omega))).mono ?_
          rintro en w4 ⟨rfl, hl4, hm4⟩
          have H11 := hid (H10.out.setDec hm4 hl4)
          have HA4 := hid (HAL10.out.trans ⟨hm4.mono (fun b _ e => e ▸ H10.out.smd), fun _ _ e => e, fun _ _ e => e, fun _ e => e⟩)
          have HDV4 := hid (HDV10.out.up (Mod.up hm4 (fun _ _ e => e ▸ H10.out.SM _ H10.out.smd)))
          have mlt : md8 < w8.heap.size := HP8.out.lt _ (HP8.out.SM _ HP8.out.smd)
          have p4 := (hm4.block w8.heap.size (block_lt P10.out) (by show ¬ w8.heap.size = md8; omega)).trans P10.out
          obtain ⟨p0, p1, p2, p3, p4', p5, p6, p7, p8, p9⟩ := cells10 p4
          have lp := block_lt p4
          have r4 := (HA4.out.mod.block (w.heap.size + 1) (block_lt HB1.out) (nS _ (Nat.le_succ _))).trans HB1.out
          obtain ⟨b0, b1, b2, b3, b4, b5, b6, b7, b8, b9⟩ := cells10 r4
          have l5 := block_lt r4
          have q4 := (HA4.out.mod.block w.heap.size (block_lt HB0.out) (nS _ (Nat.le_refl _))).trans HB0.out
          obtain ⟨a0, a1, a2, a3, a4, a5, a6, a7, a8, a9⟩ := cells10 q4
          have lq := block_lt q4
          obtain ⟨f0, f1, f2, f3, f4, f5, f6, f7, f8, f9⟩ := FZ r4
          have HV9 := hid (give_events HGV.out)
          have HF := hid (show ∀ w3, Mod (fun x => x = w.heap.size + 1) w4 w3 → RetDo M S k R.1 R.2 w (.returned (ansV ⟨v0, v1, v2, v3, ⟨v4, v5, v6, v7⟩, v8, v9⟩ (.slice Adv v8l cdv) (.slice none 0 0))) w3 from fun w3 m => by
            rw [← HR9.out]
            have he : RecsM evR w4 M8 (.slice none 0 0) v9 := by
              rw [show v9 = [] from HV9.out]
              exact RecsM.none _ _ _
            have hfin := fin_ans (a := ⟨v0, v1, v2, v3, ⟨v4, v5, v6, v7⟩, v8, v9⟩) (fun b e => HLT.out.1 b (HLT.out.2.1 b e)) G1.out (Nat.le_succ w.heap.size) (block_lt HB1.out) (show EngR w4 M8 _ k (popE E' true cli) from ⟨_, _, _, _, _, _, _, H11.out⟩) HA4.out HDV4.out he m
            exact ⟨.slice Adv v8l cdv, .slice none 0 0, M8, _, rfl, hfin⟩)
          clear p4 r4 q4 hl4 hm4 mlt
          go_wp2_with fail
          refine bodyPost_ret (v := ansV ⟨v0, v1, v2, v3, ⟨v4, v5, v6, v7⟩, v8, v9⟩ (.slice Adv v8l cdv) (.slice none 0 0)) (by simp [results, Tryz.results62, go_sem, ansV, ansC, b0, b1, b2, b3, b4, b5, b6, b7, b8, b9]) rfl ?_
          refine HF.out _ ?_
          exact mod10 w4 (w.heap.size + 1) _ _ _ _ _ _ _ _ _ _
set_option maxHeartbeats 8000000 in
theorem poll_9 (PUT : PutAny) (k : Nat) (E : ES) (c : Call) (d l : Value) (M S : Bl) (w : World) (h : EngR w M S k E) (hE : EOk E) (hdue : E.due.length ≤ 998000) (hc : CallM w M c d l) (hkind : c.kind = 9) :
    Calls Tryz.prog 62 #[.pointer (some ⟨k, 0, none⟩), callV c d l] w (RetDo M S k (pollE E false c.list).1 (pollE E false c.list).2 w) := by
  obtain ⟨Ad, cd, rfl⟩ := hc.1.shape
  obtain ⟨Al, cl, rfl, _⟩ := hc.2.shape
  have HENG := hid h
  have HLT := hid h.lt
  have HC := hid hc
  have HE := hid hE
  have HDUE := hid hdue
  have hks : k < w.heap.size := h.lt.1 k (h.lt.2.1 k h.lt.2.2)
  clear hc hE hdue
  obtain ⟨kd, ka, md, ma, mr, kh, hv, hP⟩ := h
  obtain ⟨e0, e1, e2, e3, e4, e5, e6, hkl⟩ := hP.cells
  clear hP
  obtain ⟨R, hR⟩ : ∃ R, pollE E false c.list = R := ⟨_, rfl⟩
  rw [hR]
  have HR := hid (show pollL false c.list E (rowOf (rowsE E false) c.list) = R from hR)
  clear hR
  rcases c with ⟨ck, cf, cli, cn, ⟨tf, tr, te, tt⟩, cdat, cls⟩
  simp only at hkind
  subst hkind
  have HGIVE := hid (fun k' E' t M' S' W h hE hdue hc hw hta => give_anyE PUT k' E' ⟨9, cf, cli, cn, ⟨tf, tr, te, tt⟩, cdat, cls⟩ (.slice Ad cdat.length cd) (.slice Al cls.length cl) t M' S' W h hE hdue hc hw hta)
  simp only [callV, callC] at *
  generalize cdat.length = dl at *
  generalize cls.length = ll at *
  go_enter Tryz.func62, Tryz.ntmps62
  go_wp2_with fail
  obtain ⟨w1, hw1, g1, hb0, hb1⟩ := alloc2 w (.cells #[.int .i64 9, .int .i64 cf, .int .i64 cli, .int .i64 cn, .int .i64 tf, .int .i64 tr, .int .i64 te, .int .i64 tt, .slice Ad dl cd, .slice Al ll cl] 35) (.cells #[.int .i64 0, .int .i64 0, .int .i64 0, .bool false, .int .i64 0, .int .i64 0, .int .i64 0, .int .i64 0, .slice none 0 0, .slice none 0 0] 31)
  rw [hw1]
  clear hw1
  have HM1 := hid (HENG.out.more g1 (Nat.le_succ _) (block_lt hb1))
  have G1 := hid g1
  have HB0 := hid hb0
  have HB1 := hid hb1
  have hcell : w1.cell? ⟨k, 1, none⟩ = some (.pointer (some ⟨ka, 0, none⟩)) := (g1.cell (p := ⟨k, 1, none⟩) hkl).trans e1
  have HCELL := hid hcell
  clear hcell g1 hb0 hb1 e0 e1 e2 e3 e4 e5 e6
  go_loopg [5] (rowOf (rowsE E false) cli).length (fun g rv wr => ∃ (Ei : ES) (Mi Si : Bl), rv = .pointer (some ⟨ka, 0, none⟩) ∧ EngR wr Mi Si k Ei ∧ wr.cell? ⟨k, 1, none⟩ = some (.pointer (some ⟨ka, 0, none⟩)) ∧ EOk Ei ∧ Ei.due.length ≤ 998000 ∧ pollL false cli Ei (rowOf (rowsE Ei false) cli) = R ∧ g = (rowOf (rowsE Ei false) cli).length ∧ Along w1 (fun b => M b ∨ b = w.heap.size + 1) S wr Mi Si)
  case atStart => exact ⟨E, _, S, rfl, HM1.out, HCELL.out, HE.out, HDUE.out, HR.out, rfl, Along.refl _ _ _⟩
  case round =>
    obtain ⟨Ei, Mi, Si, rfl, heng, hcell, hEi, hdi, hR, rfl, hal⟩ := hrel
    have HENGI := hid heng
    have HAL := hid hal
    have HEI := hid hEi
    have HDI := hid hdi
    have HPR := hid hR
    have nS : ∀ b, w.heap.size ≤ b → ¬ S b := fun b hb e => by have := HLT.out.1 b (HLT.out.2.1 b e); omega
    have q0 := (hal.mod.block w.heap.size (block_lt HB0.out) (nS _ (Nat.le_refl _))).trans HB0.out
    have q1 := (hal.mod.block (w.heap.size + 1) (block_lt HB1.out) (nS _ (Nat.le_succ _))).trans HB1.out
    have Q0 := hid q0
    have Q1 := hid q1
    obtain ⟨a0, a1, a2, a3, a4, a5, a6, a7, a8, a9⟩ := cells10 q0
    have l0 := block_lt q0
    have l1 := block_lt q1
    obtain ⟨kd', ka', md', ma', mr', kh', hv', hPi⟩ := heng
    have hkk : ka' = ka := by
      have := hPi.cells.2.1
      rw [hcell] at this
      injection this with this
      injection this with this
      injection this with this
      injection this with this _
      exact this.symm
    subst hkk
    have HPI := hid hPi
    obtain ⟨e0, e1, e2, e3, e4, e5, e6, hkl'⟩ := hPi.cells
    clear hal hEi hdi hR hPi hcell q0 q1
    cases hrow : rowOf (rowsE Ei false) cli with
    | nil =>
      have HPEEK := hid (fun W (g : Gr wr W) => (show Calls Tryz.prog 101 #[.pointer (some ⟨ka', 0, none⟩), .int .i64 cli] W (RetE (.tuple #[.agg #[.int .i64 0, .int .i64 0, .int .i64 0, .int .i64 0], .bool false]) W) from by
        have := peekL_any ka' ma' Ei.act cli Mi W (HPI.out.a.gr g)
        rw [show rowOf Ei.act cli = [] from hrow] at this
        exact this))
      go_wp2_with (go_at_call 101; refine (HPEEK.out _ (Gr.refl _)).mono ?_; rintro en _ ⟨rfl, y1, rfl⟩)
      have G4 := hid (y1.gr.alloc (.cells #[.int .i64 0, .int .i64 0, .int .i64 0, .int .i64 0] 84))
      refine (popL_any ka' ma' Ei.act cli Mi _ (HPI.out.a.gr G4.out) (HPI.out.SM _ HPI.out.sma) (fun b e => Nat.lt_of_lt_of_le (HENGI.out.lt.1 b e) G4.out.size) (Nat.le_trans (rowOf_len HEI.out.a.toROk cli) (by omega))).mono ?_
      rw [show rowOf Ei.act cli = [] from hrow]
      simp only [List.headD_nil, List.isEmpty_nil, Bool.not_true, tkV, tk0]
      rintro en w4 ⟨rfl, hl4, hm4⟩
      have HL4 := hid hl4
      have M4 := hid hm4
      have HA4 := hid (show Along w1 (fun b => M b ∨ b = w.heap.size + 1) S w4 Mi Si from HAL.out.trans ⟨(G4.out.mod Si).trans hm4 (fun b _ e => e ▸ HPI.out.sma), fun _ _ e => e, fun _ _ e => e, fun _ e => e⟩)
      have q4 := (HA4.out.mod.block w.heap.size (block_lt HB0.out) (nS _ (Nat.le_refl _))).trans HB0.out
      have r4 := (HA4.out.mod.block (w.heap.size + 1) (block_lt HB1.out) (nS _ (Nat.le_succ _))).trans HB1.out
      obtain ⟨a0, a1, a2, a3, a4, a5, a6, a7, a8, a9⟩ := cells10 q4
      obtain ⟨b0, b1, b2, b3, b4, b5, b6, b7, b8, b9⟩ := cells10 r4
      have l4 := block_lt q4
      have l5 := block_lt r4
      obtain ⟨f0, f1, f2, f3, f4, f5, f6, f7, f8, f9⟩ := FZ r4
      clear q4 r4
      have HF := hid (show ∀ w3, Mod (fun x => x = w.heap.size + 1) w4 w3 → RetDo M S k R.1 R.2 w (.returned (ansV ans0 (.slice none 0 0) (.slice none 0 0))) w3 from fun w3 m => by
        have hR0 : R = (ans0, Ei) := by rw [← HPR.out, hrow]; rfl
        have hp : popR Ei.act cli = Ei.act := by unfold popR; rw [show rowOf Ei.act cli = [] from hrow]
        have h5 := (HPI.out.gr G4.out).setAct M4.out (hp ▸ HL4.out)
        have h6 : EngR w4 Mi Si k Ei := ⟨_, _, _, _, _, _, _, h5⟩
        rw [hR0]
        have hd : BysM w4 Mi (.slice none 0 0) ans0.data := BysM.none _ _
        have he : RecsM evR w4 Mi (.slice none 0 0) ans0.events := RecsM.none _ _ _
        have hfin := fin_ans (fun b e => HLT.out.1 b (HLT.out.2.1 b e)) G1.out (Nat.le_succ w.heap.size) (block_lt HB1.out) h6 HA4.out hd he m
        exact ⟨.slice none 0 0, .slice none 0 0, Mi, Si, rfl, hfin⟩)
      go_wp2_with fail
      refine bodyPost_ret (v := ansV ans0 (.slice none 0 0) (.slice none 0 0)) (by simp [results, Tryz.results62, go_sem, ansV, ansC, ans0, tok0, b0, b1, b2, b3, b4, b5, b6, b7, b8, b9, l5]) rfl ?_
      refine HF.out _ ?_
      exact (mod10 w4 (w.heap.size + 1) _ _ _ _ _ _ _ _ _ _).gr ((Gr.refl _).alloc _)
    | cons t r =>
      obtain ⟨t1, t2, t3, t4⟩ := t
      have HROW := hid hrow
      have HPEEK := hid (fun W (g : Gr wr W) => (show Calls Tryz.prog 101 #[.pointer (some ⟨ka', 0, none⟩), .int .i64 cli] W (RetE (.tuple #[.agg #[.int .i64 t1, .int .i64 t2, .int .i64 t3, .int .i64 t4], .bool true]) W) from by
        have := peekL_any ka' ma' Ei.act cli Mi W (HPI.out.a.gr g)
        rw [show rowOf Ei.act cli = ⟨t1, t2, t3, t4⟩ :: r from hrow] at this
        exact this))
      have HW := hid (fun W (g : Gr wr W) => wanted_any k Ei ⟨t1, t2, t3, t4⟩ Mi Si W (HENGI.out.gr g))
      simp only [tkV] at HW
      go_upto_region 5 with (go_at_call 101; refine (HPEEK.out _ (Gr.refl _)).mono ?_; rintro en _ ⟨rfl, y1, rfl⟩)
      have HB6 := hid (heap_alloc_new y1.val (.cells #[.int .i64 t1, .int .i64 t2, .int .i64 t3, .int .i64 t4] 84))
      have G5 := hid (y1.gr.alloc (.cells #[.int .i64 t1, .int .i64 t2, .int .i64 t3, .int .i64 t4] 84))
      obtain ⟨w5, hw5⟩ : ∃ w5, y1.val.alloc (.cells #[.int .i64 t1, .int .i64 t2, .int .i64 t3, .int .i64 t4] 84) = w5 := ⟨_, rfl⟩
      rw [hw5] at HB6 G5 ⊢
      clear hw5
      generalize y1.val.heap.size = n6 at *
      clear y1
      obtain ⟨c0, c1, c2, c3⟩ := cells4 HB6.out
      have l6 := block_lt HB6.out
      clear a0 a1 a2 a3 a4 a5 a6 a7 a8 a9 e0 e1 e2 e3 e4 e5 e6
      obtain ⟨a0, a1, a2, a3, a4, a5, a6, a7, a8, a9⟩ := cells10 ((G5.out.block _ l0).trans Q0.out)
      have l0' := Nat.lt_of_lt_of_le l0 G5.out.size
      have hk5 := (G5.out.block k hkl').trans HPI.out.cell
      have HK5 := hid hk5
      have hkl5 := block_lt hk5
      clear l0 l1 hkl' hk5
      cases hwant : wantedE Ei ⟨t1, t2, t3, t4⟩ with
      | false =>
        rw [hwant] at HW
        go_wp2_with (go_at_call 102; refine (HW.out _ G5.out).mono ?_; rintro en _ ⟨rfl, y2, rfl⟩)
        have G4 := hid (G5.out.trans y2.gr)
        refine (popL_any ka' ma' Ei.act cli Mi _ (HPI.out.a.gr G4.out) (HPI.out.SM _ HPI.out.sma) (fun b e => Nat.lt_of_lt_of_le (HENGI.out.lt.1 b e) G4.out.size) (Nat.le_trans (rowOf_len HEI.out.a.toROk cli) (by omega))).mono ?_
        rw [show rowOf Ei.act cli = ⟨t1, t2, t3, t4⟩ :: r from HROW.out]
        simp only [List.headD_cons, List.isEmpty_cons, Bool.not_false, tkV]
        rintro en w4 ⟨rfl, hl4, hm4⟩
        have HL4 := hid hl4
        have M4 := hid hm4
        have HA4 := hid (show Along w1 (fun b => M b ∨ b = w.heap.size + 1) S w4 Mi Si from HAL.out.trans ⟨(G4.out.mod Si).trans hm4 (fun b _ e => e ▸ HPI.out.sma), fun _ _ e => e, fun _ _ e => e, fun _ e => e⟩)
        go_wp2_with fail
        go_roundg r.length
        case rel =>
          have h5 : EngP (w4.alloc (.cells #[.int .i64 t1, .int .i64 t2, .int .i64 t3, .int .i64 t4] 84)) Mi Si k (popE Ei false cli) kd' ka' md' ma' mr' kh' hv' := ((HPI.out.gr G4.out).setAct M4.out HL4.out).gr ((Gr.refl _).alloc _)
          exact ⟨popE Ei false cli, Mi, Si, rfl, ⟨_, _, _, _, _, _, _, h5⟩, h5.cells.2.1, (nx_pop (E := Ei) (d := false) (list := cli)).ok HEI.out, HDI.out, by rw [poll_row false cli Ei _ r HEI.out HROW.out, ← pollL_F hwant, ← HROW.out]; exact HPR.out, by rw [poll_row false cli Ei _ r HEI.out HROW.out], HA4.out.gr ((Gr.refl _).alloc _)⟩
        case measure => rw [HROW.out]; simp
      | true =>
        rw [hwant] at HW
        go_wp2_with (go_at_call 102; refine (HW.out _ G5.out).mono ?_; rintro en _ ⟨rfl, y2, rfl⟩)
        have G6 := hid (G5.out.trans y2.gr)
        refine (twin_anyE k Ei Mi Si _ (HENGI.out.gr G6.out) (Nat.le_trans HDI.out (by omega))).mono ?_
        rintro en w7 ⟨M7, S7, k7, rfl, g7, heng7, hMM, hMo, hS7⟩
        have HT := hid (And.intro hMM (And.intro hMo hS7))
        have G7 := hid g7
        have HE7 := hid heng7
        have G57 := hid (y2.gr.trans g7)
        have G07 := hid (G6.out.trans g7)
        obtain ⟨a0, a1, a2, a3, a4, a5, a6, a7, a8, a9⟩ := cells10 ((G07.out.block _ (block_lt Q0.out)).trans Q0.out)
        obtain ⟨c0, c1, c2, c3⟩ := cells4 ((G57.out.block _ l6).trans HB6.out)
        have l7 := Nat.lt_of_lt_of_le l0' G57.out.size
        have l8 := Nat.lt_of_lt_of_le l6 G57.out.size
        clear hMM hMo hS7 g7 heng7
        go_wp2_with fail
        have hup : Up M w M7 w7 := (((⟨G1.out.mod M, fun b hb e => by
          rcases e with e | e
          · exact e
          · omega⟩ : Up M w (fun b => M b ∨ b = w.heap.size + 1) w1).trans (HAL.out.up (fun b e => .inl (HLT.out.2.1 b e)))).gr G6.out).trans ⟨G7.out.mod Mi, HT.out.2.1⟩
        refine (HGIVE.out k7 Ei ⟨t1, t2, t3, t4⟩ M7 S7 w7 HE7.out HEI.out HDI.out (HC.out.up hup) hwant (fun _ => HEI.out.a.row cli _ (by rw [show rowOf Ei.act cli = _ from HROW.out]; exact List.mem_cons_self ..))).mono ?_
        clear hup
        intro en w8 hg
        obtain ⟨g, hgv⟩ : ∃ g, giveE Ei false ⟨t1, t2, t3, t4⟩ = g := ⟨_, rfl⟩
        have hg' : RetG M7 S7 k7 g w7 en w8 := hgv ▸ hg
        have HGV := hid hgv
        clear hgv hg
        cases g with
        | none =>
          obtain ⟨a, A, n, c', rfl, m8⟩ := hg'
          have G8 := hid (gr_newS (w := y2.val) G7.out m8 HT.out.2.2)
          have HA4 := hid (HAL.out.gr (G6.out.trans G8.out))
          clear m8 a0 a1 a2 a3 a4 a5 a6 a7 a8 a9
          have r4 := (HA4.out.mod.block (w.heap.size + 1) (block_lt HB1.out) (nS _ (Nat.le_succ _))).trans HB1.out
          obtain ⟨b0, b1, b2, b3, b4, b5, b6, b7, b8, b9⟩ := cells10 r4
          have l5 := block_lt r4
          obtain ⟨f0, f1, f2, f3, f4, f5, f6, f7, f8, f9⟩ := FZ r4
          clear r4
          have HF := hid (show ∀ w3, Mod (fun x => x = w.heap.size + 1) w8 w3 → RetDo M S k R.1 R.2 w (.returned (ansV ans0 (.slice none 0 0) (.slice none 0 0))) w3 from fun w3 m => by
            have hR0 : R = (ans0, Ei) := by rw [← HPR.out, HROW.out, pollL_N hwant HGV.out]
            have h6 : EngR w8 Mi Si k Ei := HENGI.out.gr (G6.out.trans G8.out)
            rw [hR0]
            have hd : BysM w8 Mi (.slice none 0 0) ans0.data := BysM.none _ _
            have he : RecsM evR w8 Mi (.slice none 0 0) ans0.events := RecsM.none _ _ _
            have hfin := fin_ans (fun b e => HLT.out.1 b (HLT.out.2.1 b e)) G1.out (Nat.le_succ w.heap.size) (block_lt HB1.out) h6 HA4.out hd he m
            exact ⟨.slice none 0 0, .slice none 0 0, Mi, Si, rfl, hfin⟩)
          simp only [ansV, ansC]
          go_wp2_with fail
          refine bodyPost_ret (v := ansV ans0 (.slice none 0 0) (.slice none 0 0)) (by simp [results, Tryz.results62, go_sem, ansV, ansC, ans0, tok0, b0, b1, b2, b3, b4, b5, b6, b7, b8, b9, l5]) rfl ?_
          refine HF.out _ ?_
          exact (mod10 w8 (w.heap.size + 1) _ _ _ _ _ _ _ _ _ _).gr ((Gr.refl _).alloc _)
        | some x =>
          obtain ⟨a, E'⟩ := x
          obtain ⟨dv, M8, S8, rfl, heng8, hal8, hdv⟩ := hg'
          have HAL8 := hid hal8
          have HDV := hid hdv
          have HE8 := hid heng8
          obtain ⟨kd8, ka8, md8, ma8, mr8, kh8, hv8, hP8⟩ := heng8
          have HP8 := hid hP8
          have hk7 : k7 < w8.heap.size := hP8.cells.2.2.2.2.2.2.2
          have hS7k : ¬ S7 k := fun e => by have := HT.out.2.2 k e; have := y2.gr.size; omega
          have hk8 := (hal8.mod.block k (Nat.lt_of_lt_of_le hkl5 G57.out.size) hS7k).trans ((G57.out.block k hkl5).trans HK5.out)
          have HK8 := hid hk8
          have hkl8 := block_lt hk8
          have q8 := (hal8.mod.block w.heap.size (by omega) (fun e => by have := HT.out.2.2 _ e; have := y2.gr.size; omega)).trans ((G07.out.block _ (block_lt Q0.out)).trans Q0.out)
          have Q8 := hid q8
          have l9 := block_lt q8
          obtain ⟨Adv, cdv, rfl⟩ := hdv.shape
          clear hal8 hdv hP8 hk8 q8
          have HR9 := hid (show (a, popE E' false cli) = R from by rw [← HPR.out, HROW.out, pollL_S hwant HGV.out])
          rcases a with ⟨v0, v1, v2, v3, ⟨v4, v5, v6, v7⟩, v8, v9⟩
          simp only [ansV, ansC]
          generalize hv8l : v8.length = v8l at *
          have HV8 := hid hv8l
          clear hv8l
          go_upto_region 10 with fail
          have HB9 := hid (heap_alloc_new w8 (.cells #[.int .i64 v0, .int .i64 v1, .int .i64 v2, .bool v3, .int .i64 v4, .int .i64 v5, .int .i64 v6, .int .i64 v7, .slice Adv v8l cdv, .slice none 0 0] 31))
          have G9 := hid ((Gr.refl w8).alloc (.cells #[.int .i64 v0, .int .i64 v1, .int .i64 v2, .bool v3, .int .i64 v4, .int .i64 v5, .int .i64 v6, .int .i64 v7, .slice Adv v8l cdv, .slice none 0 0] 31))
          obtain ⟨w9, hw9⟩ : ∃ w9, w8.alloc (.cells #[.int .i64 v0, .int .i64 v1, .int .i64 v2, .bool v3, .int .i64 v4, .int .i64 v5, .int .i64 v6, .int .i64 v7, .slice Adv v8l cdv, .slice none 0 0] 31) = w9 := ⟨_, rfl⟩
          rw [hw9] at HB9 G9 ⊢
          clear hw9
          have hk7 : k7 < w9.heap.size := Nat.lt_of_lt_of_le hk7 G9.out.size
          obtain ⟨g0, g1, g2, g3, g4, g5, g6, g7⟩ := (HP8.out.gr G9.out).cells
          have hk9 := (G9.out.block k hkl8).trans HK8.out
          have HK9 := hid hk9
          have hkl9 := block_lt hk9
          have z0 := frozen_of (j := 0) hk9
          have z1 := frozen_of (j := 1) hk9
          have z2 := frozen_of (j := 2) hk9
          have z3 := frozen_of (j := 3) hk9
          have z4 := frozen_of (j := 4) hk9
          have z5 := frozen_of (j := 5) hk9
          have z6 := frozen_of (j := 6) hk9
          obtain ⟨a0, a1, a2, a3, a4, a5, a6, a7, a8, a9⟩ := cells10 ((G9.out.block _ l9).trans Q8.out)
          have l9' := Nat.lt_of_lt_of_le l9 G9.out.size
          obtain ⟨y0, y1, y2, y3, y4, y5, y6⟩ := cells7e hk9
          clear hk9
          go_wp2_with fail
          clear y0 y1 y2 y3 y4 y5 y6
          obtain ⟨w10, hw10, m10, hc10⟩ := set7_heap (a' := .pointer (some ⟨kd8, 0, none⟩)) (b' := .pointer (some ⟨ka8, 0, none⟩)) (c' := .int .i64 E'.shard) (d' := .int .i64 E'.groups) (e' := .int .i64 E'.now) (f' := .map (some mr8)) (g' := .pointer (some ⟨kh8, 0, none⟩)) HK9.out
          rw [hw10]
          clear hw10
          have hkM : M8 k := HAL8.out.mm k (HT.out.1 k (HPI.out.SM k HPI.out.sk))
          have hkS : ¬ S8 k := fun e => by
            have h1 := HAL8.out.s k (Nat.lt_of_lt_of_le hkl5 G57.out.size) e
            have h2 := HT.out.2.2 k h1
            have h3 := y2.gr.size
            omega
          have H10 := hid ((HP8.out.gr G9.out).move m10 hc10 hkM hkS)
          have HAL10 := hid (along_copy HAL.out G6.out G7.out HT.out.1 HT.out.2.1 HT.out.2.2 (HAL8.out.gr G9.out) m10 HPI.out.sk)
          have hE8 : EOk E' := (nx_give HGV.out).ok HEI.out
          have HDV10 := hid (HDV.out.up ((Gr.up G9.out M8).trans (Mod.up m10 (fun _ _ e => e ▸ hkM))))
          have p10 := (m10.block w8.heap.size (block_lt HB9.out) (by show ¬ w8.heap.size = k; omega)).trans HB9.out
          have P10 := hid p10
          clear p10 hc10 hkM hkS a0 a1 a2 a3 a4 a5 a6 a7 a8 a9 g0 g1 g2 g3 g4 g5 g6 g7
          refine (popL_any ka8 ma8 E'.act cli M8 w10 H10.out.a (H10.out.SM _ H10.out.sma) H10.out.lt (Nat.le_trans (rowOf_len hE8.a.toROk cli) (by omega))).mono ?_
          rintro en w4 ⟨rfl, hl4, hm4⟩
          have H11 := hid (H10.out.setAct hm4 hl4)
          have HA4 := hid (HAL10.out.trans ⟨hm4.mono (fun b _ e => e ▸ H10.out.sma), fun _ _ e => e, fun _ _ e => e, fun _ e => e⟩)
          have HDV4 := hid (HDV10.out.up (Mod.up hm4 (fun _ _ e => e ▸ H10.out.SM _ H10.out.sma)))
          have mlt : ma8 < w8.heap.size := HP8.out.lt _ (HP8.out.SM _ HP8.out.sma)
          have p4 := (hm4.block w8.heap.size (block_lt P10.out) (by show ¬ w8.heap.size = ma8; omega)).trans P10.out
          obtain ⟨p0, p1, p2, p3, p4', p5, p6, p7, p8, p9⟩ := cells10 p4
          have lp := block_lt p4
          have r4 := (HA4.out.mod.block (w.heap.size + 1) (block_lt HB1.out) (nS _ (Nat.le_succ _))).trans HB1.out
          obtain ⟨b0, b1, b2, b3, b4, b5, b6, b7, b8, b9⟩ := cells10 r4
          have l5 := block_lt r4
          have q4 := (HA4.out.mod.block w.heap.size (block_lt HB0.out) (nS _ (Nat.le_refl _))).trans HB0.out
          obtain ⟨a0, a1, a2, a3, a4, a5, a6, a7, a8, a9⟩ := cells10 q4
          have lq := block_lt q4
          obtain ⟨f0, f1, f2, f3, f4, f5, f6, f7, f8, f9⟩ := FZ r4
          have HV9 := hid (give_events HGV.out)
          have HF := hid (show ∀ w3, Mod (fun x => x = w.heap.size + 1) w4 w3 → RetDo M S k R.1 R.2 w (.returned (ansV ⟨v0, v1, v2, v3, ⟨v4, v5, v6, v7⟩, v8, v9⟩ (.slice Adv v8l cdv) (.slice none 0 0))) w3 from fun w3 m => by
            rw [← HR9.out]
            have he : RecsM evR w4 M8 (.slice none 0 0) v9 := by
              rw [show v9 = [] from HV9.out]
              exact RecsM.none _ _ _
            have hfin := fin_ans (a := ⟨v0, v1, v2, v3, ⟨v4, v5, v6, v7⟩, v8, v9⟩) (fun b e => HLT.out.1 b (HLT.out.2.1 b e)) G1.out (Nat.le_succ w.heap.size) (block_lt HB1.out) (show EngR w4 M8 _ k (popE E' false cli) from ⟨_, _, _, _, _, _, _, H11.out⟩) HA4.out HDV4.out he m
            exact ⟨.slice Adv v8l cdv, .slice none 0 0, M8, _, rfl, hfin⟩)
          clear p4 r4 q4 hl4 hm4 mlt
          go_wp2_with fail
          refine bodyPost_ret (v := ansV ⟨v0, v1, v2, v3, ⟨v4, v5, v6, v7⟩, v8, v9⟩ (.slice Adv v8l cdv) (.slice none 0 0)) (by simp [results, Tryz.results62, go_sem, ansV, ansC, b0, b1, b2, b3, b4, b5, b6, b7, b8, b9]) rfl ?_
          refine HF.out _ ?_
          exact mod10 w4 (w.heap.size + 1) _ _ _ _ _ _ _ _ _ _
end Go.Proofs.YtniknicnnaiilaaGreat
end
