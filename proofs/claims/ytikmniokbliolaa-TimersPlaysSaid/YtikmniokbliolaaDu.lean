import Derived.Test.YtikmniokbliolaaU
import Derived.Test.YtikmniokbliolaaL1
namespace Go.Proofs.Ytikmniokbliolaa
open Go.RowKit Go.Ext Go.BigFrame Go.Maps
attribute [local go_sem] Ext.cell Ext.frozen Ext.lt Ext.le s1 s2 s3 s4 s5 s6 t1 t2 t3 t4 t5 t6
attribute [local go_sem ↓] Go.wp_at_zero Go.wp_at_succ

/-- A heap and a map in one memory. -/
theorem MI.ne {base g b n N : Nat} {w : World} {v : Value} {L : List It} {S : It → Bool} (h : MI w b n S N) (hh : HB base w g v L) : ¬ (b = g ∨ some b = v.ownBlock) := by
  obtain ⟨es, c, hm⟩ := h.isMap
  rintro (rfl | e)
  · rw [hh.cell] at hm; cases hm
  · rcases hh.row.2 with ⟨rfl, _⟩ | ⟨g', cap, cur, rfl, _, h2, _⟩
    · simp [Value.ownBlock] at e
    · simp [Value.ownBlock] at e; subst e; rw [h2] at hm; cases hm
theorem MI.act {base g b n N : Nat} {w w' : World} {v r : Value} {L L' : List It} {e : Ending} {S : It → Bool} (h : MI w b n S N) (hh : HB base w g v L) (a : RetH base g v L' r w e w') : MI w' b n S N := by
  obtain ⟨_, _, _, m, _⟩ := a
  exact h.keep (m.block b h.lt (h.ne hh))
theorem HB.turn {base g b n N : Nat} {w w' : World} {v : Value} {L : List It} {S : It → Bool} (hh : HB base w g v L) (h : MI w b n S N) (hg : w.grownBy w' (some b)) : HB base w' g v L :=
  hh.mod (S := fun k => some k = some b) ⟨hg.os, hg.tape, hg.output, hg.size, fun k hk hn => hg.block k hk hn⟩ (fun e => by injection e with e; exact h.ne hh (.inl e.symm)) (fun k e e2 => by injection e2 with e2; exact h.ne hh (.inr (by rw [← e2, e])))

theorem set6_heap {w : World} {B : Nat} {t : TypeId} {u0 u1 u2 u3 u4 u5 : Value} (h : w.heap[B]? = some (.cells #[u0, u1, u2, u3, u4, u5] t (0, 0))) (v0 v1 v2 v3 v4 v5 : Value) :
    ((((((w.setCell ⟨B, 0, none⟩ v0).setCell ⟨B, 1, none⟩ v1).setCell ⟨B, 2, none⟩ v2).setCell ⟨B, 3, none⟩ v3).setCell ⟨B, 4, none⟩ v4).setCell ⟨B, 5, none⟩ v5).heap[B]? = some (.cells #[v0, v1, v2, v3, v4, v5] t (0, 0)) := by
  have step : ∀ (w : World) (cs : Array Value) (j : Nat) (v : Value), w.heap[B]? = some (.cells cs t (0, 0)) → (w.setCell ⟨B, j, none⟩ v).heap[B]? = some (.cells (cs.setIfInBounds j v) t (0, 0)) := fun w cs j v hw => by
    rw [setCell_eq_setRow w B j cs t (0, 0) v hw]
    exact setRow_heap w B _ _ t _ hw
  have h0 := step _ _ 0 v0 h
  have h1 := step _ _ 1 v1 h0
  have h2 := step _ _ 2 v2 h1
  have h3 := step _ _ 3 v3 h2
  have h4 := step _ _ 4 v4 h3
  have h5 := step _ _ 5 v5 h4
  simpa using h5

set_option maxHeartbeats 2000000 in
/-- The law TimersDue. -/
theorem due_any (A : Option Addr) (c : Nat) (now : Int) (L0 : List It) (w : World) (hr : Row w A L0) (hok : ∀ x ∈ L0, ItOk x) (hl : L0.length ≤ 4398046511103) :
    Calls Try.prog 4 #[.slice A L0.length c, .int .i64 now] w (RetE (.bool true) w) := by
  refine retE ?_
  have HR := hid hr
  have HOK := hid hok
  clear hr hok
  by_cases hlen : 250 < L0.length
  · have hle : (250 : Int) < (L0.length : Int) := by omega
    go_enter Try.func4, Try.ntmps4
    go_wp2_with (go_at_call 8; refine (known_any _).mono ?_; rintro e _ ⟨rfl, y1, rfl⟩)
    go_ret
    exact ⟨rfl, y1.gr⟩
  have hle : ¬ (250 : Int) < (L0.length : Int) := by omega
  have hmm := @run_makeMap Try.prog
  go_enter Try.func4, Try.ntmps4
  go_wp2_with (first
    | (go_at_call 8; refine (known_any _).mono ?_; rintro e _ ⟨rfl, y1, rfl⟩)
    | (go_at_call 11; refine (new_any w.heap.size _ y1.gr.size).mono ?_; rintro e w2 ⟨rfl, h2, g2⟩; have H2 := hid h2; have G2 := hid (y1.gr.trans g2); have hlt2 := h2.lt; clear h2 g2))
  have HM0 := hid (MI.made w2)
  generalize hg0 : y1.val.heap.size = g at *
  generalize hmb : w2.heap.size = mb at *
  go_loopw [7, 8] (fun du i wr => ∃ (k : Nat) (L : List It) (v : Value), k ≤ L0.length ∧ i = .int .i64 k ∧ du = .int .i64 (dueN L now) ∧ Gr w wr ∧ HB w.heap.size wr g v L ∧ Srt L ∧ MI wr mb k (has L) L.length ∧ L.length ≤ k ∧ (∀ x ∈ L, ItOk x)) (fun _ i _ => L0.length - (intOf i).toNat)
  case atStart => exact ⟨0, [], _, Nat.zero_le _, rfl, rfl, G2.out.alloc _, H2.out.gr ((Gr.refl _).alloc _), srt_nil, HM0.out, Nat.le_refl _, fun x hx => by simp at hx⟩
  case round =>
    obtain ⟨k, L, v, hk, rfl, rfl, hg, hH, hS, hM, hLk, hLo⟩ := hrel
    have HG := hid hg
    have HH := hid hH
    have HS := hid hS
    have HM := hid hM
    have HLo := hid hLo
    clear hg hH hS hM hLo
    by_cases hlt : k < L0.length
    · obtain ⟨bb, off, rfl, hbw, c0, c1, c2, c3, c4, c5⟩ := HR.out.at_ hlt
      have hxo := HOK.out (L0.getD k z0) (by simp [List.getD, hlt])
      obtain ⟨⟨a, b, c', d, e, f⟩, hy⟩ : ∃ y, L0.getD k z0 = y := ⟨_, rfl⟩
      rw [hy] at c0 c1 c2 c3 c4 c5 hxo
      simp only at c0 c1 c2 c3 c4 c5
      clear hy
      rw [← HG.out.cell (show (⟨bb, off + k * 6, none⟩ : Addr).block < w.heap.size from hbw)] at c0
      rw [← HG.out.cell (show (⟨bb, off + k * 6 + 1, none⟩ : Addr).block < w.heap.size from hbw)] at c1
      rw [← HG.out.cell (show (⟨bb, off + k * 6 + 2, none⟩ : Addr).block < w.heap.size from hbw)] at c2
      rw [← HG.out.cell (show (⟨bb, off + k * 6 + 3, none⟩ : Addr).block < w.heap.size from hbw)] at c3
      rw [← HG.out.cell (show (⟨bb, off + k * 6 + 4, none⟩ : Addr).block < w.heap.size from hbw)] at c4
      rw [← HG.out.cell (show (⟨bb, off + k * 6 + 5, none⟩ : Addr).block < w.heap.size from hbw)] at c5
      have HX := hid hxo
      clear hxo
      have hw0 := HG.out.size
      have hdn := dueN_le L now
      have hmb0 : w.heap.size ≤ mb := by rw [← hmb]; exact G2.out.size
      have hbr : bb < wr.heap.size := by omega
      have HADD := hid (fun W (g1 : Gr wr W) => add_any w.heap.size g v L (a, b, c', d, e, f) W (HH.out.gr g1) HS.out (by omega) (Nat.le_trans hw0 g1.size))
      simp only [iv] at HADD
      have hlk := HM.out.look HX.out
      cases hres : has L (a, b, c', d, e, f)
      · rw [hres] at hlk HADD
        simp only [iv] at hlk
        have lookD : (Instr.lookup 30 (.map (some mb)) (.agg #[.int .i64 a, .int .i64 b, .int .i64 c', .int .i64 d, .int .i64 e, .int .i64 f]) false).run Try.prog wr.drew = .ok (.bool false) wr.drew := by
          have := (HM.out.gr (Gr.refl wr).drew).look HX.out
          rw [hres] at this
          exact this
        have HRES := hid hres
        have hii : ins L (a, b, c', d, e, f) = addF L (a, b, c', d, e, f) := by unfold addF; rw [hres, if_neg Bool.false_ne_true]
        clear hres
        have HII := hid hii
        clear hii
        go_wp2_with fail
        go_region_held3 (fun w' => w'.cell? ⟨bb, off + k * 6, none⟩ = some (.int .i64 a) ∧ w'.cell? ⟨bb, off + k * 6 + 1, none⟩ = some (.int .i64 b) ∧ w'.cell? ⟨bb, off + k * 6 + 2, none⟩ = some (.int .i64 c') ∧ w'.cell? ⟨bb, off + k * 6 + 3, none⟩ = some (.int .i64 d) ∧ w'.cell? ⟨bb, off + k * 6 + 4, none⟩ = some (.int .i64 e) ∧ w'.cell? ⟨bb, off + k * 6 + 5, none⟩ = some (.int .i64 f) ∧ (Instr.lookup 30 (.map (some mb)) (.agg #[.int .i64 a, .int .i64 b, .int .i64 c', .int .i64 d, .int .i64 e, .int .i64 f]) false).run Try.prog w' = .ok (.bool false) w')
          (first | go_keep | (refine ⟨?_, ?_, ?_, ?_, ?_, ?_, ?_⟩ <;> first | (go_simp; done) | exact lookD) | exact ⟨(hcell4 _ rfl).trans c0, (hcell4 _ rfl).trans c1, (hcell4 _ rfl).trans c2, (hcell4 _ rfl).trans c3, (hcell4 _ rfl).trans c4, (hcell4 _ rfl).trans c5, look4⟩)
          (first
            | (go_at_call 12
               refine (HADD.out _ (Gr.refl _).drew).mono ?_
               intro en w4 h4
               have HA4 := hid h4
               obtain ⟨v4, rfl, h4b, m4, _⟩ := h4
               have H4 := hid h4b
               have M4 := hid (MI.act (HM.out.gr (Gr.refl _).drew) (HH.out.gr (Gr.refl _).drew) HA4.out)
               obtain ⟨_, _, _, g4⟩ := RetH.gr HA4.out (Nat.le_refl _) HG.out.drew (HH.out.gr (Gr.refl _).drew)
               have G4 := hid g4
               have hlt4 : wr.heap.size ≤ w4.heap.size := m4.size
               have hcell4 : ∀ p : Addr, p.block = bb → w4.cell? p = wr.cell? p := fun p hp => by
                 rw [G4.out.cell (by rw [hp]; exact hbw), HG.out.cell (by rw [hp]; exact hbw)]
               have look4 : (Instr.lookup 30 (.map (some mb)) (.agg #[.int .i64 a, .int .i64 b, .int .i64 c', .int .i64 d, .int .i64 e, .int .i64 f]) false).run Try.prog w4 = .ok (.bool false) w4 := by
                 have := M4.out.look HX.out
                 rw [HRES.out] at this
                 exact this
               clear h4b m4 g4))
        all_goals (
          obtain ⟨l, hkey⟩ := key33 HX.out
          obtain ⟨D4, hown, hN4, hD4⟩ := M4.out
          have HK := hid hkey
          have HD := hid hD4
          have HN := hid hN4
          clear hD4 hN4
          by_cases hat : a ≤ now
          · have DUE : dueN (addF L (a, b, c', d, e, f)) now = dueN L now + 1 := by rw [← HII.out, dueN_ins, if_pos hat]
            have DU := hid DUE
            clear DUE
            go_wp2_with (at_mapUpdate; refine wpList_mapUpdate_own _ rfl _ _ _ 30 rfl 33 4 keyed33 Try.underlying30 _ mb k _ rfl hown (by unfold maxLen; omega) _ _ l rfl rfl HK.out _ [] (plainElem_bool Try.underlying4 true) ?_; intro w5 hown5 hgrow5)
            go_roundw
            case rel =>
              refine ⟨k + 1, addF L (a, b, c', d, e, f), v4, by omega, by go_num, ?_, gr_grown G4.out hgrow5 (by intro r hr; injection hr with hr; omega), H4.out.turn M4.out hgrow5, addF_srt HS.out _, ?_, ?_, addF_ok HLo.out HX.out⟩
              · first | (rw [DU.out]; done) | (rw [DU.out]; go_num)
              · have M5 := MI.put hown HN.out HD.out HK.out hown5
                rw [addF_length, show has (addF L (a, b, c', d, e, f)) = (fun y => decide (y = (a, b, c', d, e, f)) || has L y) from funext fun y => has_addF HS.out _ y]
                exact M5
              · rw [addF_length]; split <;> omega
            case measure => simp [intOf]; omega
          · have DUE : dueN (addF L (a, b, c', d, e, f)) now = dueN L now := by rw [← HII.out, dueN_ins, if_neg hat]; rfl
            have DU := hid DUE
            clear DUE
            go_wp2_with (at_mapUpdate; refine wpList_mapUpdate_own _ rfl _ _ _ 30 rfl 33 4 keyed33 Try.underlying30 _ mb k _ rfl hown (by unfold maxLen; omega) _ _ l rfl rfl HK.out _ [] (plainElem_bool Try.underlying4 true) ?_; intro w5 hown5 hgrow5)
            go_roundw
            case rel =>
              refine ⟨k + 1, addF L (a, b, c', d, e, f), v4, by omega, by go_num, ?_, gr_grown G4.out hgrow5 (by intro r hr; injection hr with hr; omega), H4.out.turn M4.out hgrow5, addF_srt HS.out _, ?_, ?_, addF_ok HLo.out HX.out⟩
              · first | (rw [DU.out]; done) | (rw [DU.out]; go_num)
              · have M5 := MI.put hown HN.out HD.out HK.out hown5
                rw [addF_length, show has (addF L (a, b, c', d, e, f)) = (fun y => decide (y = (a, b, c', d, e, f)) || has L y) from funext fun y => has_addF HS.out _ y]
                exact M5
              · rw [addF_length]; split <;> omega
            case measure => simp [intOf]; omega)
      · rw [hres] at hlk HADD
        simp only [iv] at hlk
        have lookD : (Instr.lookup 30 (.map (some mb)) (.agg #[.int .i64 a, .int .i64 b, .int .i64 c', .int .i64 d, .int .i64 e, .int .i64 f]) false).run Try.prog wr.drew = .ok (.bool true) wr.drew := by
          have := (HM.out.gr (Gr.refl wr).drew).look HX.out
          rw [hres] at this
          exact this
        have HRES := hid hres
        have DUE : dueN (addF L (a, b, c', d, e, f)) now = dueN L now := by unfold addF; rw [hres, if_pos rfl]
        clear hres
        have DU := hid DUE
        clear DUE
        go_wp2_with fail
        go_region_held3 (fun w' => w'.cell? ⟨bb, off + k * 6, none⟩ = some (.int .i64 a) ∧ w'.cell? ⟨bb, off + k * 6 + 1, none⟩ = some (.int .i64 b) ∧ w'.cell? ⟨bb, off + k * 6 + 2, none⟩ = some (.int .i64 c') ∧ w'.cell? ⟨bb, off + k * 6 + 3, none⟩ = some (.int .i64 d) ∧ w'.cell? ⟨bb, off + k * 6 + 4, none⟩ = some (.int .i64 e) ∧ w'.cell? ⟨bb, off + k * 6 + 5, none⟩ = some (.int .i64 f) ∧ (Instr.lookup 30 (.map (some mb)) (.agg #[.int .i64 a, .int .i64 b, .int .i64 c', .int .i64 d, .int .i64 e, .int .i64 f]) false).run Try.prog w' = .ok (.bool true) w')
          (first | go_keep | (refine ⟨?_, ?_, ?_, ?_, ?_, ?_, ?_⟩ <;> first | (go_simp; done) | exact lookD) | exact ⟨(hcell4 _ rfl).trans c0, (hcell4 _ rfl).trans c1, (hcell4 _ rfl).trans c2, (hcell4 _ rfl).trans c3, (hcell4 _ rfl).trans c4, (hcell4 _ rfl).trans c5, look4⟩)
          (first
            | (go_at_call 12
               refine (HADD.out _ (Gr.refl _).drew).mono ?_
               intro en w4 h4
               have HA4 := hid h4
               obtain ⟨v4, rfl, h4b, m4, _⟩ := h4
               have H4 := hid h4b
               have M4 := hid (MI.act (HM.out.gr (Gr.refl _).drew) (HH.out.gr (Gr.refl _).drew) HA4.out)
               obtain ⟨_, _, _, g4⟩ := RetH.gr HA4.out (Nat.le_refl _) HG.out.drew (HH.out.gr (Gr.refl _).drew)
               have G4 := hid g4
               have hlt4 : wr.heap.size ≤ w4.heap.size := m4.size
               have hcell4 : ∀ p : Addr, p.block = bb → w4.cell? p = wr.cell? p := fun p hp => by
                 rw [G4.out.cell (by rw [hp]; exact hbw), HG.out.cell (by rw [hp]; exact hbw)]
               have look4 : (Instr.lookup 30 (.map (some mb)) (.agg #[.int .i64 a, .int .i64 b, .int .i64 c', .int .i64 d, .int .i64 e, .int .i64 f]) false).run Try.prog w4 = .ok (.bool true) w4 := by
                 have := M4.out.look HX.out
                 rw [HRES.out] at this
                 exact this
               clear h4b m4 g4))
        all_goals (
          obtain ⟨l, hkey⟩ := key33 HX.out
          obtain ⟨D4, hown, hN4, hD4⟩ := M4.out
          have HK := hid hkey
          have HD := hid hD4
          have HN := hid hN4
          clear hD4 hN4
          go_wp2_with (at_mapUpdate; refine wpList_mapUpdate_own _ rfl _ _ _ 30 rfl 33 4 keyed33 Try.underlying30 _ mb k _ rfl hown (by unfold maxLen; omega) _ _ l rfl rfl HK.out _ [] (plainElem_bool Try.underlying4 true) ?_; intro w5 hown5 hgrow5)
          go_roundw
          case rel =>
            refine ⟨k + 1, addF L (a, b, c', d, e, f), v4, by omega, by go_num, ?_, gr_grown G4.out hgrow5 (by intro r hr; injection hr with hr; omega), H4.out.turn M4.out hgrow5, addF_srt HS.out _, ?_, ?_, addF_ok HLo.out HX.out⟩
            · first | (rw [DU.out]; done) | (rw [DU.out]; go_num)
            · have M5 := MI.put hown HN.out HD.out HK.out hown5
              rw [addF_length, show has (addF L (a, b, c', d, e, f)) = (fun y => decide (y = (a, b, c', d, e, f)) || has L y) from funext fun y => has_addF HS.out _ y]
              exact M5
            · rw [addF_length]; split <;> omega
          case measure => simp [intOf]; omega)
    · clear HR HOK
      have hdn := dueN_le L now
      have hmb0 : w.heap.size ≤ mb := by rw [← hmb]; exact G2.out.size
      have hw0 := HG.out.size
      have hglt := HH.out.lt
      have hmlt := HM.out.lt
      have hown0 : v.ownBlock ≠ some wr.heap.size := fun e => by have := (HH.out.row.lt _ e).2; omega
      have HO0 := hid hown0
      have hglo := HH.out.lo
      have HA0 := hid (heap_alloc_new wr (.cells #[.int .i64 0, .int .i64 0, .int .i64 0, .int .i64 0, .int .i64 0, .int .i64 0] 33))
      clear hown0
      go_wp2_with fail
      generalize hB : wr.heap.size = B at *
      obtain ⟨D, hD⟩ : ∃ D, dueN L now = D := ⟨_, rfl⟩
      rw [hD] at hdn ⊢
      have HD := hid hD
      clear hD
      go_loopw [10, 11, 12] (fun i _ _ wq => ∃ (n : Nat) (v' : Value) (ls : It), n ≤ D ∧ i = .int .i64 n ∧ Gr w wq ∧ HB w.heap.size wq g v' (L.drop n) ∧ MI wq mb k (has L) L.length ∧ wq.heap[B]? = some (.cells (ic ls).toArray 33 (0, 0)) ∧ (0 < n → ls = L.getD (n - 1) z0) ∧ v'.ownBlock ≠ some B) (fun i _ _ _ => D - (intOf i).toNat)
      case atStart => exact ⟨0, v, z0, Nat.zero_le _, rfl, HG.out.alloc _, HH.out.gr ((Gr.refl _).alloc _), HM.out.gr ((Gr.refl _).alloc _), HA0.out, fun h => absurd h (by omega), HO0.out⟩
      case round =>
        clear HG HH HM HO0 HA0 HM0
        obtain ⟨n, v', ⟨p0, p1, p2, p3, p4, p5⟩, hn, rfl, hg, hH, hM, hb, hls, hob⟩ := hrel
        have HG := hid hg
        have HH := hid hH
        have HM := hid hM
        have HB' := hid (show wr.heap[B]? = some (.cells #[.int .i64 p0, .int .i64 p1, .int .i64 p2, .int .i64 p3, .int .i64 p4, .int .i64 p5] 33 (0, 0)) from hb)
        have HL := hid hls
        have HO := hid hob
        have hBlt : B < wr.heap.size := (Array.getElem?_eq_some_iff.1 hb).1
        have hBg : B ≠ g := fun e => by subst e; rw [hH.cell] at hb; injection hb with hb; injection hb with _ ht _; cases ht
        clear hg hH hM hb hls hob
        by_cases hlt : n < D
        · have hnL : n < L.length := by omega
          have e1 : due (L.drop n) now = true := by rw [due_drop HS.out now n (by rw [HD.out]; omega), HD.out]; exact decide_eq_true hlt
          have e2 : takeF (L.drop n) now = L.drop (n + 1) := by unfold takeF; rw [e1, if_pos rfl, List.drop_drop]
          have hxo := HLo.out (L.getD n z0) (by simp [List.getD, hnL])
          have hxn := (dueN_iff HS.out now n hnL).1 (by rw [HD.out]; exact hlt)
          have HT := hid (fun W (y : Gr wr W) => take_any w.heap.size g v' (L.drop n) now W (HH.out.gr y) (srt_drop HS.out n) (by rw [List.length_drop]; omega))
          rw [e1, e2, if_pos rfl, hd_drop] at HT
          have hxm : has L (L.getD n z0) = true := (has_iff HS.out _).2 (by simp [List.getD, hnL])
          have hord : 0 < n → cmpI (p0, p1, p2, p3, p4, p5) (L.getD n z0) < 0 := fun h => by rw [HL.out h]; exact HS.out.lt (by omega) hnL
          obtain ⟨⟨a, b, c', d, e, f⟩, hy⟩ : ∃ y, L.getD n z0 = y := ⟨_, rfl⟩
          rw [hy] at HT hxo hxn hxm hord
          simp only at hxn
          have HY := hid hy
          clear hy e1 e2
          simp only [iv] at HT
          have HX := hid hxo
          have HXM := hid hxm
          have HORD := hid hord
          clear hxo hxm hord
          have hnn : ¬ now < a := by omega
          by_cases hn0 : n = 0
          · subst hn0
            go_wp2_with (first
            | (go_at_call 13; refine (HT.out _ (Gr.refl _)).mono ?_
               intro en w7 h7
               have HA7 := hid h7
               obtain ⟨v7, rfl, h7b, m7, o7⟩ := h7
               have H7 := hid h7b
               have M7 := hid (MI.act HM.out HH.out HA7.out)
               obtain ⟨_, _, _, g7⟩ := RetH.gr HA7.out (Nat.le_refl _) HG.out HH.out
               have G7 := hid g7
               have hsz7 : wr.heap.size ≤ w7.heap.size := m7.size
               have HB7 := hid ((m7.block B hBlt (by rintro (e | e); exact hBg e; exact HO.out e.symm)).trans HB'.out)
               obtain ⟨b0, b1, b2, b3, b4, b5, f0, f1, f2, f3, f4, f5⟩ := heap6 HB7.out
               have hB7 : B < w7.heap.size := by omega
               have HO7 := hid (show v7.ownBlock ≠ some B from fun e => by
                 rcases o7 with h | ⟨q, h1, h2⟩
                 · exact HO.out (h.symm.trans e)
                 · have := h1.symm.trans e; injection this with this; omega)
               have look8 : (Instr.lookup 30 (.map (some mb)) (.agg #[.int .i64 a, .int .i64 b, .int .i64 c', .int .i64 d, .int .i64 e, .int .i64 f]) false).run Try.prog (w7.alloc (.cells #[.int .i64 a, .int .i64 b, .int .i64 c', .int .i64 d, .int .i64 e, .int .i64 f] 33)) = .ok (.bool true) (w7.alloc (.cells #[.int .i64 a, .int .i64 b, .int .i64 c', .int .i64 d, .int .i64 e, .int .i64 f] 33)) := by
                 have := (M7.out.gr ((Gr.refl w7).alloc (.cells #[.int .i64 a, .int .i64 b, .int .i64 c', .int .i64 d, .int .i64 e, .int .i64 f] 33))).look HX.out
                 rw [HXM.out] at this
                 exact this
               clear h7b m7 g7 o7))
            go_roundw
            case rel =>
              have M6 := set6 w7 B (.int .i64 a) (.int .i64 b) (.int .i64 c') (.int .i64 d) (.int .i64 e) (.int .i64 f)
              have hsB : B < ((((((w7.setCell ⟨B, 0, none⟩ (.int .i64 a)).setCell ⟨B, 1, none⟩ (.int .i64 b)).setCell ⟨B, 2, none⟩ (.int .i64 c')).setCell ⟨B, 3, none⟩ (.int .i64 d)).setCell ⟨B, 4, none⟩ (.int .i64 e)).setCell ⟨B, 5, none⟩ (.int .i64 f)).heap.size := Nat.lt_of_lt_of_le hB7 M6.size
              refine ⟨1, v7, (a, b, c', d, e, f), by omega, rfl, ?_, (H7.out.mod M6 (Ne.symm hBg) (fun k e e2 => HO7.out (e2 ▸ e))).gr ((Gr.refl _).alloc _), (M7.out.keep (M6.block mb M7.out.lt ?_)).gr ((Gr.refl _).alloc _), (((Gr.refl _).alloc _).block B hsB).trans (set6_heap HB7.out _ _ _ _ _ _), fun _ => HY.out.symm, HO7.out⟩
              · exact (gr6 G7.out B (by omega) _ _ _ _ _ _).alloc _
              · intro e
                obtain ⟨es, cl, hmp⟩ := M7.out.isMap
                rw [e, HB7.out] at hmp
                cases hmp
            case measure => simp [intOf]; omega
          · replace hn0 : 0 < n := by omega
            have hn1 : (0 : Int) < (n : Int) := by omega
            go_wp2_with (first
            | (go_at_call 13; refine (HT.out _ (Gr.refl _)).mono ?_
               intro en w7 h7
               have HA7 := hid h7
               obtain ⟨v7, rfl, h7b, m7, o7⟩ := h7
               have H7 := hid h7b
               have M7 := hid (MI.act HM.out HH.out HA7.out)
               obtain ⟨_, _, _, g7⟩ := RetH.gr HA7.out (Nat.le_refl _) HG.out HH.out
               have G7 := hid g7
               have hsz7 : wr.heap.size ≤ w7.heap.size := m7.size
               have HB7 := hid ((m7.block B hBlt (by rintro (e | e); exact hBg e; exact HO.out e.symm)).trans HB'.out)
               obtain ⟨b0, b1, b2, b3, b4, b5, f0, f1, f2, f3, f4, f5⟩ := heap6 HB7.out
               have hB7 : B < w7.heap.size := by omega
               have HO7 := hid (show v7.ownBlock ≠ some B from fun e => by
                 rcases o7 with h | ⟨q, h1, h2⟩
                 · exact HO.out (h.symm.trans e)
                 · have := h1.symm.trans e; injection this with this; omega)
               have look8 : (Instr.lookup 30 (.map (some mb)) (.agg #[.int .i64 a, .int .i64 b, .int .i64 c', .int .i64 d, .int .i64 e, .int .i64 f]) false).run Try.prog (w7.alloc (.cells #[.int .i64 a, .int .i64 b, .int .i64 c', .int .i64 d, .int .i64 e, .int .i64 f] 33)) = .ok (.bool true) (w7.alloc (.cells #[.int .i64 a, .int .i64 b, .int .i64 c', .int .i64 d, .int .i64 e, .int .i64 f] 33)) := by
                 have := (M7.out.gr ((Gr.refl w7).alloc (.cells #[.int .i64 a, .int .i64 b, .int .i64 c', .int .i64 d, .int .i64 e, .int .i64 f] 33))).look HX.out
                 rw [HXM.out] at this
                 exact this
               clear h7b m7 g7 o7)
            | (go_at_call 14; refine (less6 _ _ _ _ _ _ _ _ _ _ _ _ _).mono ?_; rintro en _ ⟨rfl, y9, rfl⟩
               rw [show decide (cmpI (p0, p1, p2, p3, p4, p5) (a, b, c', d, e, f) < 0) = true from decide_eq_true (HORD.out hn0)]))
            go_roundw
            case rel =>
              have G9 : Gr w7 y9.val := (((Gr.refl w7).alloc _).ext y9)
              have M6 := set6 y9.val B (.int .i64 a) (.int .i64 b) (.int .i64 c') (.int .i64 d) (.int .i64 e) (.int .i64 f)
              refine ⟨n + 1, v7, (a, b, c', d, e, f), by omega, by go_num, ?_, (H7.out.gr G9).mod M6 (Ne.symm hBg) (fun k e e2 => HO7.out (e2 ▸ e)), (M7.out.gr G9).keep (M6.block mb (Nat.lt_of_lt_of_le M7.out.lt G9.size) ?_), set6_heap ((G9.block B hB7).trans HB7.out) _ _ _ _ _ _, fun _ => HY.out.symm, HO7.out⟩
              · exact gr6 (G7.out.trans G9) B (by omega) _ _ _ _ _ _
              · intro e
                obtain ⟨es, cl, hmp⟩ := M7.out.isMap
                rw [e, HB7.out] at hmp
                cases hmp
            case measure => simp [intOf]; omega
        · have hnD : n = D := by omega
          have e1 : due (L.drop n) now = false := by rw [due_drop HS.out now n (by rw [HD.out]; omega), HD.out]; exact decide_eq_false hlt
          have e2 : takeF (L.drop n) now = L.drop n := by unfold takeF; rw [e1, if_neg Bool.false_ne_true]
          have HT := hid (fun W (y : Gr wr W) => take_any w.heap.size g v' (L.drop n) now W (HH.out.gr y) (srt_drop HS.out n) (by rw [List.length_drop]; omega))
          rw [e1, e2, if_neg Bool.false_ne_true] at HT
          simp only [iv] at HT
          have hq : ((L.drop n).length : Int) = (L.length : Int) - (D : Int) := by rw [List.length_drop]; omega
          have HQ := hid hq
          clear hq e1 e2
          go_wp2_with (first
            | (go_at_call 13; refine (HT.out _ (Gr.refl _)).mono ?_
               intro en w7 h7
               have HA7 := hid h7
               obtain ⟨v7, rfl, h7b, m7, o7⟩ := h7
               have H7 := hid h7b
               have M7 := hid (MI.act HM.out HH.out HA7.out)
               obtain ⟨_, _, _, g7⟩ := RetH.gr HA7.out (Nat.le_refl _) HG.out HH.out
               have G7 := hid g7
               clear h7b m7 g7 o7)
            | (go_at_call 15; refine (len_any w.heap.size g v7 (L.drop n) _ (H7.out.gr ((Gr.refl _).alloc _))).mono ?_; rintro en _ ⟨rfl, y9, rfl⟩
               rw [HQ.out]
               have hml := fun ty => ((M7.out.gr ((Gr.refl _).alloc _)).gr y9.gr).len ty))
          go_ret
          exact ⟨by simp, (G7.out.alloc _).ext y9⟩
end Go.Proofs.Ytikmniokbliolaa
