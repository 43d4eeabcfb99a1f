import Derived.Test.YtlencagfkajcnaaN4
namespace Go.Proofs.Ytlencagfkajcnaa
open Go.RowKit Go.Ext Go.BigFrame Go.Maps
attribute [local go_sem] Ext.cell Ext.frozen Ext.lt Ext.le s1 s2 s3 s4 s5 s6 t1 t2 t3 t4 t5 t6
attribute [local go_sem ↓] Go.wp_at_zero Go.wp_at_succ

section
variable {base g mb n : Nat} {w : World} {nodes sent : Int} {v v8 : Value} {L L8 : List It} {S : Int × Int → Bool} {P P8 : List Pk}
/-- Another row stands there now. -/
theorem NB.put (lo : base ≤ g) (mlo : base ≤ mb) (hn : 1 ≤ nodes ∧ nodes ≤ 9) (hc : w.heap[g]? = some (.cells #[.int .i64 nodes, .map (some mb), v, .int .i64 sent] 58 (0, 0))) (hr : w.ownsRow base 33 4 v8 L8.length (cs6 L8)) (hm : MP w mb n S) (hd : Dat base w L8 P8) :
    NB base (w.setCell ⟨g, 2, none⟩ v8) g nodes sent mb n v8 L8 S P8 := by
  have m := ((Gr.refl w).mod (fun b => b = g)).set (p := ⟨g, 2, none⟩) (fun _ => rfl) v8
  have h1 : ∀ k, v8.ownBlock = some k → ¬ k = g := by
    rintro k e rfl
    rcases hr.2 with ⟨rfl, _⟩ | ⟨g', cap, cur, rfl, _, hh, _⟩
    · simp [Value.ownBlock] at e
    · simp [Value.ownBlock] at e; subst e; rw [hc] at hh; injection hh with hh; injection hh with _ ht _; cases ht
  have h2 : mb ≠ g := by
    obtain ⟨es, c, hmm⟩ := hm.isMap
    rintro rfl
    have e2 := hc.symm.trans hmm; injection e2 with e2; cases e2
  refine ⟨lo, ?_, own_mod hr m h1, hm.keep (m.block mb hm.lt h2), mlo, hn, Dat.mod m ?_ hd⟩
  · have := set1_heap hc (j := 2) v8
    simpa using this
  · rintro k ⟨cs, fz, hk⟩ rfl
    have e2 := hc.symm.trans hk; injection e2 with e2; injection e2 with _ e2 _; cases e2
theorem NB.no5 (h : NB base w g nodes sent mb n v L S P) : ∀ k, (∃ cs fz, w.heap[k]? = some (.cells cs 5 fz)) → ¬ some k = v.ownBlock := by
  rintro k ⟨cs, fz, hk⟩ e
  rcases h.row.2 with ⟨rfl, _⟩ | ⟨g', cap, cur, rfl, _, hh, _⟩
  · simp [Value.ownBlock] at e
  · simp [Value.ownBlock] at e; subst e; have e2 := hk.symm.trans hh; injection e2 with e2; injection e2 with _ e2 _; cases e2
theorem NB.setS (h : NB base w g nodes sent mb n v L S P) (s' : Int) : NB base (w.setCell ⟨g, 3, none⟩ (.int .i64 s')) g nodes s' mb n v L S P := by
  have m := ((Gr.refl w).mod (fun b => b = g)).set (p := ⟨g, 3, none⟩) (fun _ => rfl) (.int .i64 s')
  refine ⟨h.lo, ?_, own_mod h.row m (fun k e e2 => h.ne (by rw [e, e2])), h.mp.keep (m.block mb h.mp.lt h.nem.1), h.mlo, h.hn, Dat.mod m ?_ h.dat⟩
  · have := set1_heap h.cell (j := 3) (.int .i64 s')
    simpa using this
  · rintro k ⟨cs, fz, hk⟩ rfl
    have e2 := h.cell.symm.trans hk; injection e2 with e2; injection e2 with _ e2 _; cases e2
end

/-- What is sent: the code, what waits, how many were sent. -/
def sendF (nodes sent : Int) (S : Int × Int → Bool) (P : List Pk) (f t : Int) (bs : List UInt8) : Int × List Pk × Int :=
  if isN nodes f && isN nodes t then (if 1048576 < bs.length then (10, P, sent) else (0, (if opF nodes S f t then P ++ [(f, t, sent, bs)] else P), sent + 1)) else (1, P, sent)

set_option maxRecDepth 100000 in
set_option maxHeartbeats 4000000 in
theorem send_any (base g n : Nat) (nodes sent f t : Int) (S : Int × Int → Bool) (P : List Pk) (d : Value) (bs : List UInt8) (w : World) (h : Nt base w g nodes sent n S P) (hd : Bys w d bs) (hl : P.length ≤ 1000000) (hs : 0 ≤ sent ∧ sent ≤ 1000000) (hbase : base ≤ w.heap.size) :
    Calls Try.prog 9 #[.pointer (some ⟨g, 0, none⟩), .int .i64 f, .int .i64 t, d] w (RetN base g nodes (sendF nodes sent S P f t bs).2.2 n S (sendF nodes sent S P f t bs).2.1 (.int .i64 (sendF nodes sent S P f t bs).1) w) := by
  obtain ⟨mb, v, L, h⟩ := h
  have HLEN := hid h.dat.len
  obtain ⟨c0, c1, c2, c3, f2, f3⟩ := h.cs
  have hlt := h.lt
  have HF := hid (fun W (y : Gr w W) => there_any g nodes f W ((y.cell (p := ⟨g, 0, none⟩) hlt).trans c0))
  have HT := hid (fun W (y : Gr w W) => there_any g nodes t W ((y.cell (p := ⟨g, 0, none⟩) hlt).trans c0))
  have HO := hid (fun W (y : Gr w W) => open_any g mb n nodes f t S W ((y.cell (p := ⟨g, 0, none⟩) hlt).trans c0) ((y.cell (p := ⟨g, 1, none⟩) hlt).trans c1) (h.mp.gr y) h.hn.2)
  have HC := hid (fun W (y : Gr w W) => clone_any d bs W (hd.gr y))
  have H := hid h
  obtain ⟨A0, cd, rfl, hbl, _, _⟩ := hd
  have HBL := hid hbl
  obtain ⟨A, cp, rfl⟩ := h.shape
  clear h hbl
  obtain ⟨i0, hi0, hz0, hz1, hz2⟩ := info_parts info33
  unfold sendF
  cases hf : isN nodes f
  · rw [hf] at HF
    clear hf
    simp only [Bool.false_and, Bool.false_eq_true, if_false]
    go_enter Try.func9, Try.ntmps9
    go_wp2_with (go_at_call 21; (with_reducible refine (HF.out _ (Gr.refl _)).mono ?_); rintro en _ ⟨rfl, y1, rfl⟩)
    go_ret
    exact ⟨rfl, ⟨mb, _, L, H.out.gr y1.gr⟩, MN.of_gr y1.gr⟩
  rw [hf] at HF
  clear hf
  cases ht : isN nodes t
  · rw [ht] at HT
    clear ht
    simp only [Bool.and_false, Bool.false_eq_true, if_false]
    go_enter Try.func9, Try.ntmps9
    go_wp2_with (first
      | (go_at_call 21; (with_reducible refine (HF.out _ (Gr.refl _)).mono ?_); rintro en _ ⟨rfl, y1, rfl⟩)
      | (go_at_call 21; (with_reducible refine (HT.out _ y1.gr).mono ?_); rintro en _ ⟨rfl, y2, rfl⟩))
    go_ret
    exact ⟨rfl, ⟨mb, _, L, H.out.gr (y1.gr.ext y2)⟩, MN.of_gr (y1.gr.ext y2)⟩
  rw [ht] at HT
  clear ht
  simp only [Bool.and_self, if_true]
  by_cases hlong : 1048576 < bs.length
  · have hlz : (1048576 : Int) < (bs.length : Int) := by omega
    rw [if_pos hlong]
    go_enter Try.func9, Try.ntmps9
    go_wp2_with (first
      | (go_at_call 21; (with_reducible refine (HF.out _ (Gr.refl _)).mono ?_); rintro en _ ⟨rfl, y1, rfl⟩)
      | (go_at_call 21; (with_reducible refine (HT.out _ y1.gr).mono ?_); rintro en _ ⟨rfl, y2, rfl⟩))
    go_ret
    exact ⟨rfl, ⟨mb, _, L, H.out.gr (y1.gr.ext y2)⟩, MN.of_gr (y1.gr.ext y2)⟩
  have hlz : ¬ (1048576 : Int) < (bs.length : Int) := by omega
  rw [if_neg hlong]
  obtain ⟨hs0, hs1⟩ := hs
  cases ho : opF nodes S f t
  · rw [ho] at HO
    clear ho
    simp only [Bool.false_eq_true, if_false]
    go_enter Try.func9, Try.ntmps9
    go_wp2_with (first
      | (go_at_call 21; (with_reducible refine (HF.out _ (Gr.refl _)).mono ?_); rintro en _ ⟨rfl, y1, rfl⟩)
      | (go_at_call 21; (with_reducible refine (HT.out _ y1.gr).mono ?_); rintro en _ ⟨rfl, y2, rfl⟩)
      | (go_at_call 19; (with_reducible refine (HO.out _ (y1.gr.ext y2)).mono ?_); rintro en _ ⟨rfl, y3, rfl⟩
         have G3 := hid ((y1.gr.ext y2).ext y3)
         have H3 := hid (H.out.gr G3.out)
         have k3 : y3.val.cell? ⟨g, 3, none⟩ = some (.int .i64 sent) := H3.out.cs.2.2.2.1
         have kf3 : y3.val.frozen? ⟨g, 3, none⟩ = false := H3.out.cs.2.2.2.2.2))
    go_ret
    refine ⟨rfl, ⟨mb, _, L, H3.out.setS (sent + 1)⟩, ?_⟩
    refine H.out.mn ?_
    exact ((G3.out.mod _).set (p := ⟨g, 3, none⟩) (fun _ => .inl rfl) _)
  · rw [ho] at HO
    clear ho
    simp only [if_true]
    go_enter Try.func9, Try.ntmps9
    go_wp2_with (first
      | (go_at_call 21; (with_reducible refine (HF.out _ (Gr.refl _)).mono ?_); rintro en _ ⟨rfl, y1, rfl⟩)
      | (go_at_call 21; (with_reducible refine (HT.out _ y1.gr).mono ?_); rintro en _ ⟨rfl, y2, rfl⟩)
      | (go_at_call 19; (with_reducible refine (HO.out _ (y1.gr.ext y2)).mono ?_); rintro en _ ⟨rfl, y3, rfl⟩
         have G3 := hid ((y1.gr.ext y2).ext y3)
         have H3 := hid (H.out.gr G3.out)
         obtain ⟨_, _, k2, k3, kf2, kf3⟩ := H3.out.cs
         have hl3 : g < y3.val.heap.size := H3.out.lt))
    clear c0 c1 c2 c3 f2 f3
    have hll : L.length ≤ 1000000 := by have := HLEN.out; omega
    have hsz3 := G3.out.size
    go_region_law (first
      | (go_simp; go_at_call 22
         refine (HC.out _ (G3.out.trans (by repeat (first | exact Gr.refl _ | refine Gr.drew ?_)))).mono ?_
         rintro en _ ⟨v4, y4, rfl, rfl, ho4⟩
         obtain ⟨A4, c4, rfl⟩ := own_shape ho4
         have HO4 := hid (show y4.val.ownsRow base 5 1 (.slice A4 bs.length c4) bs.length (bc bs) from ho4.mono (Nat.le_trans hbase (Nat.le_trans hsz3 (by simp))))
         have G4 := hid (show Gr y3.val y4.val from Gr.ext (by repeat (first | exact Gr.refl _ | refine Gr.drew ?_)) y4)
         have hsz4 := G4.out.size
         obtain ⟨_, _, k42, k43, _, _⟩ := (H3.out.gr G4.out).cs
         have hl4 : g < y4.val.heap.size := (H3.out.gr G4.out).lt
         clear ho4)
      | (refine step_append_lies _ (by rfl) _ _ _ (by rfl) base 33 i0 _ 4 48 Try.underlying30 hi0 hz0 hz1 hz2 rfl (by omega) (.slice A L.length cp) L.length (cs6 L) (by rfl) (own_gr H3.out.row (G4.out.alloc _)) ⟨y4.val.heap.size, 0, none⟩ 1 1 [.int .i64 f, .int .i64 t, .int .i64 sent, .slice A4 bs.length c4] (by rfl) (by rfl) (World.news_of_block (cs := #[.int .i64 f, .int .i64 t, .int .i64 sent, .slice A4 bs.length c4]) (t := 33) (fr := (0, 0)) (heap_alloc_new y4.val _)) (by simp [Value.oneCell']) (by omega) (by unfold maxLen; omega) (by omega) (by simp; omega) _ rfl ?_
         intro gg cap w8 hown8 hgrow8 hat8 hlt8
         have G5 := hid (show Gr y3.val (y4.val.alloc (.cells #[.int .i64 f, .int .i64 t, .int .i64 sent, .slice A4 bs.length c4] 33)) from G4.out.alloc _)
         have M8 := hid (((G5.out.mod (fun b => some b = (Value.slice A L.length cp).ownBlock)).trans (mod_grown hgrow8) (fun _ _ h => h)))
         have HC8 := hid ((M8.out.block g hl3 H3.out.ne).trans H3.out.cell)
         obtain ⟨_, _, q2, q3, _, _, qf2, qf3⟩ := heap4 HC8.out
         have hl8 : g < w8.heap.size := (Array.getElem?_eq_some_iff.1 HC8.out).1
         have HO8 := hid hown8
         have M48 := hid (((((Gr.refl y4.val).alloc (.cells #[.int .i64 f, .int .i64 t, .int .i64 sent, .slice A4 bs.length c4] 33)).mod (fun b => some b = (Value.slice A L.length cp).ownBlock)).trans (mod_grown hgrow8) (fun _ _ h => h)))
         clear hown8 hgrow8))
    all_goals (
      go_wp2_with fail
      go_ret
      have hr8 : w8.ownsRow base 33 4 (.slice (some ⟨gg, 0, none⟩) (L.length + 1) cap) (L ++ [((f, t, sent, A4, bs.length, c4) : It)]).length (cs6 (L ++ [((f, t, sent, A4, bs.length, c4) : It)])) := by
        rw [cs6_app, List.length_append, List.length_singleton]
        exact HO8.out
      have hd8 : Dat base w8 (L ++ [((f, t, sent, A4, bs.length, c4) : It)]) (P ++ [(f, t, sent, bs)]) := by
        refine Dat.app (Dat.mod M8.out H3.out.no5 H3.out.dat) ⟨?_, trivial⟩
        exact One.mod (p := (f, t, sent, bs)) (x := (f, t, sent, A4, bs.length, c4)) ⟨rfl, rfl, rfl, HO4.out, HBL.out⟩ M48.out (H3.out.gr G4.out).no5
      have hm8 : MP w8 mb n S := H3.out.mp.keep (M8.out.block mb H3.out.mp.lt H3.out.nem.2)
      refine ⟨rfl, ⟨mb, _, _, (NB.put H.out.lo H.out.mlo H.out.hn HC8.out hr8 hm8 hd8).setS (sent + 1)⟩, H.out.mn ?_⟩
      exact ((((G3.out.mod (fun k => k = g ∨ k = mb ∨ some k = (Value.slice A L.length cp).ownBlock)).trans M8.out (fun _ _ h => .inr (.inr h))).set (p := ⟨g, 2, none⟩) (fun _ => .inl rfl) _).set (p := ⟨g, 3, none⟩) (fun _ => .inl rfl) _))
end Go.Proofs.Ytlencagfkajcnaa
