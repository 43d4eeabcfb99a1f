import Derived.Test.YtlencagfkajcnaaR7
namespace Go.Proofs.Ytlencagfkajcnaa
open Go.RowKit Go.Ext Go.BigFrame Go.Maps
attribute [local go_sem] Ext.cell Ext.frozen Ext.lt Ext.le s1 s2 s3 s4 s5 s6 t1 t2 t3 t4 t5 t6
attribute [local go_sem ↓] Go.wp_at_zero Go.wp_at_succ

/-- The pairs that are cut behind a cut. -/
def cutC (nodes : Int) (C : List (Int × Int)) (a b : Int) : List (Int × Int) := if opF nodes (cutL C) a b then C ++ [(a, b)] else C
theorem cutC_len (nodes : Int) (C : List (Int × Int)) (a b : Int) : (cutC nodes C a b).length ≤ C.length + 1 := by
  unfold cutC
  split
  · simp
  · omega
theorem cutC_cut (nodes : Int) (C : List (Int × Int)) (a b : Int) (h : okC nodes a b = true) : cutL (cutC nodes C a b) = cutS (cutL C) a b := by
  unfold okC at h
  simp only [Bool.and_eq_true] at h
  unfold cutC
  by_cases e : opF nodes (cutL C) a b = true
  · rw [if_pos e]; exact cutL_app C a b
  · rw [if_neg e]
    refine (cutL_has C a b ?_).symm
    unfold opF at e
    rw [h.1.1, h.1.2] at e
    simpa using e

theorem cutR_bad (base g : Nat) (nodes sent a b : Int) (C : List (Int × Int)) (P : List Pk) (w : World) (h : Rt base w g nodes sent C P) (ho : okC nodes a b = false) :
    Calls Try.prog 37 #[.pointer (some ⟨g, 0, none⟩), .int .i64 a, .int .i64 b] w (RetR base g nodes sent C P (.int .i64 1) w) := by
  have hq : ∀ e w', (e = .returned (.int .i64 1) ∧ Gr w w') → RetR base g nodes sent C P (.int .i64 1) w e w' := fun e w' hh => ⟨hh.1, h.gr hh.2, MR.of_gr hh.2⟩
  refine Calls.mono ?_ hq
  clear hq
  obtain ⟨v, vc, L, h⟩ := h
  have c0 := h.cs.1
  have hlt := h.lt
  have HF := hid (fun W (y : Gr w W) => is_any g nodes a W ((y.cell (p := ⟨g, 0, none⟩) hlt).trans c0))
  have HT := hid (fun W (y : Gr w W) => is_any g nodes b W ((y.cell (p := ⟨g, 0, none⟩) hlt).trans c0))
  clear h c0
  unfold okC at ho
  cases ha : isN nodes a
  · rw [ha] at HF
    clear ha ho
    go_enter Try.func37, Try.ntmps37
    go_wp2_with (go_at_call 40; (with_reducible refine (HF.out _ (Gr.refl w)).mono ?_); rintro en _ ⟨rfl, y1, rfl⟩)
    go_ret
    exact ⟨rfl, y1.gr⟩
  · rw [ha] at HF ho
    clear ha
    cases hb : isN nodes b
    · rw [hb] at HT
      clear hb ho
      go_enter Try.func37, Try.ntmps37
      go_wp2_with (first
        | (go_at_call 40; (with_reducible refine (HF.out _ (Gr.refl w)).mono ?_); rintro en _ ⟨rfl, y1, rfl⟩)
        | (go_at_call 40; (with_reducible refine (HT.out _ y1.gr).mono ?_); rintro en _ ⟨rfl, y2, rfl⟩))
      go_ret
      exact ⟨rfl, y1.gr.ext y2⟩
    · rw [hb] at HT ho
      clear hb
      have hab : a = b := by simpa using ho
      subst hab
      clear ho
      go_enter Try.func37, Try.ntmps37
      go_wp2_with (first
        | (go_at_call 40; (with_reducible refine (HF.out _ (Gr.refl w)).mono ?_); rintro en _ ⟨rfl, y1, rfl⟩)
        | (go_at_call 40; (with_reducible refine (HT.out _ y1.gr).mono ?_); rintro en _ ⟨rfl, y2, rfl⟩))
      all_goals (
        go_ret
        exact ⟨rfl, y1.gr.ext y2⟩)

set_option maxRecDepth 100000 in
set_option maxHeartbeats 2000000 in
theorem cutR_good (base g : Nat) (nodes sent a b : Int) (C : List (Int × Int)) (P : List Pk) (w : World) (h : Rt base w g nodes sent C P) (ho : okC nodes a b = true) (hl : P.length ≤ 1000000) (hC : C.length ≤ 1000000) (hbase : base ≤ w.heap.size) :
    Calls Try.prog 37 #[.pointer (some ⟨g, 0, none⟩), .int .i64 a, .int .i64 b] w (RetR base g nodes sent (cutC nodes C a b) (P.filter fun p => !qC a b p) (.int .i64 0) w) := by
  obtain ⟨v, vc, L, h⟩ := h
  have hlen := h.dat.len
  have hlt := h.lt
  unfold okC at ho
  simp only [Bool.and_eq_true] at ho
  obtain ⟨⟨ha, hb⟩, hab⟩ := ho
  have hab2 : (a == b) = false := by simpa using hab
  have hb0 : 0 ≤ b := by unfold isN at hb; simp at hb; exact hb.1
  have HF := hid (fun W (y : Gr w W) => is_any g nodes a W ((y.cell (p := ⟨g, 0, none⟩) hlt).trans h.cs.1))
  have HT := hid (fun W (y : Gr w W) => is_any g nodes b W ((y.cell (p := ⟨g, 0, none⟩) hlt).trans h.cs.1))
  have HO := hid (fun W (y : Gr w W) => openR_any base g nodes sent a b v vc L C P W (h.gr y) hC)
  rw [ha] at HF
  rw [hb] at HT
  have H := hid h
  have HLEN := hid hlen
  have hll : L.length ≤ 1000000 := by omega
  obtain ⟨i6, hi6, hp0, hp1, hp2⟩ := info_parts info66
  unfold cutC
  cases ho : opF nodes (cutL C) a b
  · rw [ho] at HO
    have HL := hid (fun W (y : Gr w W) => loseR_C base g nodes sent a b v vc L C P W (h.gr y) hb0 hll (Nat.le_trans hbase y.size))
    clear h ha hb hab ho hlen
    simp only [Bool.false_eq_true, if_false]
    go_enter Try.func37, Try.ntmps37
    go_wp2_with (first
      | (go_at_call 40; (with_reducible refine (HF.out _ (Gr.refl w)).mono ?_); rintro en _ ⟨rfl, y1, rfl⟩)
      | (go_at_call 40; (with_reducible refine (HT.out _ y1.gr).mono ?_); rintro en _ ⟨rfl, y2, rfl⟩)
      | (go_at_call 20; (with_reducible refine (HO.out _ (y1.gr.ext y2)).mono ?_); rintro en _ ⟨rfl, y3, rfl⟩; have G3 := hid ((y1.gr.ext y2).ext y3))
      | (go_at_call 45; refine (HL.out _ G3.out).mono ?_; rintro en w7 ⟨rfl, h7, m7⟩; have H7 := hid h7; have M7 := hid m7; clear h7 m7))
    go_ret
    obtain ⟨v', L', h7⟩ := H7.out
    exact ⟨rfl, ⟨v', vc, L', h7⟩, (MR.of_gr G3.out).trans ((H.out.gr G3.out).mrg M7.out)⟩
  · rw [ho] at HO
    obtain ⟨A, cp, rfl⟩ := h.shapeC
    clear h ha hb hab ho hlen
    simp only [if_true]
    go_enter Try.func37, Try.ntmps37
    go_wp2_with (first
      | (go_at_call 40; (with_reducible refine (HF.out _ (Gr.refl w)).mono ?_); rintro en _ ⟨rfl, y1, rfl⟩)
      | (go_at_call 40; (with_reducible refine (HT.out _ y1.gr).mono ?_); rintro en _ ⟨rfl, y2, rfl⟩)
      | (go_at_call 20; (with_reducible refine (HO.out _ (y1.gr.ext y2)).mono ?_); rintro en _ ⟨rfl, y3, rfl⟩
         have G3 := hid ((y1.gr.ext y2).ext y3)
         have H3 := hid (H.out.gr G3.out)
         obtain ⟨_, _, _, k33, _, _, kf33⟩ := H3.out.cs
         have hl3 : g < y3.val.heap.size := H3.out.lt
         have hsz3 := G3.out.size)
      | (at_builtin; refine wpList_append_lies _ rfl _ _ 51 rfl base 66 i6 _ 2 16 Try.underlying51 hi6 hp0 hp1 hp2 rfl (by omega) (.slice A C.length cp) C.length (cs2 C) rfl (own_gr H3.out.cuts ((Gr.refl y3.val).alloc _)) ⟨y3.val.heap.size, 0, none⟩ 1 1 [.int .i64 a, .int .i64 b] rfl rfl (World.news_of_block (cs := #[.int .i64 a, .int .i64 b]) (t := 66) (fr := (0, 0)) (heap_alloc_new y3.val _)) (by simp [Value.oneCell']) (by omega) (by unfold maxLen; omega) (by omega) (by simp; omega) _ rfl ?_
         intro gg cap w8 hown8 hgrow8 _ _
         have M8 := hid (((((Gr.refl y3.val).alloc (.cells #[.int .i64 a, .int .i64 b] 66)).mod (fun b => some b = (Value.slice A C.length cp).ownBlock)).trans (mod_grown hgrow8) (fun _ _ h => h)))
         have HC8 := hid ((M8.out.block g hl3 (fun e => H3.out.neC e.symm)).trans H3.out.cell)
         obtain ⟨_, _, _, q3, _, _, _, qf3⟩ := heap4 HC8.out
         have hl8 : g < w8.heap.size := (Array.getElem?_eq_some_iff.1 HC8.out).1
         have HO8 := hid hown8
         have hr8 : w8.ownsRow base 66 2 (.slice (some ⟨gg, 0, none⟩) (C.length + 1) cap) (C ++ [(a, b)]).length (cs2 (C ++ [(a, b)])) := by
           rw [cs2_app, List.length_append, List.length_singleton]
           exact HO8.out
         have hrow8 : w8.ownsRow base 71 4 v L.length (cs6 L) := own_mod H3.out.row M8.out (fun k e e2 => H3.out.apart e e2.symm)
         have H8 := hid (RB.putC8 H.out.lo H.out.hn HC8.out hrow8 hr8 (Dat.mod M8.out H3.out.no5C H3.out.dat))
         have M9 := hid (show MR base w (w8.setCell ⟨g, 3, none⟩ (.slice (some ⟨gg, 0, none⟩) (C.length + 1) cap)) from (MR.of_gr G3.out).trans (H3.out.mr ((M8.out.mono (fun _ _ h => .inr (.inr h.symm))).set (p := ⟨g, 3, none⟩) (fun _ => .inl rfl) _)))
         have hb9 := Nat.le_trans hbase M9.out.size
         clear hown8 hgrow8 hr8 hrow8)
      | (go_at_call 45; refine (loseR_C base g nodes sent a b v _ L (C ++ [(a, b)]) P _ H8.out hb0 hll hb9).mono ?_; rintro en w7 ⟨rfl, h7, m7⟩; have H7 := hid h7; have M7 := hid m7; clear h7 m7))
    go_ret
    obtain ⟨v', L', h7⟩ := H7.out
    exact ⟨rfl, ⟨v', _, L', h7⟩, M9.out.trans (H8.out.mrg M7.out)⟩
end Go.Proofs.Ytlencagfkajcnaa
