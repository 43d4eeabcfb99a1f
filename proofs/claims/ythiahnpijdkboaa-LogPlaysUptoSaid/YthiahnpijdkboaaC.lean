import Derived.Test.YthiahnpijdkboaaG
namespace Go.Proofs.Ythiahnpijdkboaa
open Go.RowKit Go.Ext Go.BigFrame
attribute [local go_sem] Ext.cell Ext.frozen Ext.lt Ext.le s1 s2 s3 s4 s5 s6 t1 t2 t3 t4 t5 t6
attribute [local go_sem ↓] Go.wp_at_zero Go.wp_at_succ

set_option maxHeartbeats 1000000 in
theorem clone31_any (base n : Nat) (ad : Addr) (c : Nat) (L : List Ent) (w : World) (hn : n = L.length) (hs : Sl base w (some ad) L) (hl : L.length ≤ 4398046511103) :
    Calls Try.prog 31 #[.slice (some ad) n c] w (RetP (fun w' v => OwnE base w.heap.size w' v L) w) := by
  subst hn
  obtain ⟨xs, hr, hx⟩ := hs
  obtain ⟨i0, hi0, hz0, hz1, hz2⟩ := info_parts info46
  have he := fun (w : World) (n c n' c' : Nat) (a : Option Addr) => Lib.run_eql_slice_nil (P := Try.prog) w 22 46 a n c n' c' Try.underlying22
  have hr1 := hid (hr.gr ((Gr.refl w).alloc (.cells #[] 46)))
  have HX := hid hx
  clear hr hx
  go_enter Try.func31, Try.ntmps31
  go_wp2_with (at_builtin; refine wpList_append_own _ rfl _ _ 22 rfl w.heap.size 46 i0 _ 2 32 Try.underlying22 hi0 hz0 hz1 hz2 rfl (by decide) (.slice (some ⟨w.heap.size, 0, none⟩) 0 0) 0 [] rfl (World.ownsRow_made w #[] 0 (Nat.le_refl _) (by decide) rfl) ad L.length c xs rfl (by rw [HX.out.1]) hr1.out.add (ents_one HX.out) (by unfold maxLen; omega) (by omega) (by simp) ?_; intro v1 w1 hown1 hg1 _)
  go_ret
  have hgr : Gr w w1 := gr_grown ((Gr.refl w).alloc _) hg1 (by intro k hk; simp [Value.ownBlock] at hk; omega)
  have ho : w1.ownsRow w.heap.size 46 2 v1 L.length xs := by simpa using hown1
  exact ⟨v1, ⟨w1, hgr⟩, rfl, rfl, xs, ho, HX.out.kp hgr.kp⟩

/-- Place and term ahead, and the entries, are others. -/
theorem LogAt.put3 {base g B : Nat} {idx term idx' term' : Int} {L M : List Ent} {v v' : Value} {w w2 : World} {xs : List Value} (h : LogAt base w g idx term L v) (hb : w2.heap[g]? = w.heap[g]?) (hB : base ≤ B) (hBw : w.heap.size ≤ B) (hm : M.length ≤ 4398046511103)
    (hi0 : 0 ≤ idx') (hi1 : idx' ≤ 1125899906842624) (ho : w2.ownsRow B 46 2 v' M.length xs) (he : Ents base w2 xs M) :
    LogAt base (((w2.setCell ⟨g, 2, none⟩ v').setCell ⟨g, 0, none⟩ (.int .i64 idx')).setCell ⟨g, 1, none⟩ (.int .i64 term')) g idx' term' M v' := by
  have hlt := h.lt
  have hg : w2.heap[g]? = Option.some (.cells #[.int .i64 idx, .int .i64 term, v] 65 (0, 0)) := hb.trans h.blk
  have h1 := heap_set _ _ 2 _ _ _ v' hg
  have h2 := heap_set _ _ 0 _ _ _ (.int .i64 idx') h1
  have h3 := heap_set _ _ 1 _ _ _ (.int .i64 term') h2
  have no : ∀ (w : World) cs, w.heap[g]? = Option.some (.cells cs 65 (0, 0)) → ¬ Imm TB base w g := by
    rintro w cs hh ⟨_, h1 | ⟨cs', t, fz, h1, h2⟩⟩
    · have := h.lo; omega
    · rw [hh] at h1
      injection h1 with h1
      injection h1 with _ ht _
      subst ht
      cases h2
  have hk : Kp TB base w2 (((w2.setCell ⟨g, 2, none⟩ v').setCell ⟨g, 0, none⟩ (.int .i64 idx')).setCell ⟨g, 1, none⟩ (.int .i64 term')) :=
    Kp.set (Kp.set (Kp.set (Kp.refl _ _ _) (no _ _ hg) _) (no _ _ h1) _) (no _ _ h2) _
  refine ⟨by rw [h3]; rfl, h.lo, ⟨xs, own_base ?_ hB, he.kp hk⟩, hi0, hi1, hm⟩
  refine ⟨ho.1, ?_⟩
  rcases ho.2 with h2 | ⟨g', cap, cur, hv, hb', hh, r⟩
  · exact .inl h2
  · have hne : g' ≠ g := fun e => by omega
    refine .inr ⟨g', cap, cur, hv, hb', ?_, r⟩
    rw [← hh]
    exact (Below.heap_setCell _ _ _ _ hne).trans ((Below.heap_setCell _ _ _ _ hne).trans (Below.heap_setCell _ _ _ _ hne))

/-- It has struck the entries up to a place. -/
def RetC (base g : Nat) (idx term : Int) (L : List Ent) (w : World) (e : Ending) (w' : World) : Prop :=
  ∃ v, e = .returned (.int .i64 0) ∧ LogAt base w' g idx term L v ∧ Mod (fun b => b = g) w w'

set_option maxHeartbeats 2000000 in
theorem compact_bad (base g : Nat) (idx term i : Int) (L : List Ent) (v : Value) (w : World) (h : LogAt base w g idx term L v) (hi : i < idx + 1 ∨ idx + L.length < i) :
    Calls Try.prog 23 #[.pointer (some ⟨g, 0, none⟩), .int .i64 i] w (RetE (.int .i64 1) w) := by
  refine retE ?_
  have CF := fun (w' : World) (hg : Gr w w') => hid (first_any base g idx term L v w' (h.gr hg))
  have CL := fun (w' : World) (hg : Gr w w') => hid (last_any base g idx term L v w' (h.gr hg))
  clear h
  rcases hi with hi | hi
  · go_enter Try.func23, Try.ntmps23
    go_wp2_with (first | (go_at_call 11; (with_reducible refine (CL w (Gr.refl _)).out.mono ?_); rintro e _ ⟨rfl, y1, rfl⟩) | (go_at_call 21; (with_reducible refine (CF y1.val y1.gr).out.mono ?_); rintro e _ ⟨rfl, y2, rfl⟩))
    go_ret
    exact ⟨rfl, y1.gr.trans y2.gr⟩
  · by_cases h2 : i < idx + 1
    · go_enter Try.func23, Try.ntmps23
      go_wp2_with (first | (go_at_call 11; (with_reducible refine (CL w (Gr.refl _)).out.mono ?_); rintro e _ ⟨rfl, y1, rfl⟩) | (go_at_call 21; (with_reducible refine (CF y1.val y1.gr).out.mono ?_); rintro e _ ⟨rfl, y2, rfl⟩))
      go_ret
      exact ⟨rfl, y1.gr.trans y2.gr⟩
    · go_enter Try.func23, Try.ntmps23
      go_wp2_with (first | (go_at_call 11; (with_reducible refine (CL w (Gr.refl _)).out.mono ?_); rintro e _ ⟨rfl, y1, rfl⟩) | (go_at_call 21; (with_reducible refine (CF y1.val y1.gr).out.mono ?_); rintro e _ ⟨rfl, y2, rfl⟩))
      go_ret
      exact ⟨rfl, y1.gr.trans y2.gr⟩

set_option maxHeartbeats 1000000 in
theorem compact_any (base g k : Nat) (idx term i : Int) (L : List Ent) (v : Value) (w : World) (h : LogAt base w g idx term L v) (hk0 : 0 < k) (hk : k ≤ L.length) (hi : i = idx + k) (him : i ≤ 1125899906842624) (hbase : base ≤ w.heap.size) :
    Calls Try.prog 23 #[.pointer (some ⟨g, 0, none⟩), .int .i64 i] w (RetC base g i (tmT idx term L i) (L.drop k) w) := by
  have b2 := h.i0
  have b3 := h.i1
  have b4 := h.len
  have b6 := h.lt
  have H := hid h
  clear h
  obtain ⟨Av, cv, rfl, hsv, hcv⟩ := H.out.slice
  have HSV := hid hsv
  clear hsv
  obtain ⟨xs, h1, h2⟩ := HSV.out
  obtain ⟨blk, off, rfl, hc⟩ := h1 (by rintro rfl; have := h2.1; simp at this; omega)
  clear h1 h2 hc
  have g0 : w.cell? ⟨g, 0, none⟩ = some (.int .i64 idx) := by have := H.out.cell 0; simpa using this
  have g1 : w.cell? ⟨g, 1, none⟩ = some (.int .i64 term) := by have := H.out.cell 1; simpa using this
  have g2 : w.cell? ⟨g, 2, none⟩ = some (.slice (some ⟨blk, off, none⟩) L.length cv) := by have := H.out.cell 2; simpa using this
  have f0 : w.frozen? ⟨g, 0, none⟩ = false := H.out.frozen 0
  have f1 : w.frozen? ⟨g, 1, none⟩ = false := H.out.frozen 1
  have f2 : w.frozen? ⟨g, 2, none⟩ = false := H.out.frozen 2
  obtain ⟨T, hT⟩ : ∃ T, tmT idx term L i = T := ⟨_, rfl⟩
  have CF := fun (w' : World) (hg : Gr w w') => hid (first_any base g idx term L _ w' (H.out.gr hg))
  have CL := fun (w' : World) (hg : Gr w w') => hid (last_any base g idx term L _ w' (H.out.gr hg))
  have CT := fun (w' : World) (hg : Gr w w') => hid ((term_any base g idx term i L _ w' (H.out.gr hg) (by omega)).mono (R' := RetE (.tuple #[.int .i64 T, .bool true]) w') (fun _ _ h => by rwa [hT, show tmB idx L.length i = true from decide_eq_true (by omega)] at h))
  rw [hT]
  clear hT
  have hdl : (L.drop k).length = L.length - k := by simp
  obtain ⟨ad, had, hsk⟩ : ∃ ad : Addr, (if cv = k then some ⟨blk, off, none⟩ else some ⟨blk, off + k * 2, none⟩) = some ad ∧ Sl base w (some ad) (L.drop k) := by
    by_cases e : cv = k
    · rw [if_pos e]
      refine ⟨_, rfl, ?_⟩
      rw [List.drop_eq_nil_of_le (by omega)]
      exact ⟨[], Rd.nil _ _, ents_nil _ _⟩
    · rw [if_neg e]
      exact ⟨_, rfl, HSV.out.drop k⟩
  have HSK := hid hsk
  clear hsk
  have ew : IntKind.i64.wrap (k : Int) = (k : Int) := IntWalk.i64_in _ (by omega)
  have e3 : i - idx = (k : Int) := by omega
  have hi1 : idx + k ≤ i := by omega
  have hi2 : i ≤ idx + k := by omega
  clear hi
  go_enter Try.func23, Try.ntmps23
  go_wp2_with (first | (go_at_call 11; (with_reducible refine (CL w (Gr.refl _)).out.mono ?_); rintro e _ ⟨rfl, y1, rfl⟩) | (go_at_call 21; (with_reducible refine (calls_ext y1 (CF y1.val y1.gr).out).mono ?_); rintro e _ ⟨rfl, y2, rfl⟩) | (go_at_call 22; (with_reducible refine (calls_ext y2 (CT y2.val y2.gr).out).mono ?_); rintro e _ ⟨rfl, y3, rfl⟩))
  have GY := hid y3.gr
  have hkw : w.heap.size ≤ y3.val.heap.size := GY.out.size
  go_region_law (first
    | (go_simp; go_at_call 31
       refine (calls_grP (w0 := y3.val) ?_ (clone31_any base (L.length - k) _ _ (L.drop k) _ hdl.symm (HSK.out.gr (GY.out.trans ?_)) (by omega))).mono ?_
       · repeat (first | exact Gr.refl _ | refine Gr.ext ?_ _ | refine Gr.alloc ?_ _ | refine Gr.drew ?_)
       · repeat (first | exact Gr.refl _ | refine Gr.ext ?_ _ | refine Gr.alloc ?_ _ | refine Gr.drew ?_)
       rintro e _ ⟨v6, y6, rfl, rfl, B6, hB6, ho6⟩
       obtain ⟨A6, c6, rfl⟩ := ho6.shape
       have HO6 := hid ho6
       clear ho6))
  all_goals (
    go_wp2_with fail
    go_ret
    have G6 : Gr w y6.val := GY.out.trans y6.gr
    obtain ⟨zs, o1, o2⟩ := HO6.out
    refine ⟨.slice A6 (L.length - k) c6, rfl, ?_, ?_⟩
    · rw [← hdl]
      exact H.out.put3 (w2 := y6.val) (B := B6) (xs := zs) (G6.block g b6) (Nat.le_trans hbase (Nat.le_trans hkw hB6)) (Nat.le_trans hkw hB6) (by rw [hdl]; omega) (by omega) him o1 o2
    exact (((G6.mod (fun b => b = g)).set (fun _ => rfl) _).set (fun _ => rfl) _).set (fun _ => rfl) _)
end Go.Proofs.Ythiahnpijdkboaa
