/- Lemmas: what the functions of the engine answer, and which blocks they write. -/
import Derived.Test.YtniknicnnaiilaaGreatX19
import Derived.Test.YtniknicnnaiilaaGreatX23
section
namespace Go.Proofs.YtniknicnnaiilaaGreat
set_option maxRecDepth 100000
open Go.RowKit Go.Ext Go.BigFrame Go.Maps Go.MapKept
attribute [local go_sem] Ext.cell Ext.frozen Ext.lt Ext.le s1 s2 s3 s4 s5 s6 t1 t2 t3 t4 t5 t6
attribute [local go_sem ↓] Go.wp_at_zero Go.wp_at_succ
set_option maxHeartbeats 4000000 in
theorem change_137 (PUT : PutAny) (c0_ c1_ c2_ c3_ : Value) (k : Nat) (E : ES) (id : Int) (act : FS → FR) (M S X : Bl) (Q : World → Prop) (w : World) (h : EngR w M S k E) (hE : EOk E) (hdue : E.due.length ≤ 998000) (r : RunS) (hr : lk E.runs id = some r)
    (hg : GoodF act) (hgk : GoodK act) (hX : ∀ b, X b → M b ∧ ¬ S b)
    (hact : ∀ W M' k', Gr w W → (∀ b, M b → M' b) → (∀ b, b < w.heap.size → M' b → M b) → FlowF W M' k' r.f → (∀ b, M' b → b < W.heap.size) → M' k' → w.heap.size ≤ k' → Calls Tryz.prog 137 #[.pointer (some ⟨k', 0, none⟩), c0_, c1_, c2_, c3_] W (RetQ M' k' X (act r.f) Q W)) :
    Calls Tryz.prog 68 #[.pointer (some ⟨k, 0, none⟩), .int .i64 id, .func (.func 137) #[] #[c0_, c1_, c2_, c3_]] w (RetC M S X k (changeE E id act).2 (.tuple #[.int .i64 (changeE E id act).1, .bool false]) vC Q w) := by
  obtain ⟨kd, ka, md, ma, mr, kh, hv, hP⟩ := h
  have H := hid hP
  obtain ⟨e0, e1, e2, e3, e4, e5, e6, hkl⟩ := hP.cells
  rcases hP.look id false with ⟨hn, _⟩ | ⟨r', kf, hr', hf, hlk'⟩
  · rw [hr] at hn; cases hn
  rw [hr] at hr'
  injection hr' with hr'
  subst hr'
  have hlk := hlk' w (Gr.refl w)
  simp only [Bool.false_eq_true, if_false, runV] at hlk
  obtain ⟨_, mb, _, hfr⟩ := hf
  have HFOK := hid (hE.get hr)
  have HTW := hid (fun (W : World) (g : Gr w W) (hs : w.heap.size < W.heap.size) => twin_any kf mb r.f (plusB M w) W (hfr.up (up_newB g) (g.block _ hfr.lt.1) (g.block _ hfr.lt.2)) (fun b e => by rcases e with e | e; exact Nat.lt_of_lt_of_le (H.out.lt b e) g.size; exact e ▸ hs))
  have HACT := hid hact
  have HXX := hid hX
  have hfk := hg.ok r.f HFOK.out.1
  have hol := hg.outs r.f
  have hokk := hgk r.f
  have hEN : changeE E id act = (if (act r.f).2.2 = 4 then (4, none) else ((act r.f).2.2, outsE { E with runs := up E.runs id { r with f := (act r.f).1 } } id (act r.f).1.run E.now (act r.f).2.1)) := by
    unfold changeE; rw [hr]
  rw [hEN]
  clear hEN hact hX hg hgk
  obtain ⟨x, hx⟩ : ∃ x, act r.f = x := ⟨_, rfl⟩
  rw [hx] at hfk hol hokk HACT ⊢
  have HFK := hid hfk
  have HOL := hid hol
  have HOK := hid hokk
  rcases x with ⟨F', os, ec⟩
  simp only at HFK HOL HOK ⊢
  clear hP hlk' hfr hr hx hfk hol hokk
  by_cases h4 : ec = 4
  · subst h4
    rw [if_pos rfl]
    go_enter Tryz.func68, Tryz.ntmps68
    go_wp2_with (first
      | (go_at_call 75
         go_loud ((refine (HTW.out _ ((Gr.refl w).alloc _) (by simp)).mono ?_; rintro en w2 ⟨k', mb', rfl, hk', hmb', hne', g2, hr2, hM2⟩; have HR2 := hid hr2; have G2 := hid g2; have HB2 := hid ((g2.block w.heap.size (by simp)).trans (heap_alloc_new w _)); have fz := frozen_of (j := 0) HB2.out; obtain ⟨p0, p1, p2⟩ := cells3c HB2.out; have hb2 := block_lt HB2.out; have hks : w.heap.size < k' := (by simp at hk'; omega); have hmbs : w.heap.size < mb' := (by simp at hmb'; omega); clear hr2 g2 hM2 hk' hmb')))
      | (go_at_call 137
         have g3 : Gr w (w2.setCell ⟨w.heap.size, 0, none⟩ (.pointer (some ⟨k', 0, none⟩))) := (((Gr.refl w).alloc _).trans G2.out).set (p := ⟨w.heap.size, 0, none⟩) (Nat.le_refl _) _
         have hs3 : (w2.setCell ⟨w.heap.size, 0, none⟩ (.pointer (some ⟨k', 0, none⟩))).heap.size = w2.heap.size := by simp [World.setCell]
         have hkn : ¬ M k' := fun e => by have := H.out.lt k' e; omega
         have hmn : ¬ M mb' := fun e => by have := H.out.lt mb' e; omega
         have hff := HR2.out.twinF hne' (fun e => by rcases e with e | e; exact hmn e; omega)
         have hff3 : FlowF (w2.setCell ⟨w.heap.size, 0, none⟩ (.pointer (some ⟨k', 0, none⟩))) (plusK (plusB M w) k') k' r.f := flowF_set hff (.inl (.inr rfl)) (by omega)
         have hlt3 : ∀ b, plusK (plusB M w) k' b → b < (w2.setCell ⟨w.heap.size, 0, none⟩ (.pointer (some ⟨k', 0, none⟩))).heap.size := fun b e => by
           rcases e with (e | e) | e
           · exact Nat.lt_of_lt_of_le (H.out.lt b e) g3.size
           · rw [e, hs3]; exact hb2
           · rw [e, hs3]; exact HR2.out.lt.1
         have hcall := HACT.out _ (plusK (plusB M w) k') k' g3 (fun b e => .inl (.inl e)) (fun b hb e => by
           rcases e with (e | e) | e
           · exact e
           · omega
           · omega) hff3 hlt3 (.inr rfl) (by omega)
         refine hcall.mono ?_
         rintro en w4 ⟨A4, c4, rfl, hf4, ho4, hm4, hq4⟩
         have HQ4 := hid hq4
         have HFI := hid (hf4.stay (M := M) (fun b e => .inl (.inl e)) hkn)
         have HREC := hid (ho4.up (up_lessN w4 (M := M) (M' := plusK (plusB M w) k') (fun b e => .inl (.inl e))))
         have M4 := hid (modX g3 hm4 (by omega))
         have HB4 := hid ((hm4.block w.heap.size (by rw [hs3]; exact hb2) (by
           intro e
           rcases e with e | e
           · omega
           · exact Nat.lt_irrefl _ (H.out.lt _ (HXX.out _ e).1))).trans (set1_heap HB2.out (j := 0) _))
         clear hf4 ho4 hm4 hq4 hff hff3 g3 hs3 hcall hlt3))
    go_ret2
    exact ⟨w4, HQ4.out, M4.out, RetS.full ((Gr.refl w4).mod S) ⟨_, rfl⟩⟩
  rw [if_neg h4]
  simp only
  obtain ⟨R, hR⟩ : ∃ R, outsE { E with runs := up E.runs id ⟨F', r.pf, r.pr⟩ } id F'.run E.now os = R := ⟨_, rfl⟩
  rw [hR]
  have HR := hid hR
  clear hR
  cases R with
  | none =>
    go_enter Tryz.func68, Tryz.ntmps68
    go_upto_region 6 with (first
      | (go_at_call 75
         go_loud ((refine (HTW.out _ ((Gr.refl w).alloc _) (by simp)).mono ?_; rintro en w2 ⟨k', mb', rfl, hk', hmb', hne', g2, hr2, hM2⟩; have HR2 := hid hr2; have G2 := hid g2; have HB2 := hid ((g2.block w.heap.size (by simp)).trans (heap_alloc_new w _)); have fz := frozen_of (j := 0) HB2.out; obtain ⟨p0, p1, p2⟩ := cells3c HB2.out; have hb2 := block_lt HB2.out; have hks : w.heap.size < k' := (by simp at hk'; omega); have hmbs : w.heap.size < mb' := (by simp at hmb'; omega); clear hr2 g2 hM2 hk' hmb')))
      | (go_at_call 137
         have g3 : Gr w (w2.setCell ⟨w.heap.size, 0, none⟩ (.pointer (some ⟨k', 0, none⟩))) := (((Gr.refl w).alloc _).trans G2.out).set (p := ⟨w.heap.size, 0, none⟩) (Nat.le_refl _) _
         have hs3 : (w2.setCell ⟨w.heap.size, 0, none⟩ (.pointer (some ⟨k', 0, none⟩))).heap.size = w2.heap.size := by simp [World.setCell]
         have hkn : ¬ M k' := fun e => by have := H.out.lt k' e; omega
         have hmn : ¬ M mb' := fun e => by have := H.out.lt mb' e; omega
         have hff := HR2.out.twinF hne' (fun e => by rcases e with e | e; exact hmn e; omega)
         have hff3 : FlowF (w2.setCell ⟨w.heap.size, 0, none⟩ (.pointer (some ⟨k', 0, none⟩))) (plusK (plusB M w) k') k' r.f := flowF_set hff (.inl (.inr rfl)) (by omega)
         have hlt3 : ∀ b, plusK (plusB M w) k' b → b < (w2.setCell ⟨w.heap.size, 0, none⟩ (.pointer (some ⟨k', 0, none⟩))).heap.size := fun b e => by
           rcases e with (e | e) | e
           · exact Nat.lt_of_lt_of_le (H.out.lt b e) g3.size
           · rw [e, hs3]; exact hb2
           · rw [e, hs3]; exact HR2.out.lt.1
         have hcall := HACT.out _ (plusK (plusB M w) k') k' g3 (fun b e => .inl (.inl e)) (fun b hb e => by
           rcases e with (e | e) | e
           · exact e
           · omega
           · omega) hff3 hlt3 (.inr rfl) (by omega)
         refine hcall.mono ?_
         rintro en w4 ⟨A4, c4, rfl, hf4, ho4, hm4, hq4⟩
         have HQ4 := hid hq4
         have HFI := hid (hf4.stay (M := M) (fun b e => .inl (.inl e)) hkn)
         have HREC := hid (ho4.up (up_lessN w4 (M := M) (M' := plusK (plusB M w) k') (fun b e => .inl (.inl e))))
         have M4 := hid (modX g3 hm4 (by omega))
         have HB4 := hid ((hm4.block w.heap.size (by rw [hs3]; exact hb2) (by
           intro e
           rcases e with e | e
           · omega
           · exact Nat.lt_irrefl _ (H.out.lt _ (HXX.out _ e).1))).trans (set1_heap HB2.out (j := 0) _))
         clear hf4 ho4 hm4 hq4 hff hff3 g3 hs3 hcall hlt3))
    obtain ⟨p0, p1, p2⟩ := cells3c HB4.out
    have hl4 := block_lt HB4.out
    have P4 := hid (H.out.keep (Mod.up M4.out (fun b _ e => (HXX.out b e).1)) (fun b e => M4.out.block b (H.out.lt b (H.out.SM b e)) (fun x => (HXX.out b x).2 e)) H.out.SM (fun b e => Nat.lt_of_lt_of_le (H.out.lt b e) M4.out.size))
    obtain ⟨_, _, _, _, f4, f5, _, hk4⟩ := P4.out.cells
    obtain ⟨kv, hmi, hrel⟩ := P4.out.r
    have HMI := hid hmi
    have HREL := hid hrel
    clear hmi hrel
    have HRN := hid HFK.out.2.2
    have HNX := hid (nx_run (E := E) (id := id) (r := ⟨F', r.pf, r.pr⟩) (fun _ => ⟨HFK.out.1, HFK.out.2.1.trans HFOK.out.2⟩))
    refine wp_region_planM [(0, false), (1, false), (2, false), (3, false), (4, false), (5, false), (6, true)] (fun W => Gr w4 W) (by kernel_rfl) (by kernel_rfl) (fun _ _ d _ _ h => by cases d <;> exact h) (Gr.refl w4).drew (fun _ => ?_)
    iterate 6 (refine pm_take (v := ?_) rfl (by rfl) ?_ ?_; rotate_left; (focus (intro W9 hW9; obtain ⟨x9, rfl⟩ : ∃ x : Ext w4, W9 = x.val := ⟨⟨W9, hW9⟩, rfl⟩; go_simp; (try with_reducible rfl); done)); (try simp only [AP]))
    refine pm_last rfl (by rfl) (fun K hK => ?_)
    refine opwp_mapUpdate _ _ _ _ 76 rfl 3 109 Tryz.underlying76 Tryz.underlying3 mr kv id (runV k' r.pf r.pr) (by rfl) (HMI.out.gr (Gr.refl w4).drew) (by rfl) (by rfl) ?_
    intro w7 hmi7 hm7
    have P7 := hid ((P4.out.gr (Gr.refl w4).drew).putRun hm7 (HREL.out.mono fun a v hr => hr.up (Gr.up (Gr.refl w4).drew M)) hmi7 (HFI.out.up (Gr.up (Gr.refl w4).drew M)))
    have AL := hid (show Along w4 M S w7 M S from ⟨((Gr.refl w4).drew.mod S).trans hm7 (fun b _ e => e ▸ H.out.smr), fun _ _ e => e, fun _ _ e => e, fun _ e => e⟩)
    have HREC7 := hid (HREC.out.up ((Gr.up (Gr.refl w4).drew M).trans (Mod.up hm7 (fun b _ e => e ▸ H.out.SM _ H.out.smr))))
    have HOUT := hid (outs_any PUT k { E with runs := up E.runs id ⟨F', r.pf, r.pr⟩ } id E.now os _ M S w7 P7.out (HNX.out.ok hE) ⟨F', r.pf, r.pr⟩ (lk_up_same _ _ _) HREC7.out (by have := HOL.out; simp; omega) (fun o ho => HOK.out o ho))
    rw [HR.out] at HOUT
    have HSZ := hid hm7.size
    refine hK.out _ _ ?_
    clear hK K hmi7
    obtain ⟨_, _, _, _, i4, _, _, ik⟩ : w7.cell? ⟨k, 0, none⟩ = some (.pointer (some ⟨kd, 0, none⟩)) ∧ w7.cell? ⟨k, 1, none⟩ = some (.pointer (some ⟨ka, 0, none⟩)) ∧ w7.cell? ⟨k, 2, none⟩ = some (.int .i64 E.shard) ∧ w7.cell? ⟨k, 3, none⟩ = some (.int .i64 E.groups) ∧ w7.cell? ⟨k, 4, none⟩ = some (.int .i64 E.now) ∧ w7.cell? ⟨k, 5, none⟩ = some (.map (some mr)) ∧ w7.cell? ⟨k, 6, none⟩ = some (.pointer (some ⟨kh, 0, none⟩)) ∧ k < w7.heap.size := by
      have hb := (hm7.block k (by simpa using hk4) (fun e => (ne_map_cells HMI.out P4.out.cell) e.symm)).trans ((Gr.refl w4).drew.block k hk4 |>.trans P4.out.cell)
      refine ⟨?_, ?_, ?_, ?_, ?_, ?_, ?_, block_lt hb⟩ <;> simp [World.cell?, hb]
    clear hm7
    go_wp2_with (go_at_call 77; go_loud ((refine HOUT.out.mono ?_; intro en w9 hret; rcases hret.cases with ⟨_, v9, hen, hv9, hm9⟩ | ⟨E9, M9, S9, e9, _⟩; rotate_left; (cases e9); have hv9' : v9 = .bool false := hv9; subst hv9'; subst hen; have HM9 := hid hm9; clear hret hm9 hv9)))
    go_ret2
    exact ⟨w4, HQ4.out, M4.out, RetS.none_ AL.out HM9.out ⟨_, rfl⟩⟩
  | some E' =>
    go_enter Tryz.func68, Tryz.ntmps68
    go_upto_region 6 with (first
      | (go_at_call 75
         go_loud ((refine (HTW.out _ ((Gr.refl w).alloc _) (by simp)).mono ?_; rintro en w2 ⟨k', mb', rfl, hk', hmb', hne', g2, hr2, hM2⟩; have HR2 := hid hr2; have G2 := hid g2; have HB2 := hid ((g2.block w.heap.size (by simp)).trans (heap_alloc_new w _)); have fz := frozen_of (j := 0) HB2.out; obtain ⟨p0, p1, p2⟩ := cells3c HB2.out; have hb2 := block_lt HB2.out; have hks : w.heap.size < k' := (by simp at hk'; omega); have hmbs : w.heap.size < mb' := (by simp at hmb'; omega); clear hr2 g2 hM2 hk' hmb')))
      | (go_at_call 137
         have g3 : Gr w (w2.setCell ⟨w.heap.size, 0, none⟩ (.pointer (some ⟨k', 0, none⟩))) := (((Gr.refl w).alloc _).trans G2.out).set (p := ⟨w.heap.size, 0, none⟩) (Nat.le_refl _) _
         have hs3 : (w2.setCell ⟨w.heap.size, 0, none⟩ (.pointer (some ⟨k', 0, none⟩))).heap.size = w2.heap.size := by simp [World.setCell]
         have hkn : ¬ M k' := fun e => by have := H.out.lt k' e; omega
         have hmn : ¬ M mb' := fun e => by have := H.out.lt mb' e; omega
         have hff := HR2.out.twinF hne' (fun e => by rcases e with e | e; exact hmn e; omega)
         have hff3 : FlowF (w2.setCell ⟨w.heap.size, 0, none⟩ (.pointer (some ⟨k', 0, none⟩))) (plusK (plusB M w) k') k' r.f := flowF_set hff (.inl (.inr rfl)) (by omega)
         have hlt3 : ∀ b, plusK (plusB M w) k' b → b < (w2.setCell ⟨w.heap.size, 0, none⟩ (.pointer (some ⟨k', 0, none⟩))).heap.size := fun b e => by
           rcases e with (e | e) | e
           · exact Nat.lt_of_lt_of_le (H.out.lt b e) g3.size
           · rw [e, hs3]; exact hb2
           · rw [e, hs3]; exact HR2.out.lt.1
         have hcall := HACT.out _ (plusK (plusB M w) k') k' g3 (fun b e => .inl (.inl e)) (fun b hb e => by
           rcases e with (e | e) | e
           · exact e
           · omega
           · omega) hff3 hlt3 (.inr rfl) (by omega)
         refine hcall.mono ?_
         rintro en w4 ⟨A4, c4, rfl, hf4, ho4, hm4, hq4⟩
         have HQ4 := hid hq4
         have HFI := hid (hf4.stay (M := M) (fun b e => .inl (.inl e)) hkn)
         have HREC := hid (ho4.up (up_lessN w4 (M := M) (M' := plusK (plusB M w) k') (fun b e => .inl (.inl e))))
         have M4 := hid (modX g3 hm4 (by omega))
         have HB4 := hid ((hm4.block w.heap.size (by rw [hs3]; exact hb2) (by
           intro e
           rcases e with e | e
           · omega
           · exact Nat.lt_irrefl _ (H.out.lt _ (HXX.out _ e).1))).trans (set1_heap HB2.out (j := 0) _))
         clear hf4 ho4 hm4 hq4 hff hff3 g3 hs3 hcall hlt3))
    obtain ⟨p0, p1, p2⟩ := cells3c HB4.out
    have hl4 := block_lt HB4.out
    have P4 := hid (H.out.keep (Mod.up M4.out (fun b _ e => (HXX.out b e).1)) (fun b e => M4.out.block b (H.out.lt b (H.out.SM b e)) (fun x => (HXX.out b x).2 e)) H.out.SM (fun b e => Nat.lt_of_lt_of_le (H.out.lt b e) M4.out.size))
    obtain ⟨_, _, _, _, f4, f5, _, hk4⟩ := P4.out.cells
    obtain ⟨kv, hmi, hrel⟩ := P4.out.r
    have HMI := hid hmi
    have HREL := hid hrel
    clear hmi hrel
    have HRN := hid HFK.out.2.2
    have HNX := hid (nx_run (E := E) (id := id) (r := ⟨F', r.pf, r.pr⟩) (fun _ => ⟨HFK.out.1, HFK.out.2.1.trans HFOK.out.2⟩))
    refine wp_region_planM [(0, false), (1, false), (2, false), (3, false), (4, false), (5, false), (6, true)] (fun W => Gr w4 W) (by kernel_rfl) (by kernel_rfl) (fun _ _ d _ _ h => by cases d <;> exact h) (Gr.refl w4).drew (fun _ => ?_)
    iterate 6 (refine pm_take (v := ?_) rfl (by rfl) ?_ ?_; rotate_left; (focus (intro W9 hW9; obtain ⟨x9, rfl⟩ : ∃ x : Ext w4, W9 = x.val := ⟨⟨W9, hW9⟩, rfl⟩; go_simp; (try with_reducible rfl); done)); (try simp only [AP]))
    refine pm_last rfl (by rfl) (fun K hK => ?_)
    refine opwp_mapUpdate _ _ _ _ 76 rfl 3 109 Tryz.underlying76 Tryz.underlying3 mr kv id (runV k' r.pf r.pr) (by rfl) (HMI.out.gr (Gr.refl w4).drew) (by rfl) (by rfl) ?_
    intro w7 hmi7 hm7
    have P7 := hid ((P4.out.gr (Gr.refl w4).drew).putRun hm7 (HREL.out.mono fun a v hr => hr.up (Gr.up (Gr.refl w4).drew M)) hmi7 (HFI.out.up (Gr.up (Gr.refl w4).drew M)))
    have AL := hid (show Along w4 M S w7 M S from ⟨((Gr.refl w4).drew.mod S).trans hm7 (fun b _ e => e ▸ H.out.smr), fun _ _ e => e, fun _ _ e => e, fun _ e => e⟩)
    have HREC7 := hid (HREC.out.up ((Gr.up (Gr.refl w4).drew M).trans (Mod.up hm7 (fun b _ e => e ▸ H.out.SM _ H.out.smr))))
    have HOUT := hid (outs_any PUT k { E with runs := up E.runs id ⟨F', r.pf, r.pr⟩ } id E.now os _ M S w7 P7.out (HNX.out.ok hE) ⟨F', r.pf, r.pr⟩ (lk_up_same _ _ _) HREC7.out (by have := HOL.out; simp; omega) (fun o ho => HOK.out o ho))
    rw [HR.out] at HOUT
    have HSZ := hid hm7.size
    refine hK.out _ _ ?_
    clear hK K hmi7
    obtain ⟨_, _, _, _, i4, _, _, ik⟩ : w7.cell? ⟨k, 0, none⟩ = some (.pointer (some ⟨kd, 0, none⟩)) ∧ w7.cell? ⟨k, 1, none⟩ = some (.pointer (some ⟨ka, 0, none⟩)) ∧ w7.cell? ⟨k, 2, none⟩ = some (.int .i64 E.shard) ∧ w7.cell? ⟨k, 3, none⟩ = some (.int .i64 E.groups) ∧ w7.cell? ⟨k, 4, none⟩ = some (.int .i64 E.now) ∧ w7.cell? ⟨k, 5, none⟩ = some (.map (some mr)) ∧ w7.cell? ⟨k, 6, none⟩ = some (.pointer (some ⟨kh, 0, none⟩)) ∧ k < w7.heap.size := by
      have hb := (hm7.block k (by simpa using hk4) (fun e => (ne_map_cells HMI.out P4.out.cell) e.symm)).trans ((Gr.refl w4).drew.block k hk4 |>.trans P4.out.cell)
      refine ⟨?_, ?_, ?_, ?_, ?_, ?_, ?_, block_lt hb⟩ <;> simp [World.cell?, hb]
    clear hm7
    go_wp2_with (go_at_call 77; go_loud ((refine HOUT.out.mono ?_; intro en w9 hret; rcases hret.cases with ⟨e9, _⟩ | ⟨E9, M9, S9, e9, hen, he9, ha9⟩; (cases e9); injection e9 with e9; subst e9; subst hen; have HE9 := hid he9; have HA9 := hid ha9; clear hret he9 ha9)))
    go_ret2
    exact ⟨w4, HQ4.out, M4.out, RetS.some_ (AL.out.trans HA9.out) HE9.out⟩
def RetG (M S : Bl) (k : Nat) (R : Option (Ans × ES)) (w : World) (en : Ending) (w2 : World) : Prop :=
  match R with
  | some (a, E') => ∃ dv M' S', en = .returned (.tuple #[ansV a dv (.slice none 0 0), .bool true]) ∧ EngR w2 M' S' k E' ∧ Along w M S w2 M' S' ∧ BysM w2 M' dv a.data
  | none => ∃ a A n c, en = .returned (.tuple #[ansV a (.slice A n c) (.slice none 0 0), .bool false]) ∧ Mod S w w2
theorem RetQ.mono {M X : Bl} {k : Nat} {x : FR} {Q Q' : World → Prop} {w : World} {e : Ending} {w' : World} (h : RetQ M k X x Q w e w') (hq : ∀ W, Q W → Q' W) : RetQ M k X x Q' w e w' := by
  obtain ⟨A, c, h1, h2, h3, h4, h5⟩ := h
  exact ⟨A, c, h1, h2, h3, h4, hq _ h5⟩
theorem wanted_spec {E : ES} {t : Task} (h : wantedE E t = true) : ∃ r, lk E.runs t.flow = some r ∧ r.f.run = t.run ∧ wantsF r.f t.ref t.turn = true := by
  unfold wantedE at h
  cases hr : lk E.runs t.flow with
  | none => rw [hr] at h; cases h
  | some r =>
    rw [hr] at h
    simp only [Bool.and_eq_true, beq_iff_eq] at h
    exact ⟨r, rfl, h.1, h.2⟩
theorem wants_ev {F : FS} (hF : FOk F) {ref : Int} (h : wantsF F ref (-1) = true) : (∃ e es, eventsF F ref = e :: es) ∧ 0 ≤ ref ∧ ref ≤ 1000000 := by
  obtain ⟨o, ho, _⟩ := wants_op h
  obtain ⟨h1, h2, e, h3, _⟩ := hF.i.ka ho
  have := hF.len
  refine ⟨?_, by omega, by omega⟩
  unfold eventsF
  rw [if_neg (by omega), show (max ref 1 - 1).toNat = (ref - 1).toNat by omega]
  have hlt : (ref - 1).toNat < F.l.length := by omega
  exact ⟨_, _, List.drop_eq_getElem_cons hlt⟩
theorem alloc5 (w : World) (o0 o1 o2 o3 o4 : Obj) : ∃ w1, ((((w.alloc o0).alloc o1).alloc o2).alloc o3).alloc o4 = w1 ∧ Gr w w1 ∧ w1.heap[w.heap.size]? = some o0 ∧ w1.heap[w.heap.size + 1]? = some o1 ∧ w1.heap[w.heap.size + 1 + 1]? = some o2 ∧ w1.heap[w.heap.size + 1 + 1 + 1]? = some o3 ∧ w1.heap[w.heap.size + 1 + 1 + 1 + 1]? = some o4 := by
  refine ⟨_, rfl, (((((Gr.refl w).alloc _).alloc _).alloc _).alloc _).alloc _, ?_, ?_, ?_, ?_, ?_⟩
  · exact (((((Gr.refl _).alloc o1).alloc o2).alloc o3).alloc o4).block _ (by simp) |>.trans (heap_alloc_new w o0)
  · exact ((((Gr.refl _).alloc o2).alloc o3).alloc o4).block _ (by simp) |>.trans (by have := heap_alloc_new (w.alloc o0) o1; simpa using this)
  · exact (((Gr.refl _).alloc o3).alloc o4).block _ (by simp) |>.trans (by have := heap_alloc_new ((w.alloc o0).alloc o1) o2; simpa using this)
  · exact ((Gr.refl _).alloc o4).block _ (by simp) |>.trans (by have := heap_alloc_new (((w.alloc o0).alloc o1).alloc o2) o3; simpa using this)
  · have := heap_alloc_new ((((w.alloc o0).alloc o1).alloc o2).alloc o3) o4; simpa using this
theorem mod10 (w : World) (B : Nat) (u0 u1 u2 u3 u4 u5 u6 u7 u8 u9 : Value) : Mod (fun k => k = B) w ((((((((((w.setCell ⟨B, 0, none⟩ u0).setCell ⟨B, 1, none⟩ u1).setCell ⟨B, 2, none⟩ u2).setCell ⟨B, 3, none⟩ u3).setCell ⟨B, 4, none⟩ u4).setCell ⟨B, 5, none⟩ u5).setCell ⟨B, 6, none⟩ u6).setCell ⟨B, 7, none⟩ u7).setCell ⟨B, 8, none⟩ u8).setCell ⟨B, 9, none⟩ u9) := by
  refine mod_set (mod_set (mod_set (mod_set (mod_set (mod_set (mod_set (mod_set (mod_set (mod_set ((Gr.refl w).mod _) ?_ _) ?_ _) ?_ _) ?_ _) ?_ _) ?_ _) ?_ _) ?_ _) ?_ _) ?_ _ <;> exact fun _ => rfl
theorem EngR.setOther {w w' : World} {M S : Bl} {k B : Nat} {E : ES} (h : EngR w M S k E) (m : Mod (fun b => b = B) w w') (hB : M B) (hS : ¬ S B) : EngR w' M S k E :=
  h.keep (Mod.up m (fun _ _ e => e ▸ hB)) (fun b e => m.block b (h.lt.1 b (h.lt.2.1 b e)) (fun x => hS (x ▸ e))) h.lt.2.1 (fun b e => Nat.lt_of_lt_of_le (h.lt.1 b e) m.size)
theorem mod_outer {w w1 w4 w2 w3 : World} {S : Bl} {B1 B2 : Nat} (g : Gr w w1) (x : Mod (fun b => b = B1) w1 w4) (m : Mod S w4 w2) (y : Mod (fun b => b = B2) w2 w3) (h1 : w.heap.size ≤ B1) (h2 : w.heap.size ≤ B2) : Mod S w w3 := by
  have gs := g.size
  have xs := x.size
  have ms := m.size
  have ys := y.size
  refine ⟨y.os.trans (m.os.trans (x.os.trans g.os)), y.tape.trans (m.tape.trans (x.tape.trans g.tape)), y.output.trans (m.output.trans (x.output.trans g.output)), by omega, fun b hb hn => ?_⟩
  exact (y.block b (by omega) (by show ¬ b = B2; omega)).trans ((m.block b (by omega) hn).trans ((x.block b (by omega) (by show ¬ b = B1; omega)).trans (g.block b hb)))
set_option maxHeartbeats 4000000 in
theorem give_anyE (PUT : PutAny) (k : Nat) (E : ES) (c : Call) (d l : Value) (t : Task) (M S : Bl) (w : World) (h : EngR w M S k E) (hE : EOk E) (hdue : E.due.length ≤ 998000) (hc : CallM w M c d l) (hw : wantedE E t = true) (hta : (c.kind == 7) = false → t.turn = -1) :
    Calls Tryz.prog 103 #[.pointer (some ⟨k, 0, none⟩), callV c d l, tkV t] w (RetG M S k (giveE E (c.kind == 7) t) w) := by
  obtain ⟨r, hr, hrun, hwants⟩ := wanted_spec hw
  obtain ⟨Ad, cd, rfl⟩ := hc.1.shape
  obtain ⟨Al, cl, rfl, _⟩ := hc.2.shape
  have HENG := hid h
  have HLT := hid h.lt
  have hgE : giveE E (c.kind == 7) t = (match changeE E t.flow (giveD (c.kind == 7) t E.now) with | (e, some E') => if e = 0 then some (giveA (c.kind == 7) t r.f, E') else none | (_, none) => none) := by
    unfold giveE; rw [hr]; rfl
  rw [hgE]
  clear hgE
  have HFOK := hid (hE.get hr)
  have HR := hid hr
  have HTA := hid hta
  have HW := hid hwants
  clear hr hta hwants hw hc
  rcases c with ⟨ck, cf, cli, cn, ⟨tf, tr, te, tt⟩, cdat, cls⟩
  rcases t with ⟨af, ar, ae, at_⟩
  simp only [callV, callC, tkV] at *
  generalize cdat.length = dl at *
  generalize cls.length = ll at *
  obtain ⟨bb, hbb⟩ : ∃ bb, (ck == 7) = bb := ⟨_, rfl⟩
  rw [hbb] at HTA ⊢
  have HBB := hid hbb
  clear hbb
  have HCALL := hid (show ∀ w1, Gr w w1 → w1.heap[w.heap.size]? = some (.cells #[.pointer (some ⟨k, 0, none⟩)] 24 (0, 0)) → w1.heap[w.heap.size + 1]? = some (.cells #[.int .i64 ck, .int .i64 cf, .int .i64 cli, .int .i64 cn, .int .i64 tf, .int .i64 tr, .int .i64 te, .int .i64 tt, .slice Ad dl cd, .slice Al ll cl] 35 (0, 0)) → w1.heap[w.heap.size + 1 + 1]? = some (.cells #[.int .i64 af, .int .i64 ar, .int .i64 ae, .int .i64 at_] 84 (0, 0)) →
      (∃ o, w1.heap[w.heap.size + 1 + 1 + 1]? = some o) → w1.heap[w.heap.size + 1 + 1 + 1 + 1]? = some (.cells (ansC (giveA true ⟨af, ar, ae, at_⟩ r.f) (.slice none 0 0) (.slice none 0 0)) 31 (0, 0)) → ∃ M1 : Bl, M1 (w.heap.size + 1 + 1 + 1) ∧ M1 (w.heap.size + 1 + 1 + 1 + 1) ∧ (∀ b, M b → M1 b) ∧ (∀ b, b < w.heap.size → M1 b → M b) ∧ EngR w1 M1 S k E ∧
      Calls Tryz.prog 68 #[.pointer (some ⟨k, 0, none⟩), .int .i64 af, .func (.func 137) #[] #[.pointer (some ⟨w.heap.size + 1, 0, none⟩), .pointer (some ⟨w.heap.size + 1 + 1, 0, none⟩), .pointer (some ⟨w.heap.size, 0, none⟩), .pointer (some ⟨w.heap.size + 1 + 1 + 1 + 1, 0, none⟩)]] w1 (RetC M1 S (fun b => b = w.heap.size + 1 + 1 + 1 + 1) k (changeE E af (giveD bb ⟨af, ar, ae, at_⟩ E.now)).2 (.tuple #[.int .i64 (changeE E af (giveD bb ⟨af, ar, ae, at_⟩ E.now)).1, .bool false]) vC (Told (w.heap.size + 1 + 1 + 1 + 1) M1 (giveA bb ⟨af, ar, ae, at_⟩ r.f)) w1) from by
    intro w1 g1 b0 b1 b2 b3 b4
    obtain ⟨o3, b3⟩ := b3
    have l3 : w.heap.size + 1 + 1 + 1 < w1.heap.size := (Array.getElem?_eq_some_iff.1 b3).1
    have l4 := block_lt b4
    have hup : Up M w (fun b => M b ∨ b = w.heap.size + 1 + 1 + 1 ∨ b = w.heap.size + 1 + 1 + 1 + 1) w1 := ⟨g1.mod M, fun b hb e => by
      rcases e with e | e | e
      · exact e
      · omega
      · omega⟩
    have hlt1 : ∀ b, (M b ∨ b = w.heap.size + 1 + 1 + 1 ∨ b = w.heap.size + 1 + 1 + 1 + 1) → b < w1.heap.size := fun b e => by
      rcases e with e | e | e
      · exact Nat.lt_of_lt_of_le (HLT.out.1 b e) g1.size
      · omega
      · omega
    have heng1 : EngR w1 (fun b => M b ∨ b = w.heap.size + 1 + 1 + 1 ∨ b = w.heap.size + 1 + 1 + 1 + 1) S k E := HENG.out.keep hup (fun b e => g1.block b (HLT.out.1 b (HLT.out.2.1 b e))) (fun b e => .inl (HLT.out.2.1 b e)) hlt1
    refine ⟨fun b => M b ∨ b = w.heap.size + 1 + 1 + 1 ∨ b = w.heap.size + 1 + 1 + 1 + 1, .inr (.inl rfl), .inr (.inr rfl), fun b e => .inl e, fun b hb e => by
      rcases e with e | e | e
      · exact e
      · omega
      · omega, heng1, ?_⟩
    refine change_137 PUT _ _ _ _ k E af (giveD bb ⟨af, ar, ae, at_⟩ E.now) _ S _ _ w1 heng1 hE hdue r HR.out (good_give _ _ _) (goodK_give _ _ _) (fun b e => ⟨.inr (.inr e), fun x => by have := HLT.out.1 b (HLT.out.2.1 b x); omega⟩) ?_
    intro W M' k' gW hMM hMb hff hltW hkM hk'
    obtain ⟨kd, ka, md, ma, mr, kh, hv, hP⟩ := heng1
    have hkW := (gW.block k (block_lt hP.cell)).trans hP.cell
    have bsz : k < w.heap.size := HLT.out.1 k (HLT.out.2.1 k HLT.out.2.2)
    have c0 := (gW.block _ (block_lt b0)).trans b0
    have c1 := (gW.block _ (block_lt b1)).trans b1
    have c2 := (gW.block _ (block_lt b2)).trans b2
    have c4 := (gW.block _ (block_lt b4)).trans b4
    have hall : k ≠ k' ∧ w.heap.size + 1 ≠ k' ∧ w.heap.size + 1 + 1 ≠ k' ∧ w.heap.size ≠ k' ∧ w.heap.size + 1 + 1 + 1 + 1 ≠ k' ∧ k ≠ w.heap.size + 1 + 1 + 1 + 1 ∧ w.heap.size + 1 + 1 ≠ w.heap.size + 1 + 1 + 1 + 1 ∧ w.heap.size ≠ w.heap.size + 1 + 1 + 1 + 1 := by omega
    cases bb with
    | true =>
      have h7 : ck = 7 := by simpa using HBB.out
      have hq := give1_T PUT k' (w.heap.size + 1) (w.heap.size + 1 + 1) (w.heap.size) (w.heap.size + 1 + 1 + 1 + 1) k kd ka mr kh E ⟨af, ar, ae, at_⟩ r.f ck _ M' W hkW hff hltW hkM (hMM _ (.inr (.inr rfl))) hall HFOK.out.1 c1 c2 c0 c4 h7
      exact hq.mono fun en W' hh => hh.mono fun W'' ht => ht.up (up_lessN W'' hMM) rfl
    | false =>
      have h7 : ck ≠ 7 := by simpa using HBB.out
      have htn := HTA.out rfl
      try simp only at htn
      have hwn := HW.out
      rw [htn] at hwn
      obtain ⟨⟨e, es, hev⟩, hrf⟩ := wants_ev HFOK.out.1 hwn
      have hq := give1_F PUT k' (w.heap.size + 1) (w.heap.size + 1 + 1) (w.heap.size) (w.heap.size + 1 + 1 + 1 + 1) k kd ka mr kh E ⟨af, ar, ae, at_⟩ r.f ck _ M' W hkW hff hltW hkM (hMM _ (.inr (.inr rfl))) hall HFOK.out.1 c1 c2 c0 c4 h7 e es hev hrf
      exact hq.mono fun en W' hh => hh.mono fun W'' ht => ht.up (up_lessN W'' hMM) rfl)
  obtain ⟨aa, haa⟩ : ∃ aa, giveA bb ⟨af, ar, ae, at_⟩ r.f = aa := ⟨_, rfl⟩
  rw [haa] at HCALL
  have HAA := hid haa
  rw [haa]
  obtain ⟨x, hx⟩ : ∃ x, changeE E af (giveD bb ⟨af, ar, ae, at_⟩ E.now) = x := ⟨_, rfl⟩
  try simp only at hx
  rw [hx] at HCALL ⊢
  rcases x with ⟨ec, R⟩
  obtain ⟨Y, hY⟩ : ∃ Y : Option (Ans × ES), (match ((ec, R) : Int × Option ES) with | (e, some E') => if e = 0 then some (aa, E') else none | (_, none) => none) = Y := ⟨_, rfl⟩
  rw [hY]
  have HY := hid hY
  clear hx hY haa HW HTA HFOK HR
  try simp only at HCALL
  cases R with
  | none =>
    have hY0 : Y = none := by rw [← HY.out]
    subst hY0
    go_enter Tryz.func103, Tryz.ntmps103
    go_wp2_with (go_at_call 68
                 generalize hmx : (if at_ < 0 then 0 else at_) = mx
                 have hmax : max at_ 0 = mx := by rw [← hmx]; split <;> omega
                 obtain ⟨w1, hw1, g1, b0, b1, b2, b3, b4⟩ := alloc5 w (.cells #[.pointer (some ⟨k, 0, none⟩)] 24) (.cells #[.int .i64 ck, .int .i64 cf, .int .i64 cli, .int .i64 cn, .int .i64 tf, .int .i64 tr, .int .i64 te, .int .i64 tt, .slice Ad dl cd, .slice Al ll cl] 35) (.cells #[.int .i64 af, .int .i64 ar, .int .i64 ae, .int .i64 at_] 84) (.cells #[.int .i64 0, .int .i64 0, .int .i64 0, .bool false, .int .i64 0, .int .i64 0, .int .i64 0, .int .i64 0, .slice none 0 0, .slice none 0 0] 31) (.cells #[.int .i64 0, .int .i64 0, .int .i64 0, .bool true, .int .i64 af, .int .i64 ar, .int .i64 ae, .int .i64 mx, .slice none 0 0, .slice none 0 0] 31)
                 rw [hw1]
                 have hcall := HCALL.out w1 g1 b0 b1 b2 ⟨_, b3⟩ (b4.trans (by simp [ansC, giveA, hmax, ans0]))
                 obtain ⟨M1, hm3, hm4, hMM, hMo, heng1, hcall⟩ := hcall
                 refine hcall.mono ?_
                 rintro en w2 ⟨w4, htold, hmodX, hret⟩
                 have G1 := hid g1
                 have hS1 : ∀ b, S b → b < w.heap.size := fun b e => HLT.out.1 b (HLT.out.2.1 b e)
                 have MR := hid hret.1
                 obtain ⟨dv, hdc, hdb⟩ := htold
                 obtain ⟨Adv, cdv, rfl⟩ := hdb.shape
                 have n3 : ¬ S (w.heap.size + 1 + 1 + 1) := fun e => by have := hS1 _ e; omega
                 have n4 : ¬ S (w.heap.size + 1 + 1 + 1 + 1) := fun e => by have := hS1 _ e; omega
                 have HPA := hid ((MR.out.block _ (block_lt hdc) n4).trans hdc)
                 have hz4 := (hmodX.block _ (block_lt b3) (by show ¬ w.heap.size + 1 + 1 + 1 = w.heap.size + 1 + 1 + 1 + 1; omega)).trans b3
                 have HBC := hid ((MR.out.block _ (block_lt hz4) n3).trans hz4)
                 have HM34 := hid (And.intro hm3 hm4)
                 have HMM := hid (And.intro hMM hMo)
                 have HE1 := hid heng1
                 have HX := hid hmodX
                 have HDB := hid hdb
                 have N3 := hid n3
                 have HZ := hid (block_lt hz4)
                 clear hmax g1 b0 b1 b2 b3 b4 hm3 hm4 hMM hMo heng1 hcall hdc hdb n3 n4 hz4 hmodX hS1 hmx hw1
                 have hpal := block_lt HPA.out
                 have hbcl := block_lt HBC.out
                 simp only [ansC] at HPA
                 obtain ⟨a0, a1, a2, a3, a4, a5, a6, a7, a8, a9⟩ := cells10 HPA.out
                 obtain ⟨q0, q1, q2, q3, q4, q5, q6, q7, q8, q9⟩ := cells10 HBC.out
                 obtain ⟨z0, z1, z2, z3, z4, z5, z6, z7, z8, z9⟩ := FZ HBC.out
                 obtain ⟨_, v9, hen, ⟨xe, rfl⟩, hm9⟩ | ⟨E9, M9, S9, e9, _⟩ := hret.cases
                 rotate_left
                 · cases e9
                 subst hen
                 clear hret hm9)
    all_goals (
      refine bodyPost_ret (v := .tuple #[ansV aa (.slice Adv aa.data.length cdv) (.slice none 0 0), .bool false]) (by simp [results, Tryz.results103, go_sem, ansV, ansC, q0, q1, q2, q3, q4, q5, q6, q7, q8, q9]) rfl ?_
      exact ⟨aa, Adv, _, cdv, rfl, mod_outer G1.out HX.out MR.out (mod10 w2 (w.heap.size + 1 + 1 + 1) _ _ _ _ _ _ _ _ _ _) (by omega) (by omega)⟩)
  | some E' =>
    by_cases hec : ec = 0
    · subst hec
      have hY0 : Y = some (aa, E') := by rw [← HY.out]; rfl
      subst hY0
      go_enter Tryz.func103, Tryz.ntmps103
      go_wp2_with (go_at_call 68
                   generalize hmx : (if at_ < 0 then 0 else at_) = mx
                   have hmax : max at_ 0 = mx := by rw [← hmx]; split <;> omega
                   obtain ⟨w1, hw1, g1, b0, b1, b2, b3, b4⟩ := alloc5 w (.cells #[.pointer (some ⟨k, 0, none⟩)] 24) (.cells #[.int .i64 ck, .int .i64 cf, .int .i64 cli, .int .i64 cn, .int .i64 tf, .int .i64 tr, .int .i64 te, .int .i64 tt, .slice Ad dl cd, .slice Al ll cl] 35) (.cells #[.int .i64 af, .int .i64 ar, .int .i64 ae, .int .i64 at_] 84) (.cells #[.int .i64 0, .int .i64 0, .int .i64 0, .bool false, .int .i64 0, .int .i64 0, .int .i64 0, .int .i64 0, .slice none 0 0, .slice none 0 0] 31) (.cells #[.int .i64 0, .int .i64 0, .int .i64 0, .bool true, .int .i64 af, .int .i64 ar, .int .i64 ae, .int .i64 mx, .slice none 0 0, .slice none 0 0] 31)
                   rw [hw1]
                   have hcall := HCALL.out w1 g1 b0 b1 b2 ⟨_, b3⟩ (b4.trans (by simp [ansC, giveA, hmax, ans0]))
                   obtain ⟨M1, hm3, hm4, hMM, hMo, heng1, hcall⟩ := hcall
                   refine hcall.mono ?_
                   rintro en w2 ⟨w4, htold, hmodX, hret⟩
                   have G1 := hid g1
                   have hS1 : ∀ b, S b → b < w.heap.size := fun b e => HLT.out.1 b (HLT.out.2.1 b e)
                   have MR := hid hret.1
                   obtain ⟨dv, hdc, hdb⟩ := htold
                   obtain ⟨Adv, cdv, rfl⟩ := hdb.shape
                   have n3 : ¬ S (w.heap.size + 1 + 1 + 1) := fun e => by have := hS1 _ e; omega
                   have n4 : ¬ S (w.heap.size + 1 + 1 + 1 + 1) := fun e => by have := hS1 _ e; omega
                   have HPA := hid ((MR.out.block _ (block_lt hdc) n4).trans hdc)
                   have hz4 := (hmodX.block _ (block_lt b3) (by show ¬ w.heap.size + 1 + 1 + 1 = w.heap.size + 1 + 1 + 1 + 1; omega)).trans b3
                   have HBC := hid ((MR.out.block _ (block_lt hz4) n3).trans hz4)
                   have HM34 := hid (And.intro hm3 hm4)
                   have HMM := hid (And.intro hMM hMo)
                   have HE1 := hid heng1
                   have HX := hid hmodX
                   have HDB := hid hdb
                   have N3 := hid n3
                   have HZ := hid (block_lt hz4)
                   clear hmax g1 b0 b1 b2 b3 b4 hm3 hm4 hMM hMo heng1 hcall hdc hdb n3 n4 hz4 hmodX hS1 hmx hw1
                   have hpal := block_lt HPA.out
                   have hbcl := block_lt HBC.out
                   simp only [ansC] at HPA
                   obtain ⟨a0, a1, a2, a3, a4, a5, a6, a7, a8, a9⟩ := cells10 HPA.out
                   obtain ⟨q0, q1, q2, q3, q4, q5, q6, q7, q8, q9⟩ := cells10 HBC.out
                   obtain ⟨z0, z1, z2, z3, z4, z5, z6, z7, z8, z9⟩ := FZ HBC.out
                   obtain ⟨e9, _⟩ | ⟨E9, M9, S9, e9, hen, he9, ha9⟩ := hret.cases
                   · cases e9
                   injection e9 with e9
                   subst e9
                   subst hen
                   have HE9 := hid he9
                   have HA9 := hid ha9
                   clear hret he9 ha9)
      refine bodyPost_ret (v := .tuple #[ansV aa (.slice Adv aa.data.length cdv) (.slice none 0 0), .bool true]) (by simp [results, Tryz.results103, go_sem, ansV, ansC, q0, q1, q2, q3, q4, q5, q6, q7, q8, q9]) rfl ?_
      have n9 : ¬ S9 (w.heap.size + 1 + 1 + 1) := fun e => by
        have h2 := HA9.out.s _ (Nat.lt_of_lt_of_le (by have := G1.out.size; have := HX.out.size; have := HZ.out; omega) (Nat.le_refl w4.heap.size)) e
        exact N3.out h2
      refine ⟨_, M9, S9, rfl, HE9.out.setOther (mod10 w2 (w.heap.size + 1 + 1 + 1) _ _ _ _ _ _ _ _ _ _) (HA9.out.mm _ HM34.out.1) n9, ?_, ?_⟩
      · refine ⟨mod_outer G1.out HX.out MR.out (mod10 w2 (w.heap.size + 1 + 1 + 1) _ _ _ _ _ _ _ _ _ _) (by omega) (by omega), fun b hb e => ?_, fun b hb e => ?_, fun b e => HA9.out.mm b (HMM.out.1 b e)⟩
        · exact HA9.out.s b (by have := G1.out.size; have := HX.out.size; omega) e
        · exact HMM.out.2 b hb (HA9.out.m b (by have := G1.out.size; have := HX.out.size; omega) e)
      · exact HDB.out.up ((Along.up HA9.out HE1.out.lt.2.1).trans (Mod.up (mod10 w2 (w.heap.size + 1 + 1 + 1) _ _ _ _ _ _ _ _ _ _) (fun _ _ e => e ▸ HA9.out.mm _ HM34.out.1)))
    · have hY0 : Y = none := by rw [← HY.out]; simp [hec]
      subst hY0
      have hec' : (ec == 0) = false := by simpa using hec
      go_enter Tryz.func103, Tryz.ntmps103
      go_wp2_with (go_at_call 68
                   generalize hmx : (if at_ < 0 then 0 else at_) = mx
                   have hmax : max at_ 0 = mx := by rw [← hmx]; split <;> omega
                   obtain ⟨w1, hw1, g1, b0, b1, b2, b3, b4⟩ := alloc5 w (.cells #[.pointer (some ⟨k, 0, none⟩)] 24) (.cells #[.int .i64 ck, .int .i64 cf, .int .i64 cli, .int .i64 cn, .int .i64 tf, .int .i64 tr, .int .i64 te, .int .i64 tt, .slice Ad dl cd, .slice Al ll cl] 35) (.cells #[.int .i64 af, .int .i64 ar, .int .i64 ae, .int .i64 at_] 84) (.cells #[.int .i64 0, .int .i64 0, .int .i64 0, .bool false, .int .i64 0, .int .i64 0, .int .i64 0, .int .i64 0, .slice none 0 0, .slice none 0 0] 31) (.cells #[.int .i64 0, .int .i64 0, .int .i64 0, .bool true, .int .i64 af, .int .i64 ar, .int .i64 ae, .int .i64 mx, .slice none 0 0, .slice none 0 0] 31)
                   rw [hw1]
                   have hcall := HCALL.out w1 g1 b0 b1 b2 ⟨_, b3⟩ (b4.trans (by simp [ansC, giveA, hmax, ans0]))
                   obtain ⟨M1, hm3, hm4, hMM, hMo, heng1, hcall⟩ := hcall
                   refine hcall.mono ?_
                   rintro en w2 ⟨w4, htold, hmodX, hret⟩
                   have G1 := hid g1
                   have hS1 : ∀ b, S b → b < w.heap.size := fun b e => HLT.out.1 b (HLT.out.2.1 b e)
                   have MR := hid hret.1
                   obtain ⟨dv, hdc, hdb⟩ := htold
                   obtain ⟨Adv, cdv, rfl⟩ := hdb.shape
                   have n3 : ¬ S (w.heap.size + 1 + 1 + 1) := fun e => by have := hS1 _ e; omega
                   have n4 : ¬ S (w.heap.size + 1 + 1 + 1 + 1) := fun e => by have := hS1 _ e; omega
                   have HPA := hid ((MR.out.block _ (block_lt hdc) n4).trans hdc)
                   have hz4 := (hmodX.block _ (block_lt b3) (by show ¬ w.heap.size + 1 + 1 + 1 = w.heap.size + 1 + 1 + 1 + 1; omega)).trans b3
                   have HBC := hid ((MR.out.block _ (block_lt hz4) n3).trans hz4)
                   have HM34 := hid (And.intro hm3 hm4)
                   have HMM := hid (And.intro hMM hMo)
                   have HE1 := hid heng1
                   have HX := hid hmodX
                   have HDB := hid hdb
                   have N3 := hid n3
                   have HZ := hid (block_lt hz4)
                   clear hmax g1 b0 b1 b2 b3 b4 hm3 hm4 hMM hMo heng1 hcall hdc hdb n3 n4 hz4 hmodX hS1 hmx hw1
                   have hpal := block_lt HPA.out
                   have hbcl := block_lt HBC.out
                   simp only [ansC] at HPA
                   obtain ⟨a0, a1, a2, a3, a4, a5, a6, a7, a8, a9⟩ := cells10 HPA.out
                   obtain ⟨q0, q1, q2, q3, q4, q5, q6, q7, q8, q9⟩ := cells10 HBC.out
                   obtain ⟨z0, z1, z2, z3, z4, z5, z6, z7, z8, z9⟩ := FZ HBC.out
                   obtain ⟨e9, _⟩ | ⟨E9, M9, S9, e9, hen, he9, ha9⟩ := hret.cases
                   · cases e9
                   injection e9 with e9
                   subst e9
                   subst hen
                   have HE9 := hid he9
                   have HA9 := hid ha9
                   clear hret he9 ha9)
      refine bodyPost_ret (v := .tuple #[ansV aa (.slice Adv aa.data.length cdv) (.slice none 0 0), .bool false]) (by simp [results, Tryz.results103, go_sem, ansV, ansC, q0, q1, q2, q3, q4, q5, q6, q7, q8, q9]) rfl ?_
      exact ⟨aa, Adv, _, cdv, rfl, mod_outer G1.out HX.out MR.out (mod10 w2 (w.heap.size + 1 + 1 + 1) _ _ _ _ _ _ _ _ _ _) (by omega) (by omega)⟩
end Go.Proofs.YtniknicnnaiilaaGreat
end
