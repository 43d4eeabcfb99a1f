/- Lemmas: what the functions of the engine answer, and which blocks they write. -/
import Derived.Test.YtniknicnnaiilaaGreatX08
import Derived.Test.YtniknicnnaiilaaGreatX14
section
namespace Go.Proofs.YtniknicnnaiilaaGreat
set_option maxRecDepth 100000
open Go.RowKit Go.Ext Go.BigFrame Go.Maps Go.MapKept
attribute [local go_sem] Ext.cell Ext.frozen Ext.lt Ext.le s1 s2 s3 s4 s5 s6 t1 t2 t3 t4 t5 t6
attribute [local go_sem ↓] Go.wp_at_zero Go.wp_at_succ
section
variable {w w' : World} {M S : Bl} {k kd ka md ma mr kh : Nat} {hv : Value} {E : ES}
theorem EngP.putRun (h : EngP w M S k E kd ka md ma mr kh hv) {id pf pr : Int} {f : FS} {kf : Nat} {kv : List (Int × Value)} (m : Mod (fun b => b = mr) w w') (hrel : Rel (fun r v => RunM w M r v) E.runs kv) (h1 : MI w' mr (up kv id (runV kf pf pr))) (hf : FlowI w M kf f) : EngR w' M S k { E with runs := up E.runs id ⟨f, pf, pr⟩ } := by
  have u : Up M w M w' := Mod.up m (fun b _ e => e ▸ h.SM _ h.smr)
  exact ⟨kd, ka, md, ma, mr, kh, hv, h.setRuns m h1 ((hrel.mono fun a v hr => hr.up u).up (a := ⟨f, pf, pr⟩) ⟨kf, rfl, hf.up u⟩)⟩
end
theorem cells2 {W : World} {B : Nat} {t : TypeId} {a b : Value} (h : W.heap[B]? = some (.cells #[a, b] t (0, 0))) : W.cell? ⟨B, 0, none⟩ = some a ∧ W.cell? ⟨B, 1, none⟩ = some b := by
  refine ⟨?_, ?_⟩ <;> simp [World.cell?, h]
theorem isOpen_any (k : Nat) (E : ES) (id : Int) (M S : Bl) (w : World) (h : EngR w M S k E) (hE : EOk E) : Calls Tryz.prog 99 #[.pointer (some ⟨k, 0, none⟩), .int .i64 id] w (RetE (.bool (isOpenE E id)) w) := by
  obtain ⟨kd, ka, md, ma, mr, kh, hv, hP⟩ := h
  obtain ⟨e0, e1, e2, e3, e4, e5, e6, hkl⟩ := hP.cells
  refine retE ?_
  unfold isOpenE
  rcases hP.look id true with ⟨hn, hlk'⟩ | ⟨r, kf, hr, hf, hlk'⟩
  · rw [hn]
    have hlk := hlk' w (Gr.refl w)
    simp only [if_true] at hlk
    clear hP hlk'
    go_enter Tryz.func99, Tryz.ntmps99
    go_wp2_with fail
    go_ret
    exact ⟨rfl, (Gr.refl w).alloc _⟩
  · rw [hr]
    have hlk := hlk' w (Gr.refl w)
    simp only [if_true, runV] at hlk
    obtain ⟨_, mb, _, hfr⟩ := hf
    have hlen := (hE.get hr).1.len
    have HST := hid (fun (W : World) (g : Gr w W) => statusO_any kf mb r.f M W (hfr.gr g) (by omega))
    clear hP hlk' hfr hr
    simp only
    generalize statusL r.f.l = st at *
    have hb : ∀ b : Bool, (st == 1) = b → Calls Tryz.prog 99 #[.pointer (some ⟨k, 0, none⟩), .int .i64 id] w (fun e w' => e = .returned (.bool b) ∧ Gr w w') := by
      intro b hb
      go_enter Tryz.func99, Tryz.ntmps99
      go_wp2_with (go_at_call 65; (with_reducible refine (HST.out _ ((Gr.refl w).alloc _)).mono ?_); rintro en _ ⟨rfl, y1, rfl⟩)
      go_ret
      exact ⟨by first | rfl | rw [hb] | simp [hb], ((Gr.refl w).alloc _).ext y1⟩
    exact hb _ rfl
theorem outs0_any (k : Nat) (E : ES) (id now : Int) (l : List Out) (v : Value) (M S : Bl) (w : World) (h : EngR w M S k E) (hE : EOk E) (r : RunS) (hr : lk E.runs id = some r) (hl : RecsM outR w M v l) (hdue : E.due.length + l.length ≤ 1000000) (hk : ∀ o ∈ l, 1 ≤ o.kind ∧ o.kind ≤ 5) :
    Calls Tryz.prog 77 #[.pointer (some ⟨k, 0, none⟩), .int .i64 id, .int .i64 now, v] w (RetS M S k (outs0 E id r.f.run l) (.bool true) vF w) := by
  rw [outs0_fold]
  exact outs_gen k E id now l v M S w h hE r hr hl hdue (fun E o => out0 E id r.f.run o) (fun E E' o _ he => (nx_out0 he).1) (fun W M' S' E' o d ho heng hok hdl hd => out_any0 k E' id r.f.run now o d M' S' W heng hok hdl (by obtain ⟨A, c, e⟩ := hd.shape; exact ⟨A, _, c, e⟩) (hk o ho))
def nextE (E : ES) (id : Int) : Int := match lk E.runs id with | some r => r.f.run + 1 | none => 1
def vB : Value → Prop := fun v => ∃ x, v = .tuple #[.int .i64 x, .bool true]
set_option maxHeartbeats 4000000 in
theorem begin_any (PUT : PutAny) (k : Nat) (E : ES) (id list n : Int) (d : Value) (data : List UInt8) (pf pr now : Int) (M S : Bl) (w : World) (h : EngR w M S k E) (hE : EOk E) (hdue : E.due.length ≤ 999000) (hd : BysM w M d data) :
    Calls Tryz.prog 100 #[.pointer (some ⟨k, 0, none⟩), .int .i64 id, .int .i64 list, .int .i64 n, d, .agg #[.int .i64 pf, .int .i64 pr], .int .i64 now] w (RetS M S k ((beginF E id list n data pf pr now).map (·.1)) (.tuple #[.int .i64 (nextE E id), .bool false]) vB w) := by
  obtain ⟨kd, ka, md, ma, mr, kh, hv, hP⟩ := h
  have H := hid hP
  obtain ⟨e0, e1, e2, e3, e4, e5, e6, hkl⟩ := hP.cells
  rcases hP.look id true with ⟨hn, hlk'⟩ | ⟨r, kf0, hr, hf, hlk'⟩
  · have hlk := hlk' _ ((Gr.refl w).alloc (.cells #[.int .i64 pf, .int .i64 pr] 107))
    simp only [if_true] at hlk
    have HLK := hid hn
    have HNE := hid (show nextE E id = 1 by unfold nextE; rw [hn])
    rw [HNE.out]
    have GNEW0 := hid (((Gr.refl w).alloc (.cells #[.int .i64 pf, .int .i64 pr] 107)).alloc (.cells #[.pointer none, .int .i64 0, .int .i64 0] 109))
    clear hP hlk' hn
    obtain ⟨x, hx⟩ : ∃ x, newF id 1 list n data now = x := ⟨_, rfl⟩
    have HNEW := hid (fun (W : World) (g : Gr w W) => newO_any PUT id 1 list n d data now M W (fun b e => Nat.lt_of_lt_of_le (H.out.lt b e) g.size) (hd.up (Gr.up g M)))
    obtain ⟨Ad, cd, rfl⟩ := hd.shape
    rw [hx] at HNEW
    cases x with
    | none =>
      have HB := hid (show beginF E id list n data pf pr now = none by unfold beginF; rw [HLK.out]; simp only; rw [hx])
      rw [HB.out]
      clear hx hd
      go_enter Tryz.func100, Tryz.ntmps100
      go_wp2_with (first
        | fail
        | (go_at_call 135; go_loud ((refine (HNEW.out _ GNEW0.out).mono ?_; intro en w3 hret; simp only [RetNew] at hret; obtain ⟨rfl, g3⟩ := hret))))
      go_ret2
      exact RetS.full (((GNEW0.out).trans g3).mod S) ⟨_, rfl⟩
    | some x =>
      rcases x with ⟨F, os⟩
      obtain ⟨hfok, hfid, hfrun, _⟩ := FOk.new hx
      have hos := newF_outs hx
      have HB := hid (show (beginF E id list n data pf pr now).map (·.1) = outs0 { E with runs := up E.runs id ⟨F, pf, pr⟩ } id F.run os by
        unfold beginF; rw [HLK.out]; simp only; rw [hx]; simp only [hfrun]; cases outs0 { E with runs := up E.runs id ⟨F, pf, pr⟩ } id (1) os <;> rfl)
      rw [HB.out]
      have HNX := hid (nx_run (E := E) (id := id) (r := ⟨F, pf, pr⟩) (fun _ => ⟨hfok, hfid⟩))
      have HOS := hid hos
      have HFR := hid hfrun
      obtain ⟨R, hR⟩ : ∃ R, outs0 { E with runs := up E.runs id ⟨F, pf, pr⟩ } id F.run os = R := ⟨_, rfl⟩
      rw [hR]
      have HR := hid hR
      clear hx hd hfok hfid hfrun hos hR
      cases R with
      | none =>
        go_enter Tryz.func100, Tryz.ntmps100
        go_upto_region 8 with (first
          | fail
          | (go_at_call 135; go_loud ((refine (HNEW.out _ GNEW0.out).mono ?_; intro en w3 hret; simp only [RetNew] at hret; obtain ⟨kf, A3, c3_, rfl, g3, hkf, hfi, hrec⟩ := hret; have HFI := hid hfi; have HREC := hid hrec; have G3 := hid ((GNEW0.out).trans g3); have HB3 := hid ((g3.block w.heap.size (by simp; omega)).trans ((((Gr.refl _).alloc _).block w.heap.size (by simp)).trans (heap_alloc_new w _))); clear hfi hrec g3))))
        obtain ⟨p0, p1⟩ := cells2 HB3.out
        have hl3 := block_lt HB3.out
        have P3 := hid (H.out.gr G3.out)
        obtain ⟨_, _, _, _, _, f5, _, hk3⟩ := P3.out.cells
        obtain ⟨kv, hmi, hrel⟩ := P3.out.r
        have HMI := hid hmi
        have HREL := hid hrel
        clear hmi hrel
        refine wp_region_planM [(0, false), (1, false), (2, false), (3, false), (4, false), (5, false), (6, false), (7, false), (8, true)] (fun W => Gr w3 W) (by kernel_rfl) (by kernel_rfl) (fun _ _ d _ _ h => by cases d <;> exact h) (Gr.refl w3).drew (fun _ => ?_)
        iterate 8 (refine pm_take (v := ?_) rfl (by rfl) ?_ ?_; rotate_left; (focus (intro W9 hW9; obtain ⟨x9, rfl⟩ : ∃ x : Ext w3, W9 = x.val := ⟨⟨W9, hW9⟩, rfl⟩; go_simp; (try with_reducible rfl); done)); (try simp only [AP]))
        refine pm_last rfl (by rfl) (fun K hK => ?_)
        refine opwp_mapUpdate _ _ _ _ 76 rfl 3 109 Tryz.underlying76 Tryz.underlying3 mr kv id (runV kf pf pr) (by rfl) (HMI.out.gr (Gr.refl w3).drew) (by rfl) (by rfl) ?_
        intro w7 hmi7 hm7
        have P7 := hid ((P3.out.gr (Gr.refl w3).drew).putRun hm7 (HREL.out.mono fun a v hr => hr.up (Gr.up (Gr.refl w3).drew M)) hmi7 (HFI.out.up (Gr.up (Gr.refl w3).drew M)))
        have AL := hid (show Along w M S w7 M S from ⟨(G3.out.drew.mod S).trans hm7 (fun b _ e => e ▸ H.out.smr), fun _ _ e => e, fun _ _ e => e, fun _ e => e⟩)
        have HREC7 := hid (HREC.out.up ((Gr.up (Gr.refl w3).drew M).trans (Mod.up hm7 (fun b _ e => e ▸ H.out.SM _ H.out.smr))))
        have HOUT := hid (outs0_any k { E with runs := up E.runs id ⟨F, pf, pr⟩ } id now os _ M S w7 P7.out (HNX.out.ok hE) ⟨F, pf, pr⟩ (lk_up_same _ _ _) HREC7.out (by rw [HOS.out]; simp; omega) (fun o ho => by rw [HOS.out] at ho; simp only [List.mem_singleton] at ho; subst ho; exact ⟨by dsimp only; omega, by dsimp only; omega⟩))
        rw [HR.out] at HOUT
        refine hK.out _ _ ?_
        clear hK K hmi7 hm7
        go_wp2_with (go_at_call 77; go_loud ((refine HOUT.out.mono ?_; intro en w9 hret; rcases hret.cases with ⟨_, v9, hen, hv9, hm9⟩ | ⟨E9, M9, S9, e9, _⟩; rotate_left; (cases e9); have hv9' : v9 = .bool false := hv9; subst hv9'; subst hen; have HM9 := hid hm9; clear hret hm9 hv9)))
        go_ret2
        exact RetS.none_ AL.out HM9.out ⟨_, rfl⟩
      | some E' =>
        go_enter Tryz.func100, Tryz.ntmps100
        go_upto_region 8 with (first
          | fail
          | (go_at_call 135; go_loud ((refine (HNEW.out _ GNEW0.out).mono ?_; intro en w3 hret; simp only [RetNew] at hret; obtain ⟨kf, A3, c3_, rfl, g3, hkf, hfi, hrec⟩ := hret; have HFI := hid hfi; have HREC := hid hrec; have G3 := hid ((GNEW0.out).trans g3); have HB3 := hid ((g3.block w.heap.size (by simp; omega)).trans ((((Gr.refl _).alloc _).block w.heap.size (by simp)).trans (heap_alloc_new w _))); clear hfi hrec g3))))
        obtain ⟨p0, p1⟩ := cells2 HB3.out
        have hl3 := block_lt HB3.out
        have P3 := hid (H.out.gr G3.out)
        obtain ⟨_, _, _, _, _, f5, _, hk3⟩ := P3.out.cells
        obtain ⟨kv, hmi, hrel⟩ := P3.out.r
        have HMI := hid hmi
        have HREL := hid hrel
        clear hmi hrel
        refine wp_region_planM [(0, false), (1, false), (2, false), (3, false), (4, false), (5, false), (6, false), (7, false), (8, true)] (fun W => Gr w3 W) (by kernel_rfl) (by kernel_rfl) (fun _ _ d _ _ h => by cases d <;> exact h) (Gr.refl w3).drew (fun _ => ?_)
        iterate 8 (refine pm_take (v := ?_) rfl (by rfl) ?_ ?_; rotate_left; (focus (intro W9 hW9; obtain ⟨x9, rfl⟩ : ∃ x : Ext w3, W9 = x.val := ⟨⟨W9, hW9⟩, rfl⟩; go_simp; (try with_reducible rfl); done)); (try simp only [AP]))
        refine pm_last rfl (by rfl) (fun K hK => ?_)
        refine opwp_mapUpdate _ _ _ _ 76 rfl 3 109 Tryz.underlying76 Tryz.underlying3 mr kv id (runV kf pf pr) (by rfl) (HMI.out.gr (Gr.refl w3).drew) (by rfl) (by rfl) ?_
        intro w7 hmi7 hm7
        have P7 := hid ((P3.out.gr (Gr.refl w3).drew).putRun hm7 (HREL.out.mono fun a v hr => hr.up (Gr.up (Gr.refl w3).drew M)) hmi7 (HFI.out.up (Gr.up (Gr.refl w3).drew M)))
        have AL := hid (show Along w M S w7 M S from ⟨(G3.out.drew.mod S).trans hm7 (fun b _ e => e ▸ H.out.smr), fun _ _ e => e, fun _ _ e => e, fun _ e => e⟩)
        have HREC7 := hid (HREC.out.up ((Gr.up (Gr.refl w3).drew M).trans (Mod.up hm7 (fun b _ e => e ▸ H.out.SM _ H.out.smr))))
        have HOUT := hid (outs0_any k { E with runs := up E.runs id ⟨F, pf, pr⟩ } id now os _ M S w7 P7.out (HNX.out.ok hE) ⟨F, pf, pr⟩ (lk_up_same _ _ _) HREC7.out (by rw [HOS.out]; simp; omega) (fun o ho => by rw [HOS.out] at ho; simp only [List.mem_singleton] at ho; subst ho; exact ⟨by dsimp only; omega, by dsimp only; omega⟩))
        rw [HR.out] at HOUT
        refine hK.out _ _ ?_
        clear hK K hmi7 hm7
        go_wp2_with (go_at_call 77; go_loud ((refine HOUT.out.mono ?_; intro en w9 hret; rcases hret.cases with ⟨e9, _⟩ | ⟨E9, M9, S9, e9, hen, he9, ha9⟩; (cases e9); injection e9 with e9; subst e9; subst hen; have HE9 := hid he9; have HA9 := hid ha9; clear hret he9 ha9)))
        go_ret2
        exact RetS.some_ (AL.out.trans HA9.out) HE9.out
  · have hlk := hlk' _ ((Gr.refl w).alloc (.cells #[.int .i64 pf, .int .i64 pr] 107))
    simp only [if_true, runV] at hlk
    have HLK := hid hr
    have HNE := hid (show nextE E id = r.f.run + 1 by unfold nextE; rw [hr])
    rw [HNE.out]
    obtain ⟨_, mb0, _, hfr⟩ := hf
    have hrunr := (hE.get hr).1.runn
    have HRUN := hid (fun (W : World) (g : Gr w W) => runO_any kf0 mb0 r.f M W (hfr.gr g))
    clear hP hlk' hfr hr
    obtain ⟨x, hx⟩ : ∃ x, newF id (r.f.run + 1) list n data now = x := ⟨_, rfl⟩
    have HNEW := hid (fun (W : World) (g : Gr w W) => newO_any PUT id (r.f.run + 1) list n d data now M W (fun b e => Nat.lt_of_lt_of_le (H.out.lt b e) g.size) (hd.up (Gr.up g M)))
    obtain ⟨Ad, cd, rfl⟩ := hd.shape
    rw [hx] at HNEW
    cases x with
    | none =>
      have HB := hid (show beginF E id list n data pf pr now = none by unfold beginF; rw [HLK.out]; simp only; rw [hx])
      rw [HB.out]
      clear hx hd
      go_enter Tryz.func100, Tryz.ntmps100
      go_wp2_with (first
        | (go_at_call 63; (with_reducible refine (HRUN.out _ (by repeat (first | exact Gr.refl _ | refine Gr.alloc ?_ _))).mono ?_); rintro en _ ⟨rfl, y1, rfl⟩; have HG0 := hid (((Gr.refl w).alloc (.cells #[.int .i64 pf, .int .i64 pr] 107)).alloc (.cells #[.pointer (some ⟨kf0, 0, none⟩), .int .i64 r.pf, .int .i64 r.pr] 109) |>.ext y1))
        | (go_at_call 135; go_loud ((refine (HNEW.out _ HG0.out).mono ?_; intro en w3 hret; simp only [RetNew] at hret; obtain ⟨rfl, g3⟩ := hret))))
      go_ret2
      exact RetS.full (((HG0.out).trans g3).mod S) ⟨_, rfl⟩
    | some x =>
      rcases x with ⟨F, os⟩
      obtain ⟨hfok, hfid, hfrun, _⟩ := FOk.new hx
      have hos := newF_outs hx
      have HB := hid (show (beginF E id list n data pf pr now).map (·.1) = outs0 { E with runs := up E.runs id ⟨F, pf, pr⟩ } id F.run os by
        unfold beginF; rw [HLK.out]; simp only; rw [hx]; simp only [hfrun]; cases outs0 { E with runs := up E.runs id ⟨F, pf, pr⟩ } id ((r.f.run + 1)) os <;> rfl)
      rw [HB.out]
      have HNX := hid (nx_run (E := E) (id := id) (r := ⟨F, pf, pr⟩) (fun _ => ⟨hfok, hfid⟩))
      have HOS := hid hos
      have HFR := hid hfrun
      obtain ⟨R, hR⟩ : ∃ R, outs0 { E with runs := up E.runs id ⟨F, pf, pr⟩ } id F.run os = R := ⟨_, rfl⟩
      rw [hR]
      have HR := hid hR
      clear hx hd hfok hfid hfrun hos hR
      cases R with
      | none =>
        go_enter Tryz.func100, Tryz.ntmps100
        go_upto_region 8 with (first
          | (go_at_call 63; (with_reducible refine (HRUN.out _ (by repeat (first | exact Gr.refl _ | refine Gr.alloc ?_ _))).mono ?_); rintro en _ ⟨rfl, y1, rfl⟩; have HG0 := hid (((Gr.refl w).alloc (.cells #[.int .i64 pf, .int .i64 pr] 107)).alloc (.cells #[.pointer (some ⟨kf0, 0, none⟩), .int .i64 r.pf, .int .i64 r.pr] 109) |>.ext y1))
          | (go_at_call 135; go_loud ((refine (HNEW.out _ HG0.out).mono ?_; intro en w3 hret; simp only [RetNew] at hret; obtain ⟨kf, A3, c3_, rfl, g3, hkf, hfi, hrec⟩ := hret; have HFI := hid hfi; have HREC := hid hrec; have G3 := hid ((HG0.out).trans g3); have HB3 := hid ((g3.block w.heap.size (by have := y1.gr.size; simp at this; omega)).trans (((((Gr.refl _).alloc _).ext y1).block w.heap.size (by simp)).trans (heap_alloc_new w _))); clear hfi hrec g3))))
        obtain ⟨p0, p1⟩ := cells2 HB3.out
        have hl3 := block_lt HB3.out
        have P3 := hid (H.out.gr G3.out)
        obtain ⟨_, _, _, _, _, f5, _, hk3⟩ := P3.out.cells
        obtain ⟨kv, hmi, hrel⟩ := P3.out.r
        have HMI := hid hmi
        have HREL := hid hrel
        clear hmi hrel
        refine wp_region_planM [(0, false), (1, false), (2, false), (3, false), (4, false), (5, false), (6, false), (7, false), (8, true)] (fun W => Gr w3 W) (by kernel_rfl) (by kernel_rfl) (fun _ _ d _ _ h => by cases d <;> exact h) (Gr.refl w3).drew (fun _ => ?_)
        iterate 8 (refine pm_take (v := ?_) rfl (by rfl) ?_ ?_; rotate_left; (focus (intro W9 hW9; obtain ⟨x9, rfl⟩ : ∃ x : Ext w3, W9 = x.val := ⟨⟨W9, hW9⟩, rfl⟩; go_simp; (try with_reducible rfl); done)); (try simp only [AP]))
        refine pm_last rfl (by rfl) (fun K hK => ?_)
        refine opwp_mapUpdate _ _ _ _ 76 rfl 3 109 Tryz.underlying76 Tryz.underlying3 mr kv id (runV kf pf pr) (by rfl) (HMI.out.gr (Gr.refl w3).drew) (by rfl) (by rfl) ?_
        intro w7 hmi7 hm7
        have P7 := hid ((P3.out.gr (Gr.refl w3).drew).putRun hm7 (HREL.out.mono fun a v hr => hr.up (Gr.up (Gr.refl w3).drew M)) hmi7 (HFI.out.up (Gr.up (Gr.refl w3).drew M)))
        have AL := hid (show Along w M S w7 M S from ⟨(G3.out.drew.mod S).trans hm7 (fun b _ e => e ▸ H.out.smr), fun _ _ e => e, fun _ _ e => e, fun _ e => e⟩)
        have HREC7 := hid (HREC.out.up ((Gr.up (Gr.refl w3).drew M).trans (Mod.up hm7 (fun b _ e => e ▸ H.out.SM _ H.out.smr))))
        have HOUT := hid (outs0_any k { E with runs := up E.runs id ⟨F, pf, pr⟩ } id now os _ M S w7 P7.out (HNX.out.ok hE) ⟨F, pf, pr⟩ (lk_up_same _ _ _) HREC7.out (by rw [HOS.out]; simp; omega) (fun o ho => by rw [HOS.out] at ho; simp only [List.mem_singleton] at ho; subst ho; exact ⟨by dsimp only; omega, by dsimp only; omega⟩))
        rw [HR.out] at HOUT
        refine hK.out _ _ ?_
        clear hK K hmi7 hm7
        go_wp2_with (go_at_call 77; go_loud ((refine HOUT.out.mono ?_; intro en w9 hret; rcases hret.cases with ⟨_, v9, hen, hv9, hm9⟩ | ⟨E9, M9, S9, e9, _⟩; rotate_left; (cases e9); have hv9' : v9 = .bool false := hv9; subst hv9'; subst hen; have HM9 := hid hm9; clear hret hm9 hv9)))
        go_ret2
        exact RetS.none_ AL.out HM9.out ⟨_, rfl⟩
      | some E' =>
        go_enter Tryz.func100, Tryz.ntmps100
        go_upto_region 8 with (first
          | (go_at_call 63; (with_reducible refine (HRUN.out _ (by repeat (first | exact Gr.refl _ | refine Gr.alloc ?_ _))).mono ?_); rintro en _ ⟨rfl, y1, rfl⟩; have HG0 := hid (((Gr.refl w).alloc (.cells #[.int .i64 pf, .int .i64 pr] 107)).alloc (.cells #[.pointer (some ⟨kf0, 0, none⟩), .int .i64 r.pf, .int .i64 r.pr] 109) |>.ext y1))
          | (go_at_call 135; go_loud ((refine (HNEW.out _ HG0.out).mono ?_; intro en w3 hret; simp only [RetNew] at hret; obtain ⟨kf, A3, c3_, rfl, g3, hkf, hfi, hrec⟩ := hret; have HFI := hid hfi; have HREC := hid hrec; have G3 := hid ((HG0.out).trans g3); have HB3 := hid ((g3.block w.heap.size (by have := y1.gr.size; simp at this; omega)).trans (((((Gr.refl _).alloc _).ext y1).block w.heap.size (by simp)).trans (heap_alloc_new w _))); clear hfi hrec g3))))
        obtain ⟨p0, p1⟩ := cells2 HB3.out
        have hl3 := block_lt HB3.out
        have P3 := hid (H.out.gr G3.out)
        obtain ⟨_, _, _, _, _, f5, _, hk3⟩ := P3.out.cells
        obtain ⟨kv, hmi, hrel⟩ := P3.out.r
        have HMI := hid hmi
        have HREL := hid hrel
        clear hmi hrel
        refine wp_region_planM [(0, false), (1, false), (2, false), (3, false), (4, false), (5, false), (6, false), (7, false), (8, true)] (fun W => Gr w3 W) (by kernel_rfl) (by kernel_rfl) (fun _ _ d _ _ h => by cases d <;> exact h) (Gr.refl w3).drew (fun _ => ?_)
        iterate 8 (refine pm_take (v := ?_) rfl (by rfl) ?_ ?_; rotate_left; (focus (intro W9 hW9; obtain ⟨x9, rfl⟩ : ∃ x : Ext w3, W9 = x.val := ⟨⟨W9, hW9⟩, rfl⟩; go_simp; (try with_reducible rfl); done)); (try simp only [AP]))
        refine pm_last rfl (by rfl) (fun K hK => ?_)
        refine opwp_mapUpdate _ _ _ _ 76 rfl 3 109 Tryz.underlying76 Tryz.underlying3 mr kv id (runV kf pf pr) (by rfl) (HMI.out.gr (Gr.refl w3).drew) (by rfl) (by rfl) ?_
        intro w7 hmi7 hm7
        have P7 := hid ((P3.out.gr (Gr.refl w3).drew).putRun hm7 (HREL.out.mono fun a v hr => hr.up (Gr.up (Gr.refl w3).drew M)) hmi7 (HFI.out.up (Gr.up (Gr.refl w3).drew M)))
        have AL := hid (show Along w M S w7 M S from ⟨(G3.out.drew.mod S).trans hm7 (fun b _ e => e ▸ H.out.smr), fun _ _ e => e, fun _ _ e => e, fun _ e => e⟩)
        have HREC7 := hid (HREC.out.up ((Gr.up (Gr.refl w3).drew M).trans (Mod.up hm7 (fun b _ e => e ▸ H.out.SM _ H.out.smr))))
        have HOUT := hid (outs0_any k { E with runs := up E.runs id ⟨F, pf, pr⟩ } id now os _ M S w7 P7.out (HNX.out.ok hE) ⟨F, pf, pr⟩ (lk_up_same _ _ _) HREC7.out (by rw [HOS.out]; simp; omega) (fun o ho => by rw [HOS.out] at ho; simp only [List.mem_singleton] at ho; subst ho; exact ⟨by dsimp only; omega, by dsimp only; omega⟩))
        rw [HR.out] at HOUT
        refine hK.out _ _ ?_
        clear hK K hmi7 hm7
        go_wp2_with (go_at_call 77; go_loud ((refine HOUT.out.mono ?_; intro en w9 hret; rcases hret.cases with ⟨e9, _⟩ | ⟨E9, M9, S9, e9, hen, he9, ha9⟩; (cases e9); injection e9 with e9; subst e9; subst hen; have HE9 := hid he9; have HA9 := hid ha9; clear hret he9 ha9)))
        go_ret2
        exact RetS.some_ (AL.out.trans HA9.out) HE9.out
set_option maxHeartbeats 4000000 in
theorem try_any (f : Nat) (cs : Array Value) (k : Nat) (F : FS) (d : Value) (data : List UInt8) (now : Int) (act : FS → FR) (M : Bl) (w : World) (h : FlowF w M k F) (hM : ∀ b, M b → b < w.heap.size) (hk : M k) (hd : Bys w d data) (hF : FI F) (hl : F.l.length ≤ 4096)
    (hcf : ∀ (ar : Array Value) (W : World), Sem.run Tryz.prog (callFunc f ar) W = .ok (.enter f ar) W)
    (hact : rightF F data now = true → ∀ W k' mb', Gr w W → w.heap.size ≤ k' → w.heap.size ≤ mb' → FW W (plus M k' mb') k' mb' F → Calls Tryz.prog f (#[.pointer (some ⟨k', 0, none⟩)] ++ cs) W (RetA (plus M k' mb') k' mb' (act F) W)) :
    Calls Tryz.prog 141 #[.pointer (some ⟨k, 0, none⟩), d, .int .i64 now, .func (.func f) #[] cs] w (RetT M k (tryF F data now act) w) := by
  obtain ⟨mb, hmb, hr⟩ := h
  have HR := hid hr
  have HACT0 := hid hact
  have HRT := hid (fun (W : World) (y : Gr w W) => rightO_any k mb F M d data now W (hr.gr y) (hd.gr y) (by omega))
  have HST := hid (fun (W : World) (y : Gr w W) => statusO_any k mb F M W (hr.gr y) (by omega))
  have HTW := hid (fun (W : World) (y : Gr w W) => twin_any k mb F M W (hr.gr y) (fun b e => Nat.lt_of_lt_of_le (hM b e) y.size))
  have HM := hid hM
  have HF := hid hF
  have HMB := hid hmb
  obtain ⟨Ad, cd, rfl, _, _, _⟩ := hd
  have hsel : ∀ W, Gr w W → FlowF W M k F := fun W y => ⟨mb, hmb, hr.gr y⟩
  have HSEL := hid hsel
  clear hr hact hM hmb hsel hF
  unfold tryF
  cases hb1 : rightF F data now
  · simp only [if_true]
    rw [hb1] at HRT
    clear hb1
    go_enter Tryz.func141, Tryz.ntmps141
    go_wp2_with (go_at_call 180; (with_reducible refine (HRT.out _ (Gr.refl _)).mono ?_); rintro en _ ⟨rfl, y1, rfl⟩)
    go_ret2
    exact ⟨none, 0, rfl, HSEL.out _ y1.gr, RecsM.none _ _ _, y1.gr.mod _⟩
  have HACT := hid (HACT0.out hb1)
  rw [hb1] at HRT
  clear hb1
  simp only [Bool.true_eq_false, if_false]
  by_cases hs1 : statusL F.l ≠ 1
  · rw [if_pos hs1]
    go_enter Tryz.func141, Tryz.ntmps141
    go_wp2_with (first
      | (go_at_call 180; (with_reducible refine (HRT.out _ (Gr.refl _)).mono ?_); rintro en _ ⟨rfl, y1, rfl⟩)
      | (go_at_call 65; (with_reducible refine (HST.out _ y1.gr).mono ?_); rintro en _ ⟨rfl, y2, rfl⟩))
    go_ret2
    exact ⟨none, 0, rfl, HSEL.out _ (y1.gr.ext y2), RecsM.none _ _ _, (y1.gr.ext y2).mod _⟩
  rw [if_neg hs1]
  have hs1' : statusL F.l = 1 := Decidable.not_not.1 hs1
  rw [hs1'] at HST
  clear hs1 hs1'
  obtain ⟨x, hx⟩ : ∃ x, act F = x := ⟨_, rfl⟩
  rw [hx] at HACT ⊢
  clear hx
  rcases x with ⟨F', os, ec⟩
  simp only
  obtain ⟨y, hy⟩ : ∃ y : FR, (if ec ≠ 0 ∧ F'.l.length = F.l.length then (F, [], ec) else if 4096 < F'.l.length then (F, [], 4) else (F', os, ec)) = y := ⟨_, rfl⟩
  rw [hy]
  have HY := hid hy
  clear hy
  go_enter Tryz.func141, Tryz.ntmps141
  go_wp2_with (first
    | (go_at_call 180; (with_reducible refine (HRT.out _ (Gr.refl _)).mono ?_); rintro en _ ⟨rfl, y1, rfl⟩)
    | (go_at_call 65; (with_reducible refine (HST.out _ y1.gr).mono ?_); rintro en _ ⟨rfl, y2, rfl⟩)
    | (go_at_call 75
       refine (HTW.out _ (y1.gr.ext y2)).mono ?_
       rintro en w3 ⟨k', mb', rfl, hk', hmb', hne', g3, hr3, hM3⟩
       have G3 := hid ((y1.gr.ext y2).trans g3)
       have HK' := hid (show w.heap.size ≤ k' ∧ w.heap.size ≤ mb' from ⟨Nat.le_trans (y1.gr.ext y2).size hk', Nat.le_trans (y1.gr.ext y2).size hmb'⟩)
       have HA := hid (HACT.out w3 k' mb' G3.out HK'.out.1 HK'.out.2 ⟨hr3, .inr (.inl rfl), .inr (.inr rfl), hne', hM3, by omega, HF.out⟩)
       clear hk' hmb' g3 hr3 hM3)
    | (with_reducible refine HA.out.mono ?_
       rintro en w4 ⟨A4, c4, rfl, hr4, ho4, hm4⟩
       obtain ⟨A5, c5, hf5⟩ := hr4.lenr
       have HC4 := hid (show w4.heap[k']? = some (.cells (flowC F' (.slice A5 F'.l.length c5) mb') 157 (0, 0)) by
         obtain ⟨v, h1, h2⟩ := hr4.row
         have hv := (FC.of h1).c4.symm.trans hf5.c4
         injection hv with hv
         rw [← hv]
         exact h1)
       have HR4 := hid hr4
       have HO4 := hid ho4
       have hkk : k < w.heap.size := HR.out.lt.1
       have G4 := hid (show Gr w w4 from (show Gr w w4 from ⟨hm4.os.trans G3.out.os, hm4.tape.trans G3.out.tape, hm4.output.trans G3.out.output, Nat.le_trans G3.out.size hm4.size, fun b hb => (hm4.block b (Nat.lt_of_lt_of_le hb G3.out.size) (by have := HK'.out; omega)).trans (G3.out.block b hb)⟩))
       obtain ⟨A6, c6, _, hf6, _, _⟩ := (HR.out.gr G4.out).parts
       obtain ⟨d0, d1, d2, d3, d4, d5, d6, d7, d8, d9, d10, d11⟩ := hf5
       obtain ⟨e0, e1, e2, e3, e4, e5, e6, e7, e8, e9, e10, e11⟩ := hf6
       have hk4 : k < w4.heap.size := Nat.lt_of_lt_of_le hkk G4.out.size
       have hk5 : k' < w4.heap.size := HR4.out.lt.1
       clear hr4 ho4 hm4))
  have HKC := hid ((HR.out.gr G4.out).row)
  have fz : ∀ j, w4.frozen? ⟨k, j, none⟩ = false := fun j => by
    obtain ⟨v, h1, _⟩ := HKC.out
    exact frozen_of h1
  have f0 := fz 0
  have f1 := fz 1
  have f2 := fz 2
  have f3 := fz 3
  have f4 := fz 4
  have f5 := fz 5
  have f6 := fz 6
  have f7 := fz 7
  have f8 := fz 8
  have f9 := fz 9
  have f10 := fz 10
  have f11 := fz 11
  clear fz
  by_cases hcond : ec ≠ 0 ∧ F'.l.length = F.l.length
  · rw [if_pos hcond] at HY
    obtain rfl := HY.out
    clear HY
    obtain ⟨hc1, hc2⟩ := hcond
    have hc1b : (ec != 0) = true := by simpa using hc1
    have hc2b : ((F'.l.length : Int) == (F.l.length : Int)) = true := by simp [hc2]
    clear hc2
    refine wp_region_ext (by kernel_rfl) (by kernel_rfl) ?_
    repeat (go_big_quiet_step (fail))
    refine wpQuiet_nil ?_
    rintro _ ⟨x5, rfl⟩
    go_wp2_with fail
    go_ret2
    exact ⟨none, 0, rfl, HSEL.out _ (G4.out.ext x5), RecsM.none _ _ _, (G4.out.ext x5).mod _⟩
  rw [if_neg hcond] at HY
  by_cases hc1 : ec = 0
  · subst hc1
    clear hcond
    refine wp_region_ext (by kernel_rfl) (by kernel_rfl) ?_
    repeat (go_big_quiet_step (fail))
    refine wpQuiet_nil ?_
    rintro _ ⟨x5, rfl⟩
    have G5 := hid (G4.out.ext x5)
    by_cases hlong : 4096 < F'.l.length
    · rw [if_pos hlong] at HY
      obtain rfl := HY.out
      clear HY
      have hlz : (4096 : Int) < (F'.l.length : Int) := by omega
      go_wp2_with fail
      go_ret2
      exact ⟨none, 0, rfl, HSEL.out _ G5.out, RecsM.none _ _ _, G5.out.mod _⟩
    · rw [if_neg hlong] at HY
      obtain rfl := HY.out
      clear HY
      have hlz : ¬ (4096 : Int) < (F'.l.length : Int) := by omega
      go_wp2_with fail
      go_ret2
      have HKC5 := hid ((HR.out.gr G5.out).row)
      obtain ⟨v5, h5, _⟩ := HKC5.out
      have m5 : ∀ W, Mod (fun b => b = k) x5.val W → Mod (fun b => b = k) w W := fun W m => (G5.out.mod _).trans m (fun _ _ e => e)
      obtain ⟨s12, m12⟩ := set12 h5 (.int .i64 F'.id) (.int .i64 F'.run) (.int .i64 F'.list) (.int .i64 F'.n) (.slice A5 F'.l.length c5) (.int .i64 F'.task) (.int .i64 F'.place) (.int .i64 F'.begun) (.int .i64 F'.turn) (.bool F'.late) (.bool F'.asked) (.map (some mb'))
      refine ⟨A4, c4, rfl, FlowR.copy (HR4.out.gr x5.gr) ((x5.gr.block k' hk5).trans HC4.out) (fun b e => ?_) hk m12 s12, (HO4.out.up (Gr.up x5.gr _)).up (Up.trans (up_weak _) (Mod.up (M := M) m12 (fun b _ e => e ▸ hk))), m5 _ m12⟩
      have := HM.out b e; have := HK'.out; omega
  · have hc2 : ¬ F'.l.length = F.l.length := fun e => hcond ⟨hc1, e⟩
    have hc1b : (ec != 0) = true := by simpa using hc1
    have hc2b : ((F'.l.length : Int) == (F.l.length : Int)) = false := by
      have : ¬ (F'.l.length : Int) = (F.l.length : Int) := by omega
      simpa using this
    clear hcond hc2
    refine wp_region_ext (by kernel_rfl) (by kernel_rfl) ?_
    repeat (go_big_quiet_step (fail))
    refine wpQuiet_nil ?_
    rintro _ ⟨x5, rfl⟩
    have G5 := hid (G4.out.ext x5)
    by_cases hlong : 4096 < F'.l.length
    · rw [if_pos hlong] at HY
      obtain rfl := HY.out
      clear HY
      have hlz : (4096 : Int) < (F'.l.length : Int) := by omega
      go_wp2_with fail
      go_ret2
      exact ⟨none, 0, rfl, HSEL.out _ G5.out, RecsM.none _ _ _, G5.out.mod _⟩
    · rw [if_neg hlong] at HY
      obtain rfl := HY.out
      clear HY
      have hlz : ¬ (4096 : Int) < (F'.l.length : Int) := by omega
      go_wp2_with fail
      go_ret2
      have HKC5 := hid ((HR.out.gr G5.out).row)
      obtain ⟨v5, h5, _⟩ := HKC5.out
      have m5 : ∀ W, Mod (fun b => b = k) x5.val W → Mod (fun b => b = k) w W := fun W m => (G5.out.mod _).trans m (fun _ _ e => e)
      obtain ⟨s12, m12⟩ := set12 h5 (.int .i64 F'.id) (.int .i64 F'.run) (.int .i64 F'.list) (.int .i64 F'.n) (.slice A5 F'.l.length c5) (.int .i64 F'.task) (.int .i64 F'.place) (.int .i64 F'.begun) (.int .i64 F'.turn) (.bool F'.late) (.bool F'.asked) (.map (some mb'))
      refine ⟨A4, c4, rfl, FlowR.copy (HR4.out.gr x5.gr) ((x5.gr.block k' hk5).trans HC4.out) (fun b e => ?_) hk m12 s12, (HO4.out.up (Gr.up x5.gr _)).up (Up.trans (up_weak _) (Mod.up (M := M) m12 (fun b _ e => e ▸ hk))), m5 _ m12⟩
      have := HM.out b e; have := HK'.out; omega
end Go.Proofs.YtniknicnnaiilaaGreat
end
