/- Lemmas: what the functions of the engine answer, and which blocks they write. -/
import Derived.Deep.AppendLies
import Derived.Test.YtniknicnnaiilaaGreatX07
import Derived.Test.YtniknicnnaiilaaGreatX17
section
namespace Go.Proofs.YtniknicnnaiilaaGreat
set_option maxRecDepth 100000
open Go.RowKit Go.Ext Go.BigFrame Go.Maps Go.MapKept
attribute [local go_sem] Ext.cell Ext.frozen Ext.lt Ext.le s1 s2 s3 s4 s5 s6 t1 t2 t3 t4 t5 t6
attribute [local go_sem ↓] Go.wp_at_zero Go.wp_at_succ
set_option maxHeartbeats 4000000 in
theorem out_k7 (PUT : PutAny) (k : Nat) (E : ES) (id n now : Int) (o : Out) (d : Value) (M S : Bl) (w : World) (h : EngR w M S k E) (hE : EOk E) (hdue : E.due.length ≤ 999000) (r : RunS) (hr : lk E.runs id = some r) (hd : BysM w M d o.data) (hk : o.kind = 7) :
    Calls Tryz.prog 117 #[.pointer (some ⟨k, 0, none⟩), .int .i64 id, .int .i64 n, .int .i64 now, outV o d] w (RetS M S k (outE E id n now o) (.bool true) vF w) := by
  obtain ⟨kd, ka, md, ma, mr, kh, hv, hP⟩ := h
  have H := hid hP
  obtain ⟨e0, e1, e2, e3, e4, e5, e6, hkl⟩ := hP.cells
  have HDR := hid (fun (W : World) (y : Gr w W) => drop_any 0 kh hv E.due id n W (hP.gr y).h (by omega))
  have HD := hid hd
  obtain ⟨Ad, cd, rfl⟩ := hd.shape
  have hE1 : EOk { E with due := dropD E.due id n } := (nx_due (m := 0) (fun e => dropD_srt e _ _) (Nat.le_trans (dropD_len _ _ _) (by omega))).ok hE
  have HE1 := hid hE1
  have HD1 := hid (show (dropD E.due id n).length ≤ 999000 from Nat.le_trans (dropD_len _ _ _) hdue)
  have HR0 := hid hr
  have HNX := hid hP.nes
  obtain ⟨X, hX⟩ : ∃ X, outE E id n now o = X := ⟨_, rfl⟩
  rw [hX]
  unfold outE at hX
  rw [if_neg (by omega), if_neg (by omega)] at hX
  simp only [hr] at hX
  rw [if_neg (by rw [hk]; decide)] at hX
  have HX := hid hX
  clear hX
  rcases o with ⟨ok, ol, or_, ot, oa, oi, on, od⟩
  simp only at hk
  subst hk
  simp only [outV] at *
  clear hP hd hE1
  have HDE := hid (show dropD E.due id n = dropF E.due id n from rfl)
  generalize od.length = dl at *
  go_enter Tryz.func117, Tryz.ntmps117
  go_upto_region 14 with (first
    | (go_at_call 161
       refine (HDR.out _ ((Gr.refl w).alloc _)).mono ?_
       rintro en w3 ⟨hv3, rfl, hhb, hhm, hho⟩
       have P3 := hid ((H.out.gr ((Gr.refl w).alloc _)).setDue hhm (HDE.out ▸ hhb) hho)
       have AL := hid (show Along w M S w3 (own M hv3) (own S hv3) from by
         have hr := (H.out.gr ((Gr.refl w).alloc (.cells #[.int .i64 7, .int .i64 ol, .int .i64 or_, .int .i64 ot, .int .i64 oa, .int .i64 oi, .int .i64 on, .slice Ad dl cd] 188))).retDue (vok := .bool true) (vfull := vF) (e := .returned (.bool true)) (due := dropD E.due id n) ⟨hv3, rfl, HDE.out ▸ hhb, hhm, hho⟩
         refine ⟨(((Gr.refl w).alloc _).mod S).trans (hhm.mono fun b _ e => ?_) (fun _ _ e => e), fun b hb e => ?_, fun b hb e => ?_, fun b e => .inl e⟩
         · rcases e with rfl | e
           · exact H.out.skh
           · exact H.out.shv b e.symm
         · rcases e with e | e
           · exact e
           · rcases hho with hho | ⟨c, hho, hc⟩
             · rw [hho] at e; exact H.out.shv b e
             · rw [hho] at e; injection e with e; simp at hc; omega
         · rcases e with e | e
           · exact e
           · rcases hho with hho | ⟨c, hho, hc⟩
             · rw [hho] at e; exact H.out.SM b (H.out.shv b e)
             · rw [hho] at e; injection e with e; simp at hc; omega)
       have HB := hid ((hhm.block w.heap.size (by simp) (by
         rintro (e | e)
         · have := H.out.h.lt; omega
         · have := (HNX.out.2.2.2.2.2.2.2 _ e.symm).2.2.2.2; omega)).trans (heap_alloc_new w _))
       clear hhb hhm hho))
  obtain ⟨b0, b1, b2, b3, b4, b5, b6, b7⟩ := cells8 HB.out
  have hbl := block_lt HB.out
  obtain ⟨f0, f1, f2, f3, f4, f5, f6, hk3⟩ := P3.out.cells
  have HD3 := hid (HD.out.up (AL.out.up H.out.SM))
  rcases P3.out.look id false with ⟨hn, _⟩ | ⟨r', kf, hr', hf, hlk'⟩
  · have hn' : lk E.runs id = none := hn
    rw [HR0.out] at hn'
    cases hn'
  have hr2 : lk E.runs id = some r' := hr'
  rw [HR0.out] at hr2
  injection hr2 with hr2
  subst hr2
  clear hr'
  have hlk := hlk' w3 (Gr.refl w3)
  simp only [Bool.false_eq_true, if_false, runV] at hlk
  have HF := hid hf
  clear hlk' hf hr
  rcases P3.out.look r.pf true with ⟨hpn, hplk'⟩ | ⟨p, kp, hpr, hpf, hplk'⟩
  · simp only [if_true] at hplk'
    have HX1 := hid (show X = some { E with due := dropD E.due id n } by rw [← HX.out]; have hpn' : lk E.runs r.pf = none := hpn; rw [hpn'])
    rw [HX1.out]
    cases hz : (r.pr == 0)
    · have hz9 := hz
      go_upto_region 19 with fail
      have GW := hid ((Gr.refl w3).alloc (.cells #[.pointer (some ⟨kf, 0, none⟩), .int .i64 r.pf, .int .i64 r.pr] 109))
      have hplk := hplk' _ GW.out.drew
      refine wp_region_planM [(0, false), (1, false), (2, false), (3, false), (4, false), (5, false), (6, false), (7, false), (8, false), (9, false), (10, false), (11, true), (12, true), (13, true)] (fun W => Gr (w3.alloc (.cells #[.pointer (some ⟨kf, 0, none⟩), .int .i64 r.pf, .int .i64 r.pr] 109)) W) (by kernel_rfl) (by kernel_rfl) (fun _ _ d _ _ h => by cases d <;> exact h) (Gr.refl _).drew (fun _ => ?_)
      iterate 11 (refine pm_take (v := ?_) rfl (by rfl) ?_ ?_; rotate_left; (focus (intro W9 hW9; have hplk := hplk' W9 (GW.out.trans hW9); obtain ⟨x9, rfl⟩ : ∃ x : Ext (w3.alloc (.cells #[.pointer (some ⟨kf, 0, none⟩), .int .i64 r.pf, .int .i64 r.pr] 109)), W9 = x.val := ⟨⟨W9, hW9⟩, rfl⟩; go_simp; (try with_reducible rfl); done)); (try simp only [AP]))
      refine pm_call rfl (by rfl) (fun K hK => ?_)
      go_simp
      refine hK.out (fun W => Gr (w3.alloc (.cells #[.pointer (some ⟨kf, 0, none⟩), .int .i64 r.pf, .int .i64 r.pr] 109)) W) _ _ (by repeat (first | exact Gr.refl _ | refine Gr.alloc ?_ _ | refine Gr.drew ?_ | refine Gr.set ?_ (by first | exact Nat.le_refl _ | (simp; done) | (simp; omega)) _)) (fun _ g => g) (fun _ => ?_)
      clear hK K
      (try simp only [AP])
      refine pm_call rfl (by rfl) (fun K hK => ?_)
      go_simp
      refine hK.out (fun W => Gr (w3.alloc (.cells #[.pointer (some ⟨kf, 0, none⟩), .int .i64 r.pf, .int .i64 r.pr] 109)) W) _ _ (by repeat (first | exact Gr.refl _ | refine Gr.alloc ?_ _ | refine Gr.drew ?_ | refine Gr.set ?_ (by first | exact Nat.le_refl _ | (simp; done) | (simp; omega)) _)) (fun _ g => g) (fun _ => ?_)
      clear hK K
      (try simp only [AP])
      refine pm_last rfl (by rfl) (fun K hK => ?_)
      go_simp
      refine hK.out _ _ ?_
      clear hK K
      go_wp2_with fail
      refine wp_region_ext (by kernel_rfl) (by kernel_rfl) ?_
      repeat (go_big_quiet_step (fail))
      refine wpQuiet_nil ?_
      rintro _ ⟨x, rfl⟩
      have GX := hid (show Gr w3 x.val from ((((Gr.refl w3).alloc _).alloc _).drew).ext x)
      go_wp2_with fail
      go_ret
      rw [HX1.out]
      exact RetS.some_ (AL.out.gr GX.out) ⟨kd, ka, md, ma, mr, kh, hv3, P3.out.gr GX.out⟩
    · have hz9 := hz
      go_upto_region 19 with fail
      have GW := hid ((Gr.refl w3).alloc (.cells #[.pointer (some ⟨kf, 0, none⟩), .int .i64 r.pf, .int .i64 r.pr] 109))
      have hplk := hplk' _ GW.out.drew
      refine wp_region_planM [(0, false), (1, false), (2, false), (3, false), (4, false), (5, false), (6, false), (7, false), (8, false), (9, false), (10, false), (11, true), (12, true), (13, true)] (fun W => Gr (w3.alloc (.cells #[.pointer (some ⟨kf, 0, none⟩), .int .i64 r.pf, .int .i64 r.pr] 109)) W) (by kernel_rfl) (by kernel_rfl) (fun _ _ d _ _ h => by cases d <;> exact h) (Gr.refl _).drew (fun _ => ?_)
      iterate 11 (refine pm_take (v := ?_) rfl (by rfl) ?_ ?_; rotate_left; (focus (intro W9 hW9; have hplk := hplk' W9 (GW.out.trans hW9); obtain ⟨x9, rfl⟩ : ∃ x : Ext (w3.alloc (.cells #[.pointer (some ⟨kf, 0, none⟩), .int .i64 r.pf, .int .i64 r.pr] 109)), W9 = x.val := ⟨⟨W9, hW9⟩, rfl⟩; go_simp; (try with_reducible rfl); done)); (try simp only [AP]))
      refine pm_call rfl (by rfl) (fun K hK => ?_)
      go_simp
      refine hK.out (fun W => Gr (w3.alloc (.cells #[.pointer (some ⟨kf, 0, none⟩), .int .i64 r.pf, .int .i64 r.pr] 109)) W) _ _ (by repeat (first | exact Gr.refl _ | refine Gr.alloc ?_ _ | refine Gr.drew ?_ | refine Gr.set ?_ (by first | exact Nat.le_refl _ | (simp; done) | (simp; omega)) _)) (fun _ g => g) (fun _ => ?_)
      clear hK K
      (try simp only [AP])
      refine pm_call rfl (by rfl) (fun K hK => ?_)
      go_simp
      refine hK.out (fun W => Gr (w3.alloc (.cells #[.pointer (some ⟨kf, 0, none⟩), .int .i64 r.pf, .int .i64 r.pr] 109)) W) _ _ (by repeat (first | exact Gr.refl _ | refine Gr.alloc ?_ _ | refine Gr.drew ?_ | refine Gr.set ?_ (by first | exact Nat.le_refl _ | (simp; done) | (simp; omega)) _)) (fun _ g => g) (fun _ => ?_)
      clear hK K
      (try simp only [AP])
      refine pm_last rfl (by rfl) (fun K hK => ?_)
      go_simp
      refine hK.out _ _ ?_
      clear hK K
      go_wp2_with fail
      refine wp_region_ext (by kernel_rfl) (by kernel_rfl) ?_
      repeat (go_big_quiet_step (fail))
      refine wpQuiet_nil ?_
      rintro _ ⟨x, rfl⟩
      have GX := hid (show Gr w3 x.val from ((((Gr.refl w3).alloc _).alloc _).drew).ext x)
      go_wp2_with fail
      go_ret
      rw [HX1.out]
      exact RetS.some_ (AL.out.gr GX.out) ⟨kd, ka, md, ma, mr, kh, hv3, P3.out.gr GX.out⟩
  · simp only [if_true, runV] at hplk'
    obtain ⟨_, mbp, _, hpfr⟩ := hpf
    have HRUN := hid (fun (W : World) (g : Gr w3 W) => runO_any kp mbp p.f _ W (hpfr.gr g))
    have HPR := hid (show lk { E with due := dropD E.due id n }.runs r.pf = some p from hpr)
    have HRB := hid (fun (x : Ext ((w3.alloc (.cells #[.pointer (some ⟨kf, 0, none⟩), .int .i64 r.pf, .int .i64 r.pr] 109)).alloc (.cells #[.pointer (some ⟨kp, 0, none⟩), .int .i64 p.pf, .int .i64 p.pr] 109)).drew) => (show x.val.heap[w3.heap.size]? = some (.cells #[.pointer (some ⟨kf, 0, none⟩), .int .i64 r.pf, .int .i64 r.pr] 109 (0, 0)) from
      (x.gr.block _ (by simp; omega)).trans ((((Gr.refl _).alloc _).drew.block w3.heap.size (by simp)).trans (heap_alloc_new w3 _))))
    cases hz : (r.pr == 0)
    · cases hq : (p.f.run != r.pr)
      · have HX1 := hid (show X = endsE { E with due := dropD E.due id n } r.pf now id on od by
          rw [← HX.out]
          have hpr' : lk E.runs r.pf = some p := hpr
          rw [hpr']
          simp only
          rw [if_neg (by simp at hz hq; rintro (e | e); exact hz e; exact e hq)])
        go_upto_region 19 with fail
        have GW := hid ((Gr.refl w3).alloc (.cells #[.pointer (some ⟨kf, 0, none⟩), .int .i64 r.pf, .int .i64 r.pr] 109))
        have hplk := hplk' _ GW.out.drew
        refine wp_region_planM [(0, false), (1, false), (2, false), (3, false), (4, false), (5, false), (6, false), (7, false), (8, false), (9, false), (10, false), (11, true), (12, true), (13, true)] (fun W => Gr (w3.alloc (.cells #[.pointer (some ⟨kf, 0, none⟩), .int .i64 r.pf, .int .i64 r.pr] 109)) W) (by kernel_rfl) (by kernel_rfl) (fun _ _ d _ _ h => by cases d <;> exact h) (Gr.refl _).drew (fun _ => ?_)
        iterate 11 (refine pm_take (v := ?_) rfl (by rfl) ?_ ?_; rotate_left; (focus (intro W9 hW9; have hplk := hplk' W9 (GW.out.trans hW9); obtain ⟨x9, rfl⟩ : ∃ x : Ext (w3.alloc (.cells #[.pointer (some ⟨kf, 0, none⟩), .int .i64 r.pf, .int .i64 r.pr] 109)), W9 = x.val := ⟨⟨W9, hW9⟩, rfl⟩; go_simp; (try with_reducible rfl); done)); (try simp only [AP]))
        refine pm_call rfl (by rfl) (fun K hK => ?_)
        go_simp
        refine hK.out (fun W => Gr (w3.alloc (.cells #[.pointer (some ⟨kf, 0, none⟩), .int .i64 r.pf, .int .i64 r.pr] 109)) W) _ _ (by repeat (first | exact Gr.refl _ | refine Gr.alloc ?_ _ | refine Gr.drew ?_ | refine Gr.set ?_ (by first | exact Nat.le_refl _ | (simp; done) | (simp; omega)) _)) (fun _ g => g) (fun _ => ?_)
        clear hK K
        (try simp only [AP])
        refine pm_call rfl (by rfl) (fun K hK => ?_)
        go_simp
        refine hK.out (fun W => Gr (w3.alloc (.cells #[.pointer (some ⟨kf, 0, none⟩), .int .i64 r.pf, .int .i64 r.pr] 109)) W) _ _ (by repeat (first | exact Gr.refl _ | refine Gr.alloc ?_ _ | refine Gr.drew ?_ | refine Gr.set ?_ (by first | exact Nat.le_refl _ | (simp; done) | (simp; omega)) _)) (fun _ g => g) (fun _ => ?_)
        clear hK K
        (try simp only [AP])
        refine pm_last rfl (by rfl) (fun K hK => ?_)
        go_simp
        refine hK.out _ _ ?_
        clear hK K
        go_wp2_with fail
        refine wp_region_ext (by kernel_rfl) (by kernel_rfl) ?_
        repeat (go_big_quiet_step (first | (go_at_call 63; exact calls_ext _ (HRUN.out _ (Gr.ext ((((Gr.refl w3).alloc _).alloc _).drew) _)))))
        refine wpQuiet_nil ?_
        rintro _ ⟨x, rfl⟩
        have GX := hid (show Gr w3 x.val from ((((Gr.refl w3).alloc _).alloc _).drew).ext x)
        have P4 := hid (P3.out.gr GX.out)
        have HEN := hid (ends_any PUT k { E with due := dropD E.due id n } r.pf now id on (.slice Ad dl cd) od (own M hv3) (own S hv3) x.val ⟨kd, ka, md, ma, mr, kh, hv3, P4.out⟩ HE1.out HD1.out p HPR.out (HD3.out.up (Gr.up GX.out _)))
        rw [← HX1.out] at HEN
        have hrb := cells3c (HRB.out x)
        obtain ⟨y0, y1, y2⟩ := hrb
        have hob := cells8 ((GX.out.block _ (block_lt HB.out)).trans HB.out)
        obtain ⟨z0, z1, z2, z3, z4, z5, z6, z7⟩ := hob
        have hol := Nat.lt_of_lt_of_le (block_lt HB.out) GX.out.size
        have hrl := block_lt (HRB.out x)
        go_wp2_with (go_at_call 162
                     refine HEN.out.mono ?_
                     intro en w9 hret
                     obtain ⟨b9, rfl⟩ : ∃ b9, en = .returned (.bool b9) := by
                       rcases hret.cases with ⟨_, v9, hen, hv9, _⟩ | ⟨E9, M9, S9, e9, hen, _⟩
                       · exact ⟨false, by rw [hen, show v9 = .bool false from hv9]⟩
                       · exact ⟨true, hen⟩
                     have HRT := hid (RetS.along (AL.out.gr GX.out) hret)
                     clear hret)
        go_ret
        exact HRT.out
      · have HX1 := hid (show X = some { E with due := dropD E.due id n } by
          rw [← HX.out]
          have hpr' : lk E.runs r.pf = some p := hpr
          rw [hpr']
          simp only
          rw [if_pos (.inr (by simpa using hq))])
        go_upto_region 19 with fail
        have GW := hid ((Gr.refl w3).alloc (.cells #[.pointer (some ⟨kf, 0, none⟩), .int .i64 r.pf, .int .i64 r.pr] 109))
        have hplk := hplk' _ GW.out.drew
        refine wp_region_planM [(0, false), (1, false), (2, false), (3, false), (4, false), (5, false), (6, false), (7, false), (8, false), (9, false), (10, false), (11, true), (12, true), (13, true)] (fun W => Gr (w3.alloc (.cells #[.pointer (some ⟨kf, 0, none⟩), .int .i64 r.pf, .int .i64 r.pr] 109)) W) (by kernel_rfl) (by kernel_rfl) (fun _ _ d _ _ h => by cases d <;> exact h) (Gr.refl _).drew (fun _ => ?_)
        iterate 11 (refine pm_take (v := ?_) rfl (by rfl) ?_ ?_; rotate_left; (focus (intro W9 hW9; have hplk := hplk' W9 (GW.out.trans hW9); obtain ⟨x9, rfl⟩ : ∃ x : Ext (w3.alloc (.cells #[.pointer (some ⟨kf, 0, none⟩), .int .i64 r.pf, .int .i64 r.pr] 109)), W9 = x.val := ⟨⟨W9, hW9⟩, rfl⟩; go_simp; (try with_reducible rfl); done)); (try simp only [AP]))
        refine pm_call rfl (by rfl) (fun K hK => ?_)
        go_simp
        refine hK.out (fun W => Gr (w3.alloc (.cells #[.pointer (some ⟨kf, 0, none⟩), .int .i64 r.pf, .int .i64 r.pr] 109)) W) _ _ (by repeat (first | exact Gr.refl _ | refine Gr.alloc ?_ _ | refine Gr.drew ?_ | refine Gr.set ?_ (by first | exact Nat.le_refl _ | (simp; done) | (simp; omega)) _)) (fun _ g => g) (fun _ => ?_)
        clear hK K
        (try simp only [AP])
        refine pm_call rfl (by rfl) (fun K hK => ?_)
        go_simp
        refine hK.out (fun W => Gr (w3.alloc (.cells #[.pointer (some ⟨kf, 0, none⟩), .int .i64 r.pf, .int .i64 r.pr] 109)) W) _ _ (by repeat (first | exact Gr.refl _ | refine Gr.alloc ?_ _ | refine Gr.drew ?_ | refine Gr.set ?_ (by first | exact Nat.le_refl _ | (simp; done) | (simp; omega)) _)) (fun _ g => g) (fun _ => ?_)
        clear hK K
        (try simp only [AP])
        refine pm_last rfl (by rfl) (fun K hK => ?_)
        go_simp
        refine hK.out _ _ ?_
        clear hK K
        go_wp2_with fail
        refine wp_region_ext (by kernel_rfl) (by kernel_rfl) ?_
        repeat (go_big_quiet_step (first | (go_at_call 63; exact calls_ext _ (HRUN.out _ (Gr.ext ((((Gr.refl w3).alloc _).alloc _).drew) _)))))
        refine wpQuiet_nil ?_
        rintro _ ⟨x, rfl⟩
        have GX := hid (show Gr w3 x.val from ((((Gr.refl w3).alloc _).alloc _).drew).ext x)
        go_wp2_with fail
        go_ret
        rw [HX1.out]
        exact RetS.some_ (AL.out.gr GX.out) ⟨kd, ka, md, ma, mr, kh, hv3, P3.out.gr GX.out⟩
    · have HX1 := hid (show X = some { E with due := dropD E.due id n } by
          rw [← HX.out]
          have hpr' : lk E.runs r.pf = some p := hpr
          rw [hpr']
          simp only
          rw [if_pos (.inl (by simpa using hz))])
      go_upto_region 19 with fail
      have GW := hid ((Gr.refl w3).alloc (.cells #[.pointer (some ⟨kf, 0, none⟩), .int .i64 r.pf, .int .i64 r.pr] 109))
      have hplk := hplk' _ GW.out.drew
      refine wp_region_planM [(0, false), (1, false), (2, false), (3, false), (4, false), (5, false), (6, false), (7, false), (8, false), (9, false), (10, false), (11, true), (12, true), (13, true)] (fun W => Gr (w3.alloc (.cells #[.pointer (some ⟨kf, 0, none⟩), .int .i64 r.pf, .int .i64 r.pr] 109)) W) (by kernel_rfl) (by kernel_rfl) (fun _ _ d _ _ h => by cases d <;> exact h) (Gr.refl _).drew (fun _ => ?_)
      iterate 11 (refine pm_take (v := ?_) rfl (by rfl) ?_ ?_; rotate_left; (focus (intro W9 hW9; have hplk := hplk' W9 (GW.out.trans hW9); obtain ⟨x9, rfl⟩ : ∃ x : Ext (w3.alloc (.cells #[.pointer (some ⟨kf, 0, none⟩), .int .i64 r.pf, .int .i64 r.pr] 109)), W9 = x.val := ⟨⟨W9, hW9⟩, rfl⟩; go_simp; (try with_reducible rfl); done)); (try simp only [AP]))
      refine pm_call rfl (by rfl) (fun K hK => ?_)
      go_simp
      refine hK.out (fun W => Gr (w3.alloc (.cells #[.pointer (some ⟨kf, 0, none⟩), .int .i64 r.pf, .int .i64 r.pr] 109)) W) _ _ (by repeat (first | exact Gr.refl _ | refine Gr.alloc ?_ _ | refine Gr.drew ?_ | refine Gr.set ?_ (by first | exact Nat.le_refl _ | (simp; done) | (simp; omega)) _)) (fun _ g => g) (fun _ => ?_)
      clear hK K
      (try simp only [AP])
      refine pm_call rfl (by rfl) (fun K hK => ?_)
      go_simp
      refine hK.out (fun W => Gr (w3.alloc (.cells #[.pointer (some ⟨kf, 0, none⟩), .int .i64 r.pf, .int .i64 r.pr] 109)) W) _ _ (by repeat (first | exact Gr.refl _ | refine Gr.alloc ?_ _ | refine Gr.drew ?_ | refine Gr.set ?_ (by first | exact Nat.le_refl _ | (simp; done) | (simp; omega)) _)) (fun _ g => g) (fun _ => ?_)
      clear hK K
      (try simp only [AP])
      refine pm_last rfl (by rfl) (fun K hK => ?_)
      go_simp
      refine hK.out _ _ ?_
      clear hK K
      go_wp2_with fail
      refine wp_region_ext (by kernel_rfl) (by kernel_rfl) ?_
      repeat (go_big_quiet_step (fail))
      refine wpQuiet_nil ?_
      rintro _ ⟨x, rfl⟩
      have GX := hid (show Gr w3 x.val from ((((Gr.refl w3).alloc _).alloc _).drew).ext x)
      go_wp2_with fail
      go_ret
      rw [HX1.out]
      exact RetS.some_ (AL.out.gr GX.out) ⟨kd, ka, md, ma, mr, kh, hv3, P3.out.gr GX.out⟩
def OwnEvs (w : World) (M : Bl) (B0 : Nat) (v : Value) (xs : List Ev) : Prop := ∃ ds, DatM w (fun b => M b ∨ v.ownBlock = some b) (xs.map evR) ds ∧ w.ownsRow B0 41 7 v xs.length (rowC (xs.map evR) ds)
theorem OwnEvs.recs {w : World} {M : Bl} {B0 : Nat} {v : Value} {xs : List Ev} (h : OwnEvs w M B0 v xs) (hM : ∀ b, M b → b < B0) : RecsM evR w M v xs := by
  obtain ⟨ds, hd, ho⟩ := h
  have hd' := DatM.up (w := w) (M' := M) ⟨(Gr.refl w).mod _, fun b _ e => .inl e⟩ hd
  rcases id ho.2 with ⟨rfl, h0⟩ | ⟨g, cap, cur, rfl, hb, hh, hc, _⟩
  · have : xs = [] := List.eq_nil_of_length_eq_zero h0
    subst this
    exact RecsM.none _ _ _
  · refine ⟨some ⟨g, 0, none⟩, cap, ds, rfl, hc, hd', Rd.m (Rd.of_own ho) ?_, fun e => by cases e⟩
    rintro b off e _ hb2
    injection e with e
    injection e with e1
    subst e1
    have := hM _ hb2
    omega
theorem cells7' {W : World} {B : Nat} {t : TypeId} {a b c d e f g : Value} (h : W.heap[B]? = some (.cells #[a, b, c, d, e, f, g] t (0, 0))) : W.cell? ⟨B, 0, none⟩ = some a ∧ W.cell? ⟨B, 1, none⟩ = some b ∧ W.cell? ⟨B, 2, none⟩ = some c ∧ W.cell? ⟨B, 3, none⟩ = some d ∧ W.cell? ⟨B, 4, none⟩ = some e ∧ W.cell? ⟨B, 5, none⟩ = some f ∧ W.cell? ⟨B, 6, none⟩ = some g := by
  refine ⟨?_, ?_, ?_, ?_, ?_, ?_, ?_⟩ <;> simp [World.cell?, h]
theorem ev_one {w : World} {M : Bl} (e : Ev) {dv : Value} (h : BysM w M dv e.data) : ∀ u ∈ recC (evR e) dv, u.oneCell' = true := fun u hu => by
  simp only [recC, List.mem_append, List.mem_map, List.mem_singleton] at hu
  rcases hu with ⟨n, _, rfl⟩ | rfl
  · rfl
  · obtain ⟨_, _, rfl⟩ := h.shape; rfl
set_option maxHeartbeats 4000000 in
theorem eventsO_any (k mb : Nat) (F : FS) (M : Bl) (from_ : Int) (w : World) (h : FlowR w M k mb F) (hl : F.l.length ≤ 100000) (hne : F.l ≠ []) (hM : ∀ b, M b → b < w.heap.size) (hf : -1000000000 ≤ from_ ∧ from_ ≤ 1000000000) :
    Calls Tryz.prog 67 #[.pointer (some ⟨k, 0, none⟩), .int .i64 from_] w (fun e w' => ∃ A c, e = .returned (.slice A (eventsF F from_).length c) ∧ Gr w w' ∧ RecsM evR w' M (.slice A (eventsF F from_).length c) (eventsF F from_)) := by
  obtain ⟨A, c, hc, ⟨c0, c1, c2, c3, c4, c5, c6, c7, c8, c9, c10, c11⟩, hr, hk⟩ := h.parts
  have HR := hid hr
  have HM := hid hM
  have hpos : 0 < F.l.length := List.length_pos_iff.2 hne
  unfold eventsF
  by_cases hlong : (F.l.length : Int) < from_
  · rw [if_pos hlong]
    clear h hr hM
    go_enter Tryz.func67, Tryz.ntmps67
    go_wp2_with fail
    go_ret
    exact ⟨none, 0, rfl, Gr.refl w, RecsM.none _ _ _⟩
  rw [if_neg hlong]
  obtain ⟨j0, hj0⟩ : ∃ j0 : Nat, max from_ 1 = (j0 : Int) + 1 := ⟨(max from_ 1 - 1).toNat, by omega⟩
  have hj1 : j0 < F.l.length := by omega
  rw [show (max from_ 1 - 1).toNat = j0 by omega]
  obtain ⟨b, off, _, rfl, hb, hMb, _, _⟩ := hr.at_ (m := 6) (fun x => evR_len x) (List.getElem?_eq_getElem hj1)
  obtain ⟨L, hL⟩ : ∃ L, F.l.drop j0 = L := ⟨_, rfl⟩
  have HLD := hid hL
  have hLl : L.length = F.l.length - j0 := by rw [← hL, List.length_drop]
  rw [hL]
  clear hL h hr hM
  have kw : IntKind.i64.wrap ((j0 : Int) + 1 - 1) = (j0 : Int) := by
    rw [show (j0 : Int) + 1 - 1 = (j0 : Int) by omega]
    exact IntWalk.i64_in _ (by omega)
  have hA' : (if c = j0 then some (⟨b, off, none⟩ : Addr) else some ⟨b, off + j0 * 7, none⟩) = some ⟨b, off + j0 * 7, none⟩ := if_neg (by omega)
  obtain ⟨i0, hi0, hz0, hz1, hz2⟩ := info_parts info41
  go_enter Tryz.func67, Tryz.ntmps67
  go_upto_region 4 with fail
  go_cut [22, 23, 24] from 25 (fun v n z wx => v = .slice (some ⟨b, off + j0 * 7, none⟩) L.length (c - j0) ∧ n = .int .i64 L.length ∧ z = .int .i64 0 ∧ wx = w)
  case first =>
    by_cases h1 : from_ < 1
    · obtain rfl : j0 = 0 := by omega
      have h2 : ¬ 1 ≤ from_ := by omega
      have h3 : ¬ 1 < from_ := by omega
      have h4 : from_ ≤ 1 := by omega
      simp only [Nat.zero_mul, Nat.add_zero, Nat.sub_zero] at hA' hLl ⊢
      clear hA'
      go_wp2_with fail
      go_meet
      exact ⟨by simp [hLl], by simp [hLl], rfl, rfl⟩
    · obtain rfl : from_ = (j0 : Int) + 1 := by omega
      go_wp2_with fail
      go_meet
      exact ⟨by rw [hLl], by rw [hLl], rfl, rfl⟩
  case rest =>
    obtain ⟨rfl, rfl, rfl, rfl⟩ := hcut
    have hLb : L.length ≤ 100000 := by omega
    clear hLl
    go_wp2_with fail
    go_loopw [5, 24] (fun ov iv wr => ∃ i : Nat, iv = .int .i64 i ∧ i ≤ L.length ∧ Gr wc wr ∧ OwnEvs wr M wc.heap.size ov (L.take i)) (fun _ iv _ => L.length - (intOf iv).toNat)
    case atStart => exact ⟨0, rfl, Nat.zero_le _, Gr.refl _, [], trivial, World.ownsRow_nil _ _ _ _⟩
    case round =>
      obtain ⟨i, rfl, hi, hg, hoe⟩ := hrel
      have HG := hid hg
      by_cases hlt : i < L.length
      · have hget : F.l[j0 + i]? = some L[i] := by
          have h5 : L[i]? = some L[i] := List.getElem?_eq_getElem hlt
          have h6 : (F.l.drop j0)[i]? = L[i]? := by rw [HLD.out]
          rw [List.getElem?_drop] at h6
          exact h6.trans h5
        have htake : L.take (i + 1) = L.take i ++ [L[i]] := by rw [List.take_add_one, List.getElem?_eq_getElem hlt]; rfl
        obtain ⟨e, he⟩ : ∃ e, L[i] = e := ⟨_, rfl⟩
        rw [he] at hget htake
        obtain ⟨b', off', d, hbo, hb2, hMb2, hdat, hcell⟩ := (HR.out.up (Gr.up hg M)).at_ (m := 6) (fun x => evR_len x) hget
        injection hbo with hbo
        injection hbo with hb' ho' _
        subst hb' ho'
        have hadr : ∀ j, off + (j0 + i) * (6 + 1) + j = off + j0 * 7 + i * 7 + j := fun j => by omega
        have g0 := hcell 0 (.int .i64 e.kind) rfl
        have g1 := hcell 1 (.int .i64 e.tick) rfl
        have g2 := hcell 2 (.int .i64 e.ref) rfl
        have g3 := hcell 3 (.int .i64 e.id) rfl
        have g4 := hcell 4 (.int .i64 e.list) rfl
        have g5 := hcell 5 (.int .i64 e.n) rfl
        have g6 := hcell 6 d rfl
        rw [hadr] at g0 g1 g2 g3 g4 g5 g6
        rw [Nat.add_zero] at g0
        obtain ⟨Ad, cd, rfl⟩ := hdat.shape
        have HC := hid (fun (W : World) (y : Gr wr W) => clone_any _ e.data W (hdat.bys.gr y))
        obtain ⟨ds, hds, hown⟩ := hoe
        obtain ⟨Ao, co, rfl, hco, _⟩ := own_shape hown
        have HDS := hid hds
        have HOWN := hid hown
        have hti : (L.take i).length = i := by rw [List.length_take]; omega
        have HTI := hid hti
        have HTAKE := hid htake
        have hlz : (i : Int) < (L.length : Int) := by omega
        clear hds hown hget he hdat hcell hadr htake hg
        rcases e with ⟨ek, et, er, ei, el, en_, ed⟩
        simp only [evR] at g0 g1 g2 g3 g4 g5 g6 HC
        rw [hti] at hco
        clear hti
        have G1 := hid ((Gr.refl wr).alloc (.cells #[.int .i64 ek, .int .i64 et, .int .i64 er, .int .i64 ei, .int .i64 el, .int .i64 en_, .slice Ad ed.length cd] 41))
        have HOL := hid (show ∀ b, (Value.slice Ao i co).ownBlock = some b → wc.heap.size ≤ b ∧ b < wr.heap.size from fun b e => by
          have := HOWN.out.lt b (by rw [HTI.out]; exact e)
          exact this)
        have hgs := HG.out.size
        go_wp2_with (first
          | (go_at_call 91
             refine (HC.out _ G1.out).mono ?_
             rintro enn _ ⟨A3, c3_, y2, rfl, rfl, hl3, ho3⟩
             have HO3 := hid ho3
             have HL3 := hid hl3
             have HB := hid ((y2.gr.block _ (by simp)).trans (heap_alloc_new wr _))
             have hbl := block_lt HB.out
             have fz := frozen_of (j := 6) HB.out
             obtain ⟨p0, p1, p2, p3, p4, p5, p6⟩ := cells7' HB.out
             have W3 := hid (G1.out.ext y2 |>.set (p := ⟨wr.heap.size, 6, none⟩) (Nat.le_refl _) (.slice A3 ed.length c3_))
             have HD3 := hid (show BysM (y2.val.setCell ⟨wr.heap.size, 6, none⟩ (.slice A3 ed.length c3_)) (fun b => M b ∨ (Value.slice Ao i co).ownBlock = some b) (.slice A3 ed.length c3_) ed from
               BysM.of_own (B := wr.heap.size + 1) (own_mod (by simpa using ho3) (mod_set (S := fun b => b = wr.heap.size) ((Gr.refl _).mod _) (fun _ => rfl) _) (fun q e1 e2 => by have := (ho3.lt q e1).1; simp at this; omega)) (fun b hb e => by
                 rcases e with e | e
                 · have := HM.out b e; omega
                 · have := (HOL.out b e).2; omega) hl3)
             have HNB := hid (show ((y2.val.setCell ⟨wr.heap.size, 6, none⟩ (.slice A3 ed.length c3_)).alloc (.cells (recC (evR ⟨ek, et, er, ei, el, en_, ed⟩) (.slice A3 ed.length c3_)).toArray 41)).heap[y2.val.heap.size]? = some (.cells (recC (evR ⟨ek, et, er, ei, el, en_, ed⟩) (.slice A3 ed.length c3_)).toArray 41 (0, 0)) from by
               have h9 := heap_alloc_new (y2.val.setCell ⟨wr.heap.size, 6, none⟩ (.slice A3 ed.length c3_)) (.cells (recC (evR ⟨ek, et, er, ei, el, en_, ed⟩) (.slice A3 ed.length c3_)).toArray 41)
               rw [show (y2.val.setCell ⟨wr.heap.size, 6, none⟩ (.slice A3 ed.length c3_)).heap.size = y2.val.heap.size by simp [World.setCell]] at h9
               exact h9)
             clear ho3 hl3)
          | (at_builtin; go_loud ((refine wpList_append_lies _ rfl _ _ 29 rfl wc.heap.size 41 i0 _ 7 72 Tryz.underlying29 hi0 hz0 hz1 hz2 rfl (by omega) (.slice Ao i co) i (rowC ((L.take i).map evR) ds) rfl (by have := own_gr HOWN.out (W3.out.alloc (.cells (recC (evR ⟨ek, et, er, ei, el, en_, ed⟩) (.slice A3 ed.length c3_)).toArray 41)); rw [HTI.out] at this; exact this) ⟨_, 0, none⟩ 1 1 (recC (evR ⟨ek, et, er, ei, el, en_, ed⟩) (.slice A3 ed.length c3_)) rfl rfl (World.news_of_block (cs := (recC (evR ⟨ek, et, er, ei, el, en_, ed⟩) (.slice A3 ed.length c3_)).toArray) HNB.out) (ev_one _ HD3.out) (by omega) (by unfold maxLen; omega) (by omega) (by have := W3.out.size; simp; omega) _ rfl ?_; intro gg cap w7 hown7 hgrow hat hlt7))))
        go_roundw
        case rel =>
          have hv7 : (Value.slice (some ⟨gg, 0, none⟩) (i + 1) cap).ownBlock = (Value.slice Ao i co).ownBlock ∨ ∃ b, (Value.slice (some ⟨gg, 0, none⟩) (i + 1) cap).ownBlock = some b ∧ wr.heap.size ≤ b := by
            rcases hat with h | h
            · exact .inl h.symm
            · exact .inr ⟨gg, rfl, by have := W3.out.size; simp at h; omega⟩
          have mg := mod_grown hgrow
          have hs7 := mg.size
          have hw3 := W3.out.size
          have g7 : Gr wc w7 := by
            have ga := HG.out.trans (W3.out.alloc (.cells (recC (evR ⟨ek, et, er, ei, el, en_, ed⟩) (.slice A3 ed.length c3_)).toArray 41))
            exact ⟨mg.os.trans ga.os, mg.tape.trans ga.tape, mg.output.trans ga.output, Nat.le_trans ga.size mg.size, fun b hb => (mg.block b (Nat.lt_of_lt_of_le hb ga.size) (fun e => by have := (HOL.out b e.symm).1; omega)).trans (ga.block b hb)⟩
          refine ⟨i + 1, by go_num, by omega, g7, ds ++ [.slice A3 ed.length c3_], ?_, ?_⟩
          · have u : Up (fun b => M b ∨ (Value.slice Ao i co).ownBlock = some b) (((y2.val.setCell ⟨wr.heap.size, 6, none⟩ (.slice A3 ed.length c3_)).alloc (.cells (recC (evR ⟨ek, et, er, ei, el, en_, ed⟩) (.slice A3 ed.length c3_)).toArray 41))) (fun b => M b ∨ (Value.slice (some ⟨gg, 0, none⟩) (i + 1) cap).ownBlock = some b) w7 := by
              refine ⟨mg.mono fun b _ e => .inr e.symm, fun b hb e => ?_⟩
              rcases e with e | e
              · exact .inl e
              · rcases hat with h | h
                · exact .inr (h.symm ▸ e)
                · injection e with e
                  (try simp [World.setCell] at h)
                  have hb' : b < y2.val.heap.size + 1 := by simpa [World.setCell] using hb
                  dsimp only at e
                  omega
            rw [HTAKE.out, List.map_append]
            refine DatM.app ((DatM.up (Gr.up (W3.out.alloc _) _) ?_).up u) ⟨(HD3.out.up (Gr.up ((Gr.refl _).alloc _) _)).up u, trivial⟩
            have := HDS.out
            rw [HTI.out] at this
            exact this
          · rw [HTAKE.out, List.map_append, rowC_app _ _ _ _ HDS.out.len, List.length_append, HTI.out]
            simpa [rowC] using hown7
        case measure => simp [intOf]; omega
      · have hil : i = L.length := by omega
        obtain ⟨ds, hds, hown⟩ := hoe
        obtain ⟨Ao, co, rfl, hco, _⟩ := own_shape hown
        have HR9 := hid (OwnEvs.recs (M := M) ⟨ds, hds, hown⟩ (fun b e => HM.out b e))
        have htk : L.take i = L := by rw [hil]; exact List.take_length
        rw [htk] at HR9
        have hti : (L.take i).length = L.length := by rw [htk]
        rw [hti]
        have hlz : ¬ (i : Int) < (L.length : Int) := by omega
        clear hds hown hg
        go_wp2_with fail
        go_ret
        exact ⟨Ao, co, rfl, HG.out, HR9.out⟩
set_option maxHeartbeats 4000000 in
theorem out_k8 (PUT : PutAny) (k : Nat) (E : ES) (id n now : Int) (o : Out) (d : Value) (M S : Bl) (w : World) (h : EngR w M S k E) (hE : EOk E) (hdue : E.due.length ≤ 999000) (r : RunS) (hr : lk E.runs id = some r) (hd : BysM w M d o.data) (hk : o.kind = 8) :
    Calls Tryz.prog 117 #[.pointer (some ⟨k, 0, none⟩), .int .i64 id, .int .i64 n, .int .i64 now, outV o d] w (RetS M S k (outE E id n now o) (.bool true) vF w) := by
  obtain ⟨kd, ka, md, ma, mr, kh, hv, hP⟩ := h
  have H := hid hP
  obtain ⟨e0, e1, e2, e3, e4, e5, e6, hkl⟩ := hP.cells
  have HDR := hid (fun (W : World) (y : Gr w W) => drop_any 0 kh hv E.due id n W (hP.gr y).h (by omega))
  have HD := hid hd
  obtain ⟨Ad, cd, rfl⟩ := hd.shape
  have hE1 : EOk { E with due := dropD E.due id n } := (nx_due (m := 0) (fun e => dropD_srt e _ _) (Nat.le_trans (dropD_len _ _ _) (by omega))).ok hE
  have HE1 := hid hE1
  have HD1 := hid (show (dropD E.due id n).length ≤ 999000 from Nat.le_trans (dropD_len _ _ _) hdue)
  have HR0 := hid hr
  have HNX := hid hP.nes
  obtain ⟨X, hX⟩ : ∃ X, outE E id n now o = X := ⟨_, rfl⟩
  rw [hX]
  unfold outE at hX
  rw [if_neg (by omega), if_neg (by omega)] at hX
  simp only [hr] at hX
  rw [if_pos hk] at hX
  have HX := hid hX
  clear hX
  rcases o with ⟨ok, ol, or_, ot, oa, oi, on, od⟩
  simp only at hk
  subst hk
  simp only [outV] at *
  clear hP hd hE1
  have HDE := hid (show dropD E.due id n = dropF E.due id n from rfl)
  generalize od.length = dl at *
  go_enter Tryz.func117, Tryz.ntmps117
  go_upto_region 14 with (first
    | (go_at_call 161
       refine (HDR.out _ ((Gr.refl w).alloc _)).mono ?_
       rintro en w3 ⟨hv3, rfl, hhb, hhm, hho⟩
       have P3 := hid ((H.out.gr ((Gr.refl w).alloc _)).setDue hhm (HDE.out ▸ hhb) hho)
       have AL := hid (show Along w M S w3 (own M hv3) (own S hv3) from by
         have hr := (H.out.gr ((Gr.refl w).alloc (.cells #[.int .i64 8, .int .i64 ol, .int .i64 or_, .int .i64 ot, .int .i64 oa, .int .i64 oi, .int .i64 on, .slice Ad dl cd] 188))).retDue (vok := .bool true) (vfull := vF) (e := .returned (.bool true)) (due := dropD E.due id n) ⟨hv3, rfl, HDE.out ▸ hhb, hhm, hho⟩
         refine ⟨(((Gr.refl w).alloc _).mod S).trans (hhm.mono fun b _ e => ?_) (fun _ _ e => e), fun b hb e => ?_, fun b hb e => ?_, fun b e => .inl e⟩
         · rcases e with rfl | e
           · exact H.out.skh
           · exact H.out.shv b e.symm
         · rcases e with e | e
           · exact e
           · rcases hho with hho | ⟨c, hho, hc⟩
             · rw [hho] at e; exact H.out.shv b e
             · rw [hho] at e; injection e with e; simp at hc; omega
         · rcases e with e | e
           · exact e
           · rcases hho with hho | ⟨c, hho, hc⟩
             · rw [hho] at e; exact H.out.SM b (H.out.shv b e)
             · rw [hho] at e; injection e with e; simp at hc; omega)
       have HB := hid ((hhm.block w.heap.size (by simp) (by
         rintro (e | e)
         · have := H.out.h.lt; omega
         · have := (HNX.out.2.2.2.2.2.2.2 _ e.symm).2.2.2.2; omega)).trans (heap_alloc_new w _))
       clear hhb hhm hho))
  obtain ⟨b0, b1, b2, b3, b4, b5, b6, b7⟩ := cells8 HB.out
  have hbl := block_lt HB.out
  obtain ⟨f0, f1, f2, f3, f4, f5, f6, hk3⟩ := P3.out.cells
  have HD3 := hid (HD.out.up (AL.out.up H.out.SM))
  rcases P3.out.look id false with ⟨hn, _⟩ | ⟨r', kf, hr', hf, hlk'⟩
  · have hn' : lk E.runs id = none := hn
    rw [HR0.out] at hn'
    cases hn'
  have hr2 : lk E.runs id = some r' := hr'
  rw [HR0.out] at hr2
  injection hr2 with hr2
  subst hr2
  clear hr'
  have hlk := hlk' w3 (Gr.refl w3)
  simp only [Bool.false_eq_true, if_false, runV] at hlk
  have HF := hid hf
  clear hlk' hf hr
  have hne : r.f.l ≠ [] := (hE.get HR0.out).1.ne
  have hfl := (hE.get HR0.out).1.len
  obtain ⟨first, rest, hfr⟩ : ∃ a l, r.f.l = a :: l := by
    rcases hh : r.f.l with _ | ⟨a, l⟩
    · exact absurd hh hne
    · exact ⟨a, l, rfl⟩
  have HX1 := hid (show X = (beginF { E with due := dropD E.due id n } id first.list first.n od r.pf r.pr now).map (·.1) by rw [← HX.out]; rw [hfr])
  have HEVL := hid (show eventsF r.f 1 = first :: rest by
    unfold eventsF
    rw [if_neg (by rw [hfr]; simp only [List.length_cons]; omega), hfr]
    rfl)
  obtain ⟨_, mb, _, hflow⟩ := HF.out
  have HEV := hid (fun (W : World) (g : Gr w3 W) => eventsO_any kf mb r.f (own M hv3) 1 W (hflow.gr g) (by omega) hne (fun b e => Nat.lt_of_lt_of_le (P3.out.lt b e) g.size) (by omega))
  have HBG := hid (fun (W : World) (g : Gr w3 W) => begin_any PUT k { E with due := dropD E.due id n } id first.list first.n (.slice Ad dl cd) od r.pf r.pr now (own M hv3) (own S hv3) W ⟨kd, ka, md, ma, mr, kh, hv3, P3.out.gr g⟩ HE1.out HD1.out (HD3.out.up (Gr.up g _)))
  obtain ⟨R, hR⟩ : ∃ R, (beginF { E with due := dropD E.due id n } id first.list first.n od r.pf r.pr now).map (·.1) = R := ⟨_, rfl⟩
  have HXR := hid (HX1.out.trans hR)
  rw [hR] at HBG
  obtain ⟨N, hN⟩ : ∃ N, nextE { E with due := dropD E.due id n } id = N := ⟨_, rfl⟩
  rw [hN] at HBG
  rw [HEVL.out] at HEV
  clear hR hN hflow hfr hne HX1 HX HEVL hfl
  rcases first with ⟨ek, et, er, ei, el, en_, ed⟩
  cases R with
  | none =>
    go_wp2_with (first
      | (go_at_call 67
         refine (HEV.out _ ((Gr.refl w3).alloc _)).mono ?_
         rintro en w5 ⟨A5, c5, rfl, g5, hrec5⟩
         obtain ⟨bb, off, dv, rfl, hbb, hMb, hdat, hcell⟩ := hrec5.at_ (m := 6) (fun x => evR_len x) (i := 0) (x := ⟨ek, et, er, ei, el, en_, ed⟩) rfl
         obtain ⟨Adv, cdv, rfl⟩ := hdat.shape
         have hadr : ∀ j, off + 0 * (6 + 1) + j = off + j := fun j => by omega
         have g0 := hcell 0 (.int .i64 ek) rfl
         have g1 := hcell 1 (.int .i64 et) rfl
         have g2 := hcell 2 (.int .i64 er) rfl
         have g3 := hcell 3 (.int .i64 ei) rfl
         have g4 := hcell 4 (.int .i64 el) rfl
         have g5' := hcell 5 (.int .i64 en_) rfl
         have g6 := hcell 6 (.slice Adv (evR ⟨ek, et, er, ei, el, en_, ed⟩).2.length cdv) rfl
         rw [hadr] at g0 g1 g2 g3 g4 g5' g6
         rw [Nat.add_zero] at g0
         have GE := hid (((Gr.refl w3).alloc (.cells #[.pointer (some ⟨kf, 0, none⟩), .int .i64 r.pf, .int .i64 r.pr] 109)).trans g5)
         have hrb := (g5.block w3.heap.size (by simp)).trans (heap_alloc_new w3 _)
         obtain ⟨y0, y1, y2⟩ := cells3c hrb
         have hrl := block_lt hrb
         have hob := (GE.out.block _ (block_lt HB.out)).trans HB.out
         obtain ⟨z0, z1, z2, z3, z4, z5, z6, z7⟩ := cells8 hob
         have hol := block_lt hob
         have GB := hid (GE.out.alloc (.cells #[.int .i64 ek, .int .i64 et, .int .i64 er, .int .i64 ei, .int .i64 el, .int .i64 en_, .slice Adv (evR ⟨ek, et, er, ei, el, en_, ed⟩).2.length cdv] 41))
         clear hrec5 hcell hadr hrb hob hdat g5)
      | (go_at_call 100
         refine (HBG.out _ GB.out).mono ?_
         intro en w9 hret
         rcases (hret.grow GB.out).cases with ⟨_, v9, hen, hv9, hm9⟩ | ⟨E9, M9, S9, e9, _⟩
         rotate_left
         · cases e9
         obtain ⟨x9, rfl⟩ := hv9
         subst hen
         have HM9 := hid hm9
         clear hret hm9))
    go_ret
    rw [HXR.out]
    exact RetS.none_ AL.out HM9.out rfl
  | some E' =>
    go_wp2_with (first
      | (go_at_call 67
         refine (HEV.out _ ((Gr.refl w3).alloc _)).mono ?_
         rintro en w5 ⟨A5, c5, rfl, g5, hrec5⟩
         obtain ⟨bb, off, dv, rfl, hbb, hMb, hdat, hcell⟩ := hrec5.at_ (m := 6) (fun x => evR_len x) (i := 0) (x := ⟨ek, et, er, ei, el, en_, ed⟩) rfl
         obtain ⟨Adv, cdv, rfl⟩ := hdat.shape
         have hadr : ∀ j, off + 0 * (6 + 1) + j = off + j := fun j => by omega
         have g0 := hcell 0 (.int .i64 ek) rfl
         have g1 := hcell 1 (.int .i64 et) rfl
         have g2 := hcell 2 (.int .i64 er) rfl
         have g3 := hcell 3 (.int .i64 ei) rfl
         have g4 := hcell 4 (.int .i64 el) rfl
         have g5' := hcell 5 (.int .i64 en_) rfl
         have g6 := hcell 6 (.slice Adv (evR ⟨ek, et, er, ei, el, en_, ed⟩).2.length cdv) rfl
         rw [hadr] at g0 g1 g2 g3 g4 g5' g6
         rw [Nat.add_zero] at g0
         have GE := hid (((Gr.refl w3).alloc (.cells #[.pointer (some ⟨kf, 0, none⟩), .int .i64 r.pf, .int .i64 r.pr] 109)).trans g5)
         have hrb := (g5.block w3.heap.size (by simp)).trans (heap_alloc_new w3 _)
         obtain ⟨y0, y1, y2⟩ := cells3c hrb
         have hrl := block_lt hrb
         have hob := (GE.out.block _ (block_lt HB.out)).trans HB.out
         obtain ⟨z0, z1, z2, z3, z4, z5, z6, z7⟩ := cells8 hob
         have hol := block_lt hob
         have GB := hid (GE.out.alloc (.cells #[.int .i64 ek, .int .i64 et, .int .i64 er, .int .i64 ei, .int .i64 el, .int .i64 en_, .slice Adv (evR ⟨ek, et, er, ei, el, en_, ed⟩).2.length cdv] 41))
         clear hrec5 hcell hadr hrb hob hdat g5)
      | (go_at_call 100
         refine (HBG.out _ GB.out).mono ?_
         intro en w9 hret
         rcases (hret.grow GB.out).cases with ⟨e9, _⟩ | ⟨E9, M9, S9, e9, hen, he9, ha9⟩
         · cases e9
         injection e9 with e9
         subst e9
         subst hen
         have HE9 := hid he9
         have HA9 := hid ha9
         clear hret he9 ha9))
    go_ret
    rw [HXR.out]
    exact RetS.some_ (AL.out.trans HA9.out) HE9.out
theorem out_all (PUT : PutAny) (k : Nat) (E : ES) (id n now : Int) (o : Out) (d : Value) (M S : Bl) (w : World) (h : EngR w M S k E) (hE : EOk E) (hdue : E.due.length ≤ 999000) (r : RunS) (hr : lk E.runs id = some r) (hd : BysM w M d o.data) (hk : 1 ≤ o.kind ∧ o.kind ≤ 8) :
    Calls Tryz.prog 117 #[.pointer (some ⟨k, 0, none⟩), .int .i64 id, .int .i64 n, .int .i64 now, outV o d] w (RetS M S k (outE E id n now o) (.bool true) vF w) := by
  rcases Int.lt_or_le o.kind 6 with h5 | h5
  · have he : outE E id n now o = out0 E id n o := by unfold outE; rw [if_pos (by omega)]
    rw [he]
    exact out_any0 k E id n now o d M S w h hE (by omega) (by obtain ⟨A, c, e⟩ := hd.shape; exact ⟨A, _, c, e⟩) ⟨hk.1, by omega⟩
  · have hc : o.kind = 6 ∨ o.kind = 7 ∨ o.kind = 8 := by omega
    rcases hc with hc | hc | hc
    · exact out_k6 PUT k E id n now o d M S w h hE hdue r hr hd hc
    · exact out_k7 PUT k E id n now o d M S w h hE hdue r hr hd hc
    · exact out_k8 PUT k E id n now o d M S w h hE hdue r hr hd hc
def Has (id : Int) (E : ES) : Prop := ∃ r, lk E.runs id = some r
theorem has_gro {id : Int} {E E' : ES} (h : Has id E) (g : ∀ id r, lk E.runs id = some r → ∃ r', lk E'.runs id = some r') : Has id E' := by
  obtain ⟨r, h⟩ := h
  exact g id r h
end Go.Proofs.YtniknicnnaiilaaGreat
end
