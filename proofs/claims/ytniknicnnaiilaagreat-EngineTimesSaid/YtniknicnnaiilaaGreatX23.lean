/- Lemmas: what the functions of the engine answer, and which blocks they write. -/
import Derived.Test.YtniknicnnaiilaaGreatX04
import Derived.Test.YtniknicnnaiilaaGreatX09
import Derived.Test.YtniknicnnaiilaaGreatX17
import Derived.Test.YtniknicnnaiilaaGreatX18
import Derived.Test.YtniknicnnaiilaaGreatX22
section
namespace Go.Proofs.YtniknicnnaiilaaGreat
set_option maxRecDepth 100000
open Go.RowKit Go.Ext Go.BigFrame Go.Maps Go.MapKept
attribute [local go_sem] Ext.cell Ext.frozen Ext.lt Ext.le s1 s2 s3 s4 s5 s6 t1 t2 t3 t4 t5 t6
attribute [local go_sem ↓] Go.wp_at_zero Go.wp_at_succ
set_option maxHeartbeats 2000000 in
theorem wanted_any (k : Nat) (E : ES) (t : Task) (M S : Bl) (w : World) (h : EngR w M S k E) : Calls Tryz.prog 102 #[.pointer (some ⟨k, 0, none⟩), tkV t] w (RetE (.bool (wantedE E t)) w) := by
  obtain ⟨kd, ka, md, ma, mr, kh, hv, hP⟩ := h
  obtain ⟨e0, e1, e2, e3, e4, e5, e6, hkl⟩ := hP.cells
  refine retE ?_
  unfold wantedE
  rcases t with ⟨tf, tr, te, tt⟩
  simp only [tkV]
  have HB1 := hid (heap_alloc_new w (.cells #[.int .i64 tf, .int .i64 tr, .int .i64 te, .int .i64 tt] 84))
  have G1 := hid ((Gr.refl w).alloc (.cells #[.int .i64 tf, .int .i64 tr, .int .i64 te, .int .i64 tt] 84))
  have H := hid hP
  rcases hP.look tf true with ⟨hn, hlk'⟩ | ⟨r, kf, hr, hf, hlk'⟩
  · rw [hn]
    simp only [if_true] at hlk'
    have HLK := hid hlk'
    clear hP hlk' hn
    go_enter Tryz.func102, Tryz.ntmps102
    go_upto_region 1 with fail
    obtain ⟨w1, hw1⟩ : ∃ w1, w.alloc (.cells #[.int .i64 tf, .int .i64 tr, .int .i64 te, .int .i64 tt] 84) = w1 := ⟨_, rfl⟩
    rw [hw1] at HB1 G1 ⊢
    clear hw1
    obtain ⟨x0, x1, x2, x3⟩ := cells4 HB1.out
    obtain ⟨_, _, _, _, _, f5, _, hk1⟩ := (H.out.gr G1.out).cells
    have hb1 := block_lt HB1.out
    have hlk := fun (y : Ext w1) => HLK.out y.val (G1.out.trans y.gr)
    refine wp_region_planM [(0, false), (1, false), (2, false), (3, false), (4, false), (5, false), (6, false), (7, false), (8, false), (9, false), (10, true), (11, true), (12, true)] (fun W => Gr w1 W) (by kernel_rfl) (by kernel_rfl) (fun _ _ d _ _ h => by cases d <;> exact h) (Gr.refl w1).drew (fun _ => ?_)
    iterate 10 (refine pm_take (v := ?_) rfl (by rfl) ?_ ?_; rotate_left; (focus (intro W9 hW9; obtain ⟨x9, rfl⟩ : ∃ x : Ext w1, W9 = x.val := ⟨⟨W9, hW9⟩, rfl⟩; go_simp; (try with_reducible rfl); done)); (try simp only [AP]))
    refine pm_call rfl (by rfl) (fun K hK => ?_)
    go_simp
    refine hK.out (fun W => Gr w1 W) _ _ ?_ (fun W h => h) (fun _ => ?_)
    · exact ((Gr.refl w1).alloc _).drew
    clear hK K
    (try simp only [AP])
    refine pm_call rfl (by rfl) (fun K hK => ?_)
    go_simp
    refine hK.out (fun W => Gr w1 W) _ _ ?_ (fun W h => h) (fun _ => ?_)
    · exact ((Gr.refl w1).alloc _).drew
    clear hK K
    (try simp only [AP])
    refine pm_last rfl (by rfl) (fun K hK => ?_)
    go_simp
    refine hK.out _ _ ?_
    clear hK K
    have HB2 := hid (heap_alloc_new w1 (.cells #[.pointer none, .int .i64 0, .int .i64 0] 109))
    have G2 := hid ((Gr.refl w1).alloc (.cells #[.pointer none, .int .i64 0, .int .i64 0] 109)).drew
    obtain ⟨w2, hw2⟩ : ∃ w2, (w1.alloc (.cells #[.pointer none, .int .i64 0, .int .i64 0] 109)).drew = w2 := ⟨_, rfl⟩
    have HB2' := hid (show w2.heap[w1.heap.size]? = some (.cells #[.pointer none, .int .i64 0, .int .i64 0] 109) from by rw [← hw2]; exact HB2.out)
    rw [hw2] at G2 ⊢
    clear hw2 HB2
    have GG := hid (G1.out.trans G2.out)
    have hb3 := (G2.out.block w.heap.size hb1).trans HB1.out
    obtain ⟨z0, z1, z2, z3⟩ := cells4 hb3
    have zl := block_lt hb3
    obtain ⟨u0, u1, u2⟩ := cells3c HB2'.out
    have ul := block_lt HB2'.out
    clear hb3
    go_wp2_with fail
    refine wp_region_planM [(0, false), (1, false), (2, false), (3, false), (5, false), (6, false), (4, true), (7, false), (8, false), (9, false), (10, false), (11, false), (12, false), (13, false), (14, false), (15, false), (16, true), (17, false), (18, true)] (fun W => Gr w2 W) (by kernel_rfl) (by kernel_rfl) (fun _ _ d _ _ h => by cases d <;> exact h) (Gr.refl w2).drew (fun _ => ?_)
    iterate 6 (first | (refine pm_take (v := ?_) rfl (by rfl) ?_ ?_; rotate_left; (focus (intro W9 hW9; obtain ⟨x9, rfl⟩ : ∃ x : Ext w2, W9 = x.val := ⟨⟨W9, hW9⟩, rfl⟩; go_simp; (try with_reducible rfl); done)); (try simp only [AP])) | (refine pm_skip rfl (by rfl) ?_; (try simp only [AP])))
    refine pm_skipc rfl (by rfl) ?_
    (try simp only [AP])
    iterate 9 (first | (refine pm_take (v := ?_) rfl (by rfl) ?_ ?_; rotate_left; (focus (intro W9 hW9; obtain ⟨x9, rfl⟩ : ∃ x : Ext w2, W9 = x.val := ⟨⟨W9, hW9⟩, rfl⟩; go_simp; (try with_reducible rfl); done)); (try simp only [AP])) | (refine pm_skip rfl (by rfl) ?_; (try simp only [AP])))
    refine pm_skipc rfl (by rfl) ?_
    (try simp only [AP])
    iterate 1 (first | (refine pm_take (v := ?_) rfl (by rfl) ?_ ?_; rotate_left; (focus (intro W9 hW9; obtain ⟨x9, rfl⟩ : ∃ x : Ext w2, W9 = x.val := ⟨⟨W9, hW9⟩, rfl⟩; go_simp; (try with_reducible rfl); done)); (try simp only [AP])) | (refine pm_skip rfl (by rfl) ?_; (try simp only [AP])))
    refine pm_last rfl (by rfl) (fun K hK => ?_)
    go_simp
    refine hK.out _ _ ?_
    clear hK K
    go_wp2_with fail
    go_ret
    exact ⟨rfl, GG.out.drew⟩
  · rw [hr]
    simp only [if_true, runV] at hlk'
    have HLK := hid hlk'
    obtain ⟨_, mb, _, hfr⟩ := hf
    have HRUN := hid (fun (W : World) (g : Gr w W) => runO_any kf mb r.f M W (hfr.gr g))
    have HWA := hid (fun (W : World) (g : Gr w W) => wantsO_any kf mb r.f M te tt W (hfr.gr g))
    clear hP hlk' hfr hr
    simp only
    generalize wantsF r.f te tt = wa at *
    generalize r.f.run = rn at *
    by_cases hrn : rn = tr
    · subst hrn
      have hX : (rn == rn && wa) = wa := by simp
      rw [hX]
      clear hX
      go_enter Tryz.func102, Tryz.ntmps102
      go_upto_region 1 with fail
      obtain ⟨w1, hw1⟩ : ∃ w1, w.alloc (.cells #[.int .i64 tf, .int .i64 rn, .int .i64 te, .int .i64 tt] 84) = w1 := ⟨_, rfl⟩
      rw [hw1] at HB1 G1 ⊢
      clear hw1
      obtain ⟨x0, x1, x2, x3⟩ := cells4 HB1.out
      obtain ⟨_, _, _, _, _, f5, _, hk1⟩ := (H.out.gr G1.out).cells
      have hb1 := block_lt HB1.out
      have hlk := fun (y : Ext w1) => HLK.out y.val (G1.out.trans y.gr)
      refine wp_region_planM [(0, false), (1, false), (2, false), (3, false), (4, false), (5, false), (6, false), (7, false), (8, false), (9, false), (10, true), (11, true), (12, true)] (fun W => Gr w1 W) (by kernel_rfl) (by kernel_rfl) (fun _ _ d _ _ h => by cases d <;> exact h) (Gr.refl w1).drew (fun _ => ?_)
      iterate 10 (refine pm_take (v := ?_) rfl (by rfl) ?_ ?_; rotate_left; (focus (intro W9 hW9; obtain ⟨x9, rfl⟩ : ∃ x : Ext w1, W9 = x.val := ⟨⟨W9, hW9⟩, rfl⟩; go_simp; (try with_reducible rfl); done)); (try simp only [AP]))
      refine pm_call rfl (by rfl) (fun K hK => ?_)
      go_simp
      refine hK.out (fun W => Gr w1 W) _ _ ?_ (fun W h => h) (fun _ => ?_)
      · exact ((Gr.refl w1).alloc _).drew
      clear hK K
      (try simp only [AP])
      refine pm_call rfl (by rfl) (fun K hK => ?_)
      go_simp
      refine hK.out (fun W => Gr w1 W) _ _ ?_ (fun W h => h) (fun _ => ?_)
      · exact ((Gr.refl w1).alloc _).drew
      clear hK K
      (try simp only [AP])
      refine pm_last rfl (by rfl) (fun K hK => ?_)
      go_simp
      refine hK.out _ _ ?_
      clear hK K
      have HB2 := hid (heap_alloc_new w1 (.cells #[.pointer (some ⟨kf, 0, none⟩), .int .i64 r.pf, .int .i64 r.pr] 109))
      have G2 := hid ((Gr.refl w1).alloc (.cells #[.pointer (some ⟨kf, 0, none⟩), .int .i64 r.pf, .int .i64 r.pr] 109)).drew
      obtain ⟨w2, hw2⟩ : ∃ w2, (w1.alloc (.cells #[.pointer (some ⟨kf, 0, none⟩), .int .i64 r.pf, .int .i64 r.pr] 109)).drew = w2 := ⟨_, rfl⟩
      have HB2' := hid (show w2.heap[w1.heap.size]? = some (.cells #[.pointer (some ⟨kf, 0, none⟩), .int .i64 r.pf, .int .i64 r.pr] 109) from by rw [← hw2]; exact HB2.out)
      rw [hw2] at G2 ⊢
      clear hw2 HB2
      have GG := hid (G1.out.trans G2.out)
      have hb3 := (G2.out.block w.heap.size hb1).trans HB1.out
      obtain ⟨z0, z1, z2, z3⟩ := cells4 hb3
      have zl := block_lt hb3
      obtain ⟨u0, u1, u2⟩ := cells3c HB2'.out
      have ul := block_lt HB2'.out
      clear hb3
      go_wp2_with fail
      refine wp_region_planM [(0, false), (1, false), (2, false), (3, false), (5, false), (6, false), (4, true), (7, false), (8, false), (9, false), (10, false), (11, false), (12, false), (13, false), (14, false), (15, false), (16, true), (17, false), (18, true)] (fun W => Gr w2 W) (by kernel_rfl) (by kernel_rfl) (fun _ _ d _ _ h => by cases d <;> exact h) (Gr.refl w2).drew (fun _ => ?_)
      iterate 6 (first | (refine pm_take (v := ?_) rfl (by rfl) ?_ ?_; rotate_left; (focus (intro W9 hW9; obtain ⟨x9, rfl⟩ : ∃ x : Ext w2, W9 = x.val := ⟨⟨W9, hW9⟩, rfl⟩; go_simp; (try with_reducible rfl); done)); (try simp only [AP])) | (refine pm_skip rfl (by rfl) ?_; (try simp only [AP])))
      refine pm_call rfl (by rfl) (fun K hK => ?_)
      go_simp
      go_at_call 63
      refine (HRUN.out _ GG.out.drew).mono ?_
      rintro en _ ⟨rfl, y5, rfl⟩
      have G5 := hid ((Gr.refl w2).drew.ext y5)
      refine hK.out (fun W => Gr w2 W) _ _ G5.out (fun W h => h) (fun _ => ?_)
      clear hK K
      (try simp only [AP])
      iterate 9 (first | (refine pm_take (v := ?_) rfl (by rfl) ?_ ?_; rotate_left; (focus (intro W9 hW9; obtain ⟨x9, rfl⟩ : ∃ x : Ext w2, W9 = x.val := ⟨⟨W9, hW9⟩, rfl⟩; go_simp; (try with_reducible rfl); done)); (try simp only [AP])) | (refine pm_skip rfl (by rfl) ?_; (try simp only [AP])))
      refine pm_call rfl (by rfl) (fun K hK => ?_)
      go_simp
      go_at_call 136
      refine (HWA.out _ (GG.out.trans G5.out)).mono ?_
      rintro en _ ⟨rfl, y6, rfl⟩
      have G6 := hid (G5.out.ext y6)
      refine hK.out (fun W => Gr w2 W) _ _ G6.out (fun W h => h) (fun _ => ?_)
      clear hK K
      (try simp only [AP])
      cases wa
      · iterate 1 (first | (refine pm_take (v := ?_) rfl (by rfl) ?_ ?_; rotate_left; (focus (intro W9 hW9; obtain ⟨x9, rfl⟩ : ∃ x : Ext w2, W9 = x.val := ⟨⟨W9, hW9⟩, rfl⟩; go_simp; (try with_reducible rfl); done)); (try simp only [AP])) | (refine pm_skip rfl (by rfl) ?_; (try simp only [AP])))
        refine pm_last rfl (by rfl) (fun K hK => ?_)
        go_simp
        refine hK.out _ _ ?_
        clear hK K
        go_wp2_with fail
        go_ret
        exact ⟨rfl, GG.out.trans G6.out⟩
      · iterate 1 (first | (refine pm_take (v := ?_) rfl (by rfl) ?_ ?_; rotate_left; (focus (intro W9 hW9; obtain ⟨x9, rfl⟩ : ∃ x : Ext w2, W9 = x.val := ⟨⟨W9, hW9⟩, rfl⟩; go_simp; (try with_reducible rfl); done)); (try simp only [AP])) | (refine pm_skip rfl (by rfl) ?_; (try simp only [AP])))
        refine pm_last rfl (by rfl) (fun K hK => ?_)
        go_simp
        refine hK.out _ _ ?_
        clear hK K
        go_wp2_with fail
        go_ret
        exact ⟨rfl, GG.out.trans G6.out⟩
    · have hX : (rn == tr && wa) = false := by simp [hrn]
      rw [hX]
      have hrb : (rn == tr) = false := by simpa using hrn
      clear hX
      go_enter Tryz.func102, Tryz.ntmps102
      go_upto_region 1 with fail
      obtain ⟨w1, hw1⟩ : ∃ w1, w.alloc (.cells #[.int .i64 tf, .int .i64 tr, .int .i64 te, .int .i64 tt] 84) = w1 := ⟨_, rfl⟩
      rw [hw1] at HB1 G1 ⊢
      clear hw1
      obtain ⟨x0, x1, x2, x3⟩ := cells4 HB1.out
      obtain ⟨_, _, _, _, _, f5, _, hk1⟩ := (H.out.gr G1.out).cells
      have hb1 := block_lt HB1.out
      have hlk := fun (y : Ext w1) => HLK.out y.val (G1.out.trans y.gr)
      refine wp_region_planM [(0, false), (1, false), (2, false), (3, false), (4, false), (5, false), (6, false), (7, false), (8, false), (9, false), (10, true), (11, true), (12, true)] (fun W => Gr w1 W) (by kernel_rfl) (by kernel_rfl) (fun _ _ d _ _ h => by cases d <;> exact h) (Gr.refl w1).drew (fun _ => ?_)
      iterate 10 (refine pm_take (v := ?_) rfl (by rfl) ?_ ?_; rotate_left; (focus (intro W9 hW9; obtain ⟨x9, rfl⟩ : ∃ x : Ext w1, W9 = x.val := ⟨⟨W9, hW9⟩, rfl⟩; go_simp; (try with_reducible rfl); done)); (try simp only [AP]))
      refine pm_call rfl (by rfl) (fun K hK => ?_)
      go_simp
      refine hK.out (fun W => Gr w1 W) _ _ ?_ (fun W h => h) (fun _ => ?_)
      · exact ((Gr.refl w1).alloc _).drew
      clear hK K
      (try simp only [AP])
      refine pm_call rfl (by rfl) (fun K hK => ?_)
      go_simp
      refine hK.out (fun W => Gr w1 W) _ _ ?_ (fun W h => h) (fun _ => ?_)
      · exact ((Gr.refl w1).alloc _).drew
      clear hK K
      (try simp only [AP])
      refine pm_last rfl (by rfl) (fun K hK => ?_)
      go_simp
      refine hK.out _ _ ?_
      clear hK K
      have HB2 := hid (heap_alloc_new w1 (.cells #[.pointer (some ⟨kf, 0, none⟩), .int .i64 r.pf, .int .i64 r.pr] 109))
      have G2 := hid ((Gr.refl w1).alloc (.cells #[.pointer (some ⟨kf, 0, none⟩), .int .i64 r.pf, .int .i64 r.pr] 109)).drew
      obtain ⟨w2, hw2⟩ : ∃ w2, (w1.alloc (.cells #[.pointer (some ⟨kf, 0, none⟩), .int .i64 r.pf, .int .i64 r.pr] 109)).drew = w2 := ⟨_, rfl⟩
      have HB2' := hid (show w2.heap[w1.heap.size]? = some (.cells #[.pointer (some ⟨kf, 0, none⟩), .int .i64 r.pf, .int .i64 r.pr] 109) from by rw [← hw2]; exact HB2.out)
      rw [hw2] at G2 ⊢
      clear hw2 HB2
      have GG := hid (G1.out.trans G2.out)
      have hb3 := (G2.out.block w.heap.size hb1).trans HB1.out
      obtain ⟨z0, z1, z2, z3⟩ := cells4 hb3
      have zl := block_lt hb3
      obtain ⟨u0, u1, u2⟩ := cells3c HB2'.out
      have ul := block_lt HB2'.out
      clear hb3
      go_wp2_with fail
      refine wp_region_planM [(0, false), (1, false), (2, false), (3, false), (5, false), (6, false), (4, true), (7, false), (8, false), (9, false), (10, false), (11, false), (12, false), (13, false), (14, false), (15, false), (16, true), (17, false), (18, true)] (fun W => Gr w2 W) (by kernel_rfl) (by kernel_rfl) (fun _ _ d _ _ h => by cases d <;> exact h) (Gr.refl w2).drew (fun _ => ?_)
      iterate 6 (first | (refine pm_take (v := ?_) rfl (by rfl) ?_ ?_; rotate_left; (focus (intro W9 hW9; obtain ⟨x9, rfl⟩ : ∃ x : Ext w2, W9 = x.val := ⟨⟨W9, hW9⟩, rfl⟩; go_simp; (try with_reducible rfl); done)); (try simp only [AP])) | (refine pm_skip rfl (by rfl) ?_; (try simp only [AP])))
      refine pm_call rfl (by rfl) (fun K hK => ?_)
      go_simp
      go_at_call 63
      refine (HRUN.out _ GG.out.drew).mono ?_
      rintro en _ ⟨rfl, y5, rfl⟩
      have G5 := hid ((Gr.refl w2).drew.ext y5)
      refine hK.out (fun W => Gr w2 W) _ _ G5.out (fun W h => h) (fun _ => ?_)
      clear hK K
      (try simp only [AP])
      iterate 9 (first | (refine pm_take (v := ?_) rfl (by rfl) ?_ ?_; rotate_left; (focus (intro W9 hW9; obtain ⟨x9, rfl⟩ : ∃ x : Ext w2, W9 = x.val := ⟨⟨W9, hW9⟩, rfl⟩; go_simp; (try with_reducible rfl); done)); (try simp only [AP])) | (refine pm_skip rfl (by rfl) ?_; (try simp only [AP])))
      refine pm_skipc rfl (by rfl) ?_
      (try simp only [AP])
      iterate 1 (first | (refine pm_take (v := ?_) rfl (by rfl) ?_ ?_; rotate_left; (focus (intro W9 hW9; obtain ⟨x9, rfl⟩ : ∃ x : Ext w2, W9 = x.val := ⟨⟨W9, hW9⟩, rfl⟩; go_simp; (try with_reducible rfl); done)); (try simp only [AP])) | (refine pm_skip rfl (by rfl) ?_; (try simp only [AP])))
      refine pm_last rfl (by rfl) (fun K hK => ?_)
      go_simp
      refine hK.out _ _ ?_
      clear hK K
      go_wp2_with fail
      go_ret
      exact ⟨rfl, GG.out.trans G5.out⟩
def ansC (a : Ans) (d e : Value) : Array Value := #[.int .i64 a.err, .int .i64 a.run, .int .i64 a.status, .bool a.given, .int .i64 a.tok.flow, .int .i64 a.tok.run, .int .i64 a.tok.event, .int .i64 a.tok.turn, d, e]
def ansV (a : Ans) (d e : Value) : Value := .agg (ansC a d e)
def Told (pa : Nat) (M : Bl) (a : Ans) (W : World) : Prop := ∃ dv, W.heap[pa]? = some (.cells (ansC a dv (.slice none 0 0)) 31 (0, 0)) ∧ BysM W M dv a.data
theorem Told.up {pa : Nat} {M M' : Bl} {a : Ans} {W W' : World} (h : Told pa M a W) (u : Up M W M' W') (hb : W'.heap[pa]? = W.heap[pa]?) : Told pa M' a W' := by
  obtain ⟨dv, h1, h2⟩ := h
  exact ⟨dv, hb.trans h1, h2.up u⟩
theorem ev_first {w : World} {M : Bl} {A : Option Addr} {n c : Nat} {l : List Ev} {e : Ev} {r : List Ev} (h : RecsM evR w M (.slice A n c) l) (hl : l = e :: r) : ∃ b off d, A = some ⟨b, off, none⟩ ∧ n = r.length + 1 ∧ n ≤ c ∧ b < w.heap.size ∧ w.cell? ⟨b, off + 6, none⟩ = some d ∧ BysM w M d e.data := by
  subst hl
  obtain ⟨b, off, d, h1, h2, h3, h4, h5⟩ := h.at_ (m := 6) (i := 0) (x := e) (fun x => evR_len x) rfl
  obtain ⟨A', c', e1, e2⟩ := h.shape
  injection e1 with e3 e4 e5
  subst e4 e5
  exact ⟨b, off, d, h1, by simp, e2, h2, by simpa using h5 6 d rfl, h4⟩
set_option maxHeartbeats 2000000 in
theorem give1_T (PUT : PutAny) (kf pc pt pe pa k kd ka mr kh : Nat) (E : ES) (t : Task) (F : FS) (ck : Int) (cr : List Value) (M : Bl) (w : World) (hk : w.heap[k]? = some (.cells (engC E kd ka mr kh) 79 (0, 0))) (h : FlowF w M kf F) (hM : ∀ b, M b → b < w.heap.size) (hkf : M kf) (_ : M pa) (hne : k ≠ kf ∧ pc ≠ kf ∧ pt ≠ kf ∧ pe ≠ kf ∧ pa ≠ kf ∧ k ≠ pa ∧ pt ≠ pa ∧ pe ≠ pa) (hF : FOk F)
    (hpc : w.heap[pc]? = some (.cells (Value.int .i64 ck :: cr).toArray 35 (0, 0))) (hpt : w.heap[pt]? = some (.cells #[.int .i64 t.flow, .int .i64 t.run, .int .i64 t.ref, .int .i64 t.turn] 84 (0, 0))) (hpe : w.heap[pe]? = some (.cells #[.pointer (some ⟨k, 0, none⟩)] 24 (0, 0)))
    (hpa : w.heap[pa]? = some (.cells (ansC (giveA true t F) (.slice none 0 0) (.slice none 0 0)) 31 (0, 0))) (h7 : ck = 7) :
    Calls Tryz.prog 137 #[.pointer (some ⟨kf, 0, none⟩), .pointer (some ⟨pc, 0, none⟩), .pointer (some ⟨pt, 0, none⟩), .pointer (some ⟨pe, 0, none⟩), .pointer (some ⟨pa, 0, none⟩)] w (RetQ M kf (fun b => b = pa) (giveD true t E.now F) (Told pa M (giveA true t F)) w) := by
  subst h7
  obtain ⟨n1, n2, n3, n4, n5, n6, n7, n8⟩ := hne
  have HD := hid (fun (W : World) (g : Gr w W) => decides_any PUT kf F t.ref t.turn E.now M W (h.gr g) (fun b e => Nat.lt_of_lt_of_le (hM b e) g.size) hkf hF)
  have HPA := hid hpa
  have c0 : w.cell? ⟨pc, 0, none⟩ = some (.int .i64 7) := by simp [World.cell?, hpc]
  have hcl := block_lt hpc
  have hX : giveD true t E.now F = decidesF F t.ref t.turn E.now := rfl
  rw [hX]
  clear hX
  obtain ⟨x, hx⟩ : ∃ x, decidesF F t.ref t.turn E.now = x := ⟨_, rfl⟩
  rw [hx] at HD ⊢
  have HS := hid (show ∀ W, Mod (fun b => b = kf) w W → ∃ _ : pt < W.heap.size ∧ pe < W.heap.size ∧ k < W.heap.size, (W.cell? ⟨pt, 2, none⟩ = some (.int .i64 t.ref) ∧ W.cell? ⟨pt, 3, none⟩ = some (.int .i64 t.turn)) ∧ W.cell? ⟨pe, 0, none⟩ = some (.pointer (some ⟨k, 0, none⟩)) ∧ W.cell? ⟨k, 4, none⟩ = some (.int .i64 E.now) from fun W mm => by
    have q0 := (mm.block pt (block_lt hpt) n3).trans hpt
    have q1 := (mm.block pe (block_lt hpe) n4).trans hpe
    have q2 := (mm.block k (block_lt hk) n1).trans hk
    refine ⟨⟨block_lt q0, block_lt q1, block_lt q2⟩, ⟨?_, ?_⟩, ?_, ?_⟩
    · simp [World.cell?, q0]
    · simp [World.cell?, q0]
    · simp [World.cell?, q1]
    · simp [World.cell?, q2, engC])
  clear hk h hM hF hpc hpt hpe hpa hx
  go_enter Tryz.func137, Tryz.ntmps137
  go_upto_region 2 with fail
  refine wp_region_planM [(0, false), (1, false), (2, false), (3, false), (4, false), (5, false), (6, false), (7, false), (8, false), (9, true), (10, false), (11, false), (12, false), (13, true)] (fun W => Mod (fun b => b = kf) w W) (by kernel_rfl) (by kernel_rfl) (fun _ _ d _ _ h => by cases d <;> exact h) ((Gr.refl w).drew.mod _) (fun _ => ?_)
  iterate 9 (refine pm_take (v := ?_) rfl (by rfl) ?_ ?_; rotate_left; (focus (intro W9 hW9; obtain ⟨⟨_, _, _⟩, ⟨a0, a1⟩, a2, a3⟩ := HS.out W9 hW9; go_simp; (try with_reducible rfl); done)); (try simp only [AP]))
  refine pm_call rfl (by rfl) (fun K hK => ?_)
  go_simp
  go_at_call 138
  refine (HD.out _ (Gr.refl w).drew).mono ?_
  rintro en w5 ⟨A5, c5, rfl, hf5, ho5, hm5⟩
  have M5 := hid ((((Gr.refl w).drew.mod _).trans hm5 (fun _ _ e => e)))
  refine hK.out (fun W => Mod (fun b => b = kf) w W) _ _ M5.out (fun W h => h) (fun _ => ?_)
  clear hK K
  (try simp only [AP])
  iterate 3 (refine pm_take (v := ?_) rfl (by rfl) ?_ ?_; rotate_left; (focus (intro W9 hW9; obtain ⟨⟨_, _, _⟩, ⟨a0, a1⟩, a2, a3⟩ := HS.out W9 hW9; go_simp; (try with_reducible rfl); done)); (try simp only [AP]))
  refine pm_last rfl (by rfl) (fun K hK => ?_)
  go_simp
  refine hK.out _ _ ?_
  clear hK K
  go_wp2_with fail
  go_ret2
  exact ⟨A5, c5, rfl, hf5, ho5, M5.out.mono (fun _ _ e => .inl e), ⟨_, (M5.out.block pa (block_lt HPA.out) n5).trans HPA.out, BysM.none _ _⟩⟩
set_option maxHeartbeats 2000000 in
theorem give1_F (PUT : PutAny) (kf pc pt pe pa k kd ka mr kh : Nat) (E : ES) (t : Task) (F : FS) (ck : Int) (cr : List Value) (M : Bl) (w : World) (hk : w.heap[k]? = some (.cells (engC E kd ka mr kh) 79 (0, 0))) (h : FlowF w M kf F) (hM : ∀ b, M b → b < w.heap.size) (hkf : M kf) (hpaM : M pa) (hne : k ≠ kf ∧ pc ≠ kf ∧ pt ≠ kf ∧ pe ≠ kf ∧ pa ≠ kf ∧ k ≠ pa ∧ pt ≠ pa ∧ pe ≠ pa) (hF : FOk F)
    (hpc : w.heap[pc]? = some (.cells (Value.int .i64 ck :: cr).toArray 35 (0, 0))) (hpt : w.heap[pt]? = some (.cells #[.int .i64 t.flow, .int .i64 t.run, .int .i64 t.ref, .int .i64 t.turn] 84 (0, 0))) (hpe : w.heap[pe]? = some (.cells #[.pointer (some ⟨k, 0, none⟩)] 24 (0, 0)))
    (hpa : w.heap[pa]? = some (.cells (ansC (giveA true t F) (.slice none 0 0) (.slice none 0 0)) 31 (0, 0))) (h7 : ck ≠ 7) (e : Ev) (es : List Ev) (hev : eventsF F t.ref = e :: es) (hrf : 0 ≤ t.ref ∧ t.ref ≤ 1000000) :
    Calls Tryz.prog 137 #[.pointer (some ⟨kf, 0, none⟩), .pointer (some ⟨pc, 0, none⟩), .pointer (some ⟨pt, 0, none⟩), .pointer (some ⟨pe, 0, none⟩), .pointer (some ⟨pa, 0, none⟩)] w (RetQ M kf (fun b => b = pa) (giveD false t E.now F) (Told pa M (giveA false t F)) w) := by
  obtain ⟨n1, n2, n3, n4, n5, n6, n7, n8⟩ := hne
  obtain ⟨mb, hmb, hfr⟩ := h
  have HEV := hid (eventsO_any kf mb F M t.ref w hfr (by have := hF.len; omega) hF.ne hM (by omega))
  have HD := hid (fun (W : World) (hh : FlowF W M kf F) (hM : ∀ b, M b → b < W.heap.size) => works_any PUT kf F t.ref E.now M W hh hM hkf hF)
  have HM := hid hM
  have H := hid (show FlowF w M kf F from ⟨mb, hmb, hfr⟩)
  have HPA := hid hpa
  have HPT := hid hpt
  have HPE := hid hpe
  have HK := hid hk
  have HKF := hid hkf
  have HEE := hid hev
  rw [hev] at HEV
  have c0 : w.cell? ⟨pc, 0, none⟩ = some (.int .i64 ck) := by simp [World.cell?, hpc]
  have c2 : w.cell? ⟨pt, 2, none⟩ = some (.int .i64 t.ref) := by simp [World.cell?, hpt]
  have hcl := block_lt hpc
  have htl := block_lt hpt
  have h7' : (ck == 7) = false := by simpa using h7
  have hX : giveD false t E.now F = worksF F t.ref E.now := rfl
  rw [hX]
  clear hX
  obtain ⟨x, hx⟩ : ∃ x, worksF F t.ref E.now = x := ⟨_, rfl⟩
  rw [hx] at HD ⊢
  clear hk hM hF hpc hpt hpe hpa hx hfr hev hkf
  simp only [List.length_cons] at HEV
  go_enter Tryz.func137, Tryz.ntmps137
  go_upto_region 4 with (go_at_call 67
                         go_loud ((refine HEV.out.mono ?_; rintro en w2 ⟨A2, c2', rfl, g2, hr2⟩; have HR2 := hid hr2; have G2 := hid g2; obtain ⟨b2, off2, dv, hA2, hn2, hcc2, hb2, hcell2, hdv⟩ := ev_first hr2 rfl; subst hA2; obtain ⟨Adv, cdv, hdve⟩ := hdv.shape; rw [hdve] at hcell2; have HDV := hid hdv; have HDE := hid hdve; have HPA2 := hid ((g2.block pa (block_lt HPA.out)).trans HPA.out); have fz := frozen_of (j := 8) HPA2.out; have hpa8 : w2.cell? ⟨pa, 8, none⟩ = some (.slice none 0 0) := (by simp [World.cell?, HPA2.out, ansC]); have hpal := block_lt HPA2.out; clear hr2 g2 hdv hdve))
  )
  obtain ⟨w3, hw3⟩ : ∃ w3, w2.setCell ⟨pa, 8, none⟩ (.slice Adv e.data.length cdv) = w3 := ⟨_, rfl⟩
  have HPA3 := hid (set1_heap HPA2.out (j := 8) (.slice Adv e.data.length cdv))
  have M3 := hid (mod_set (S := fun b => b = pa) ((Gr.refl w2).mod _) (b := pa) (j := 8) (fun _ => rfl) (.slice Adv e.data.length cdv))
  rw [hw3] at HPA3 M3 ⊢
  have hw3' := hw3
  clear hw3
  have FF3 := hid (show FlowF w3 M kf F from by rw [← hw3']; exact flowF_set (H.out.gr G2.out) hpaM (fun e => n5 e.symm))
  have DD3 := hid (show BysM w3 M dv e.data from HDV.out.up (Mod.up M3.out (fun b _ e => e ▸ hpaM)))
  clear hw3'
  have HS := hid (show ∀ W, Mod (fun b => b = kf) w3 W → ∃ _ : pt < W.heap.size ∧ pe < W.heap.size ∧ k < W.heap.size, W.cell? ⟨pt, 2, none⟩ = some (.int .i64 t.ref) ∧ W.cell? ⟨pe, 0, none⟩ = some (.pointer (some ⟨k, 0, none⟩)) ∧ W.cell? ⟨k, 4, none⟩ = some (.int .i64 E.now) from fun W mm => by
    have s3 := M3.out.size
    have gs := G2.out.size
    have q0 := (mm.block pt (by have := block_lt HPT.out; omega) n3).trans ((M3.out.block pt (by have := block_lt HPT.out; omega) n7).trans ((G2.out.block pt (block_lt HPT.out)).trans HPT.out))
    have q1 := (mm.block pe (by have := block_lt HPE.out; omega) n4).trans ((M3.out.block pe (by have := block_lt HPE.out; omega) n8).trans ((G2.out.block pe (block_lt HPE.out)).trans HPE.out))
    have q2 := (mm.block k (by have := block_lt HK.out; omega) n1).trans ((M3.out.block k (by have := block_lt HK.out; omega) n6).trans ((G2.out.block k (block_lt HK.out)).trans HK.out))
    refine ⟨⟨block_lt q0, block_lt q1, block_lt q2⟩, ?_, ?_, ?_⟩
    · simp [World.cell?, q0]
    · simp [World.cell?, q1]
    · simp [World.cell?, q2, engC])
  refine wp_region_planM [(0, false), (1, false), (2, false), (3, false), (4, false), (5, false), (6, false), (7, true), (8, false), (9, false), (10, false), (11, true)] (fun W => Mod (fun b => b = kf) w3 W) (by kernel_rfl) (by kernel_rfl) (fun _ _ d _ _ h => by cases d <;> exact h) ((Gr.refl w3).drew.mod _) (fun _ => ?_)
  iterate 7 (refine pm_take (v := ?_) rfl (by rfl) ?_ ?_; rotate_left; (focus (intro W9 hW9; obtain ⟨⟨_, _, _⟩, a0, a2, a3⟩ := HS.out W9 hW9; go_simp; (try with_reducible rfl); done)); (try simp only [AP]))
  refine pm_call rfl (by rfl) (fun K hK => ?_)
  go_simp
  go_at_call 139
  refine (HD.out _ ?_ ?_).mono ?_
  · exact FF3.out.gr (Gr.refl w3).drew
  · exact fun b e => Nat.lt_of_lt_of_le (HM.out b e) (Nat.le_trans G2.out.size (Nat.le_trans M3.out.size (Gr.refl w3).drew.size))
  rintro en w5 ⟨A5, c5, rfl, hf5, ho5, hm5⟩
  have M5 := hid ((((Gr.refl w3).drew.mod _).trans hm5 (fun _ _ e => e)))
  refine hK.out (fun W => Mod (fun b => b = kf) w3 W) _ _ M5.out (fun W h => h) (fun _ => ?_)
  clear hK K
  (try simp only [AP])
  iterate 3 (refine pm_take (v := ?_) rfl (by rfl) ?_ ?_; rotate_left; (focus (intro W9 hW9; obtain ⟨⟨_, _, _⟩, a0, a2, a3⟩ := HS.out W9 hW9; go_simp; (try with_reducible rfl); done)); (try simp only [AP]))
  refine pm_last rfl (by rfl) (fun K hK => ?_)
  go_simp
  refine hK.out _ _ ?_
  clear hK K
  go_wp2_with fail
  go_ret2
  refine ⟨A5, c5, rfl, hf5, ho5, ?_, ?_⟩
  · exact ((G2.out.mod _).trans ((M3.out.mono (fun _ _ e => .inr e)).trans (M5.out.mono (fun _ _ e => .inl e)) (fun _ _ e => e)) (fun _ _ e => e))
  · refine ⟨dv, ?_, ?_⟩
    · rw [HDE.out]
      refine (M5.out.block pa (block_lt HPA3.out) n5).trans (HPA3.out.trans ?_)
      simp [ansC, giveA, HEE.out]
    · have hda : (giveA false t F).data = e.data := by simp [giveA, HEE.out]
      rw [hda]
      exact DD3.out.up (Mod.up M5.out (fun b _ e => e ▸ HKF.out))
end Go.Proofs.YtniknicnnaiilaaGreat
end
