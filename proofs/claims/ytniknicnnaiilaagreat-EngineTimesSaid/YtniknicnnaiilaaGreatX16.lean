/- Lemmas: what the functions of the engine answer, and which blocks they write. -/
import Derived.Test.YtniknicnnaiilaaGreatX08
section
namespace Go.Proofs.YtniknicnnaiilaaGreat
set_option maxRecDepth 100000
open Go.RowKit Go.Ext Go.BigFrame Go.Maps Go.MapKept
attribute [local go_sem] Ext.cell Ext.frozen Ext.lt Ext.le s1 s2 s3 s4 s5 s6 t1 t2 t3 t4 t5 t6
attribute [local go_sem ↓] Go.wp_at_zero Go.wp_at_succ
theorem out_last {w w2 : World} {M : Bl} {k mb : Nat} {F : FS} {o : Out} (h : FW w2 M k mb F) (ho : o.data = []) (hm : Mod (fun b => b = k ∨ b = mb) w w2) {W : World} (hW : Gr w2 W) (hB : W.heap[w2.heap.size]? = some (.cells (recC (outR o) (.slice none 0 0)).toArray 188 (0, 0))) (ec : Int) :
    RetA M k mb (F, [o], ec) w (.returned (.tuple #[.slice (some ⟨w2.heap.size, 0, none⟩) 1 1, .int .i64 ec])) W :=
  ⟨some ⟨w2.heap.size, 0, none⟩, 1, rfl, h.r.gr hW, recs_one hB (fun e => Nat.lt_irrefl _ (h.hM _ e)) (ho ▸ BysM.none _ _), hm.gr hW⟩
set_option maxHeartbeats 1000000 in
theorem cl_decides (PUT : PutAny) (k mb B1 B2 B3 : Nat) (F : FS) (turn ref now : Int) (M : Bl) (w : World) (h : FW w M k mb F) (hF : FOk F) (h1 : w.heap[B1]? = some (.cells #[.int .i64 turn] 3 (0, 0))) (h2 : w.heap[B2]? = some (.cells #[.int .i64 ref] 3 (0, 0)))
    (h3 : w.heap[B3]? = some (.cells #[.int .i64 now] 3 (0, 0))) (hnow : 0 ≤ now ∧ now ≤ 1099511627776) :
    Calls Tryz.prog 181 #[.pointer (some ⟨k, 0, none⟩), .pointer (some ⟨B1, 0, none⟩), .pointer (some ⟨B2, 0, none⟩), .pointer (some ⟨B3, 0, none⟩)] w (RetA M k mb (decidesD ref turn now F) w) := by
  have q1 := box_c h1
  have q2 := box_c h2
  have q3 := box_c h3
  have H1 := hid h1
  have H2 := hid h2
  have H3 := hid h3
  have l1 := block_lt h1
  have l2 := block_lt h2
  have l3 := block_lt h3
  have H := hid h
  have HWN := hid (wantsO_any k mb F M ref turn w h.r)
  have stale : ∀ W, Gr w W → RetA M k mb (F, [], 21) w (.returned (.tuple #[.slice none 0 0, .int .i64 21])) W := fun W g => ⟨none, 0, rfl, H.out.r.gr g, RecsM.none _ _ _, g.mod _⟩
  have ST := hid stale
  clear h h1 h2 h3 stale
  unfold decidesD
  by_cases e1 : turn < 0
  · rw [if_pos (.inl e1)]
    clear HWN
    go_enter Tryz.func181, Tryz.ntmps181
    go_wp2_with fail
    go_ret2
    exact ST.out _ (Gr.refl w)
  cases e2 : wantsF F ref turn
  · rw [if_pos (.inr rfl)]
    rw [e2] at HWN
    clear e2
    go_enter Tryz.func181, Tryz.ntmps181
    go_wp2_with (go_at_call 136; (with_reducible refine HWN.out.mono ?_); rintro en _ ⟨rfl, y1, rfl⟩)
    go_ret2
    exact ST.out _ y1.gr
  · rw [if_neg (by rintro (e | e); exact e1 e; cases e)]
    rw [e2] at HWN
    clear e2
    have hnn := hF.i.n hF.ne
    have HP := hid (fun (W : World) (y : Gr w W) => (show Calls Tryz.prog 143 #[.pointer (some ⟨k, 0, none⟩), .agg #[.int .i64 3, .int .i64 now, .int .i64 ref, .int .i64 0, .int .i64 0, .int .i64 0, .slice none 0 0]] W _ from
      fput PUT ⟨3, now, ref, 0, 0, 0, []⟩ (.slice none 0 0) (H.out.gr y) (BysM.none W M).bys (okP hF (by unfold plainK; dsimp only; omega) (by dsimp only; omega) (by simp)) hF.l9 (by dsimp only; omega) (by dsimp only; omega)))
    go_enter Tryz.func181, Tryz.ntmps181
    go_wp2_with (first
      | (go_at_call 136; (with_reducible refine HWN.out.mono ?_); rintro en _ ⟨rfl, y1, rfl⟩)
      | (go_at_call 143
         refine (HP.out _ y1.gr).mono ?_
         rintro en w2 ⟨rfl, hw2, hm2⟩
         have b1 := box_keep (H.out.gr y1.gr).r ((y1.gr.block B1 l1).trans H1.out) (by decide) hm2
         have b2 := box_keep (H.out.gr y1.gr).r ((y1.gr.block B2 l2).trans H2.out) (by decide) hm2
         have b3 := box_keep (H.out.gr y1.gr).r ((y1.gr.block B3 l3).trans H3.out) (by decide) hm2
         have p1 := box_c b1
         have p2 := box_c b2
         have p3 := box_c b3
         have m1 := block_lt b1
         have m2 := block_lt b2
         have m3 := block_lt b3
         obtain ⟨A6, c6, _, ⟨_, _, _, d3, _, _, _, _, _, _, _, _⟩, _, hk2⟩ := hw2.r.parts
         have hp3 : (putF F ⟨3, now, ref, 0, 0, 0, []⟩).n = F.n := rfl
         rw [hp3] at d3
         have HM2 := hid ((y1.gr.mod (fun b => b = k ∨ b = mb)).trans hm2 (fun _ _ e => e))
         have HW2 := hid hw2
         clear hm2 hw2 b1 b2 b3 hp3))
    have kw : IntKind.i64.wrap (now + F.n) = now + F.n := IntWalk.i64_in _ (by omega)
    refine wp_region_planM [(0, false), (1, false), (2, false), (3, false), (4, false), (5, false), (6, false), (7, false), (8, false), (9, true), (10, true), (11, true)] (fun W => Gr w2 W) (by kernel_rfl) (by kernel_rfl) (fun _ _ d _ _ h => by cases d <;> exact h) (Gr.refl w2).drew (fun _ => ?_)
    iterate 9 (refine pm_take (v := ?_) rfl (by rfl) ?_ ?_; rotate_left; (focus (intro W9 hW9; obtain ⟨x9, rfl⟩ : ∃ x : Ext w2, W9 = x.val := ⟨⟨W9, hW9⟩, rfl⟩; go_simp; (try with_reducible rfl); done)); (try simp only [AP]))
    refine pm_call rfl (by rfl) (fun K hK => ?_)
    go_simp
    refine hK.out (fun W => Gr w2 W) _ _ ((Gr.refl w2).alloc _).drew (fun _ g => g) (fun _ => ?_)
    clear hK K
    (try simp only [AP])
    refine pm_call rfl (by rfl) (fun K hK => ?_)
    go_simp
    refine hK.out (fun W => Gr w2 W) _ _ ((Gr.refl w2).alloc _).drew (fun _ g => g) (fun _ => ?_)
    clear hK K
    (try simp only [AP])
    refine pm_last rfl (by rfl) (fun K hK => ?_)
    go_simp
    refine hK.out _ _ ?_
    clear hK K
    go_wp2_with fail
    go_ret2
    exact out_last (o := ⟨3, 0, ref, turn, now + F.n, 0, 0, []⟩) HW2.out rfl HM2.out ((Gr.refl w2).alloc _).drew (heap_alloc_new w2 _) 0
set_option maxHeartbeats 2000000 in
theorem cl_works (PUT : PutAny) (k mb B1 B2 : Nat) (F : FS) (ref now : Int) (M : Bl) (w : World) (h : FW w M k mb F) (hF : FOk F) (h1 : w.heap[B1]? = some (.cells #[.int .i64 ref] 3 (0, 0))) (h2 : w.heap[B2]? = some (.cells #[.int .i64 now] 3 (0, 0)))
    (hnow : 0 ≤ now ∧ now ≤ 1099511627776) :
    Calls Tryz.prog 182 #[.pointer (some ⟨k, 0, none⟩), .pointer (some ⟨B1, 0, none⟩), .pointer (some ⟨B2, 0, none⟩)] w (RetA M k mb (worksD ref now F) w) := by
  have q1 := box_c h1
  have q2 := box_c h2
  have H1 := hid h1
  have H2 := hid h2
  have l1 := block_lt h1
  have l2 := block_lt h2
  have H := hid h
  have HWN := hid (wantsO_any k mb F M ref (-1) w h.r)
  have stale : ∀ W, Gr w W → RetA M k mb (F, [], 21) w (.returned (.tuple #[.slice none 0 0, .int .i64 21])) W := fun W g => ⟨none, 0, rfl, H.out.r.gr g, RecsM.none _ _ _, g.mod _⟩
  have ST := hid stale
  obtain ⟨A, c, hc, ⟨c0, c1, c2, c3, c4, c5, c6, c7, c8, c9, c10, c11⟩, hr, hk⟩ := h.r.parts
  clear h h1 h2 stale
  unfold worksD
  cases e2 : wantsF F ref (-1)
  · rw [if_pos rfl]
    rw [e2] at HWN
    clear e2 hr
    go_enter Tryz.func182, Tryz.ntmps182
    go_wp2_with (go_at_call 136; (with_reducible refine HWN.out.mono ?_); rintro en _ ⟨rfl, y1, rfl⟩)
    go_ret2
    exact ST.out _ y1.gr
  · rw [if_neg (by simp)]
    rw [e2] at HWN
    obtain ⟨i, rfl, hi, o, hlo, hok, hoi, how⟩ : ∃ i : Nat, ref = (i : Int) + 1 ∧ i < F.l.length ∧ ∃ o, lk F.op ref = some o ∧ o.kind = 7 ∧ o.id = o.id ∧ o.works = 0 := by
      unfold wantsF at e2
      rw [if_pos rfl] at e2
      cases hx : lk F.op ref with
      | none => rw [hx] at e2; cases e2
      | some x =>
        rw [hx] at e2
        simp only [Bool.and_eq_true, beq_iff_eq] at e2
        obtain ⟨k1, k2, _⟩ := hF.i.keys _ (lk_mem hx)
        exact ⟨(ref - 1).toNat, by simp only at k1; omega, by simp only at k1 k2; omega, x, rfl, e2.1, rfl, e2.2⟩
    have hget : F.l[((i : Int) + 1 - 1).toNat]? = some (F.l[i]) := by
      rw [show ((i : Int) + 1 - 1).toNat = i by omega]
      exact List.getElem?_eq_getElem hi
    rw [hget]
    obtain ⟨a, ha⟩ : ∃ a, F.l[i] = a := ⟨_, rfl⟩
    rw [ha]
    have hai : F.l[i]? = some a := by rw [← ha]; exact List.getElem?_eq_getElem hi
    have hai' : a.id = o.id := by
      obtain ⟨_, _, _, _, _, e, h6, _, h8⟩ := hF.i.keys _ (lk_mem hlo)
      have h6' : F.l[((i : Int) + 1 - 1).toNat]? = some e := h6
      rw [hget, ha] at h6'
      injection h6' with h6'
      rw [h6', h8]
    obtain ⟨b, off, d, rfl, hb, hM, hd, hcell⟩ := hr.at_ (m := 6) (fun x => evR_len x) hai
    have a0 := hcell 0 (.int .i64 a.kind) rfl
    rw [Nat.add_zero] at a0
    have a1 := hcell 1 (.int .i64 a.tick) rfl
    have a2 := hcell 2 (.int .i64 a.ref) rfl
    have a3 := hcell 3 (.int .i64 a.id) rfl
    have a4 := hcell 4 (.int .i64 a.list) rfl
    have a5 := hcell 5 (.int .i64 a.n) rfl
    have a6 := hcell 6 d rfl
    have ban := hF.i.evs a (by rw [← ha]; exact List.getElem_mem hi)
    obtain ⟨han0, han1, _⟩ := ban
    have HPO := hid (show PutOk F ⟨8, now, (i : Int) + 1, a.id, 0, 0, []⟩ from by
      refine ⟨by dsimp only; omega, by simp, fun e => absurd e hF.ne, ?_, ?_, ?_, ?_, fun e => by simp at e⟩
      · intro e; simp at e
      · intro e; simp at e
      · intro e; simp at e
      · intro _
        dsimp only
        rw [hlo, hai']
        rcases o with ⟨x1, x2, x3⟩
        simp only at hok how
        rw [hok, how])
    have hnn := hF.i.n hF.ne
    have HP := hid (fun (W : World) (y : Gr w W) => (show Calls Tryz.prog 143 #[.pointer (some ⟨k, 0, none⟩), .agg #[.int .i64 8, .int .i64 now, .int .i64 ((i : Int) + 1), .int .i64 a.id, .int .i64 0, .int .i64 0, .slice none 0 0]] W _ from
      fput PUT ⟨8, now, (i : Int) + 1, a.id, 0, 0, []⟩ (.slice none 0 0) (H.out.gr y) (BysM.none W M).bys HPO.out hF.l9 (by dsimp only; omega) (by dsimp only; omega)))
    obtain ⟨Ad, cd, rfl⟩ := hd.shape
    have hl := hF.len
    clear hr e2 hcell hget ha hai hai' hlo hd
    have k0 : (0 : Int) ≤ (i : Int) := by omega
    have k1 : (i : Int) < (F.l.length : Int) := by omega
    have kw1 : IntKind.i64.wrap (i : Int) = (i : Int) := IntWalk.i64_in _ (by omega)
    have kw : IntKind.i64.wrap (now + a.n) = now + a.n := IntWalk.i64_in _ (by omega)
    go_enter Tryz.func182, Tryz.ntmps182
    go_wp2_with (go_at_call 136; (with_reducible refine HWN.out.mono ?_); rintro en _ ⟨rfl, y1, rfl⟩)
    refine wp_region_planM [(0, false), (1, false), (2, false), (3, false), (4, false), (5, false), (6, false), (7, false), (8, true), (9, true)] (fun W => Gr w W) (by kernel_rfl) (by kernel_rfl) (fun _ _ d _ _ h => by cases d <;> exact h) y1.gr.drew (fun _ => ?_)
    iterate 8 (refine pm_take (v := ?_) rfl (by rfl) ?_ ?_; rotate_left; (focus (intro W9 hW9; obtain ⟨x9, rfl⟩ : ∃ x : Ext w, W9 = x.val := ⟨⟨W9, hW9⟩, rfl⟩; go_simp; (try with_reducible rfl); done)); (try simp only [AP]))
    refine pm_call rfl (by rfl) (fun K hK => ?_)
    go_simp
    refine hK.out (fun W => Gr w W) _ _ (y1.gr.alloc _).drew (fun _ g => g) (fun _ => ?_)
    clear hK K
    (try simp only [AP])
    refine pm_last rfl (by rfl) (fun K hK => ?_)
    go_simp
    refine hK.out _ _ ?_
    clear hK K
    have G2 := hid ((y1.gr.alloc (.cells #[.int .i64 a.kind, .int .i64 a.tick, .int .i64 a.ref, .int .i64 a.id, .int .i64 a.list, .int .i64 a.n, .slice Ad (evR a).2.length cd] 41)).drew)
    have HN := hid (show ((y1.val.alloc (.cells #[.int .i64 a.kind, .int .i64 a.tick, .int .i64 a.ref, .int .i64 a.id, .int .i64 a.list, .int .i64 a.n, .slice Ad (evR a).2.length cd] 41)).drew).heap[y1.val.heap.size]? = _ from heap_alloc_new y1.val _)
    go_wp2_with (go_at_call 143
                 refine (HP.out _ G2.out).mono ?_
                 rintro en w2 ⟨rfl, hw2, hm2⟩
                 have b1 := box_keep (H.out.gr G2.out).r ((G2.out.block B1 l1).trans H1.out) (by decide) hm2
                 have b2 := box_keep (H.out.gr G2.out).r ((G2.out.block B2 l2).trans H2.out) (by decide) hm2
                 have b3 := box_keep (H.out.gr G2.out).r HN.out (by decide) hm2
                 have p1 := box_c b1
                 have p2 := box_c b2
                 have p3 : w2.cell? ⟨y1.val.heap.size, 5, none⟩ = some (.int .i64 a.n) := by simp [World.cell?, b3]
                 have HM2 := hid ((G2.out.mod (fun b => b = k ∨ b = mb)).trans hm2 (fun _ _ e => e))
                 have HW2 := hid hw2
                 clear hm2 hw2 b1 b2 b3)
    go_ret2
    exact out_last (o := ⟨4, 0, (i : Int) + 1, 0, now + a.n, 0, 0, []⟩) HW2.out rfl HM2.out ((Gr.refl w2).alloc _) (heap_alloc_new w2 _) 0
set_option maxHeartbeats 1000000 in
theorem cl_childEnds (PUT : PutAny) (k mb B1 B2 B3 B4 : Nat) (F : FS) (id status now : Int) (d : Value) (data : List UInt8) (M : Bl) (w : World) (h : FW w M k mb F) (hF : FOk F) (h1 : w.heap[B1]? = some (.cells #[.int .i64 id] 3 (0, 0))) (h2 : w.heap[B2]? = some (.cells #[.int .i64 status] 3 (0, 0)))
    (h3 : w.heap[B3]? = some (.cells #[.int .i64 now] 3 (0, 0))) (h4 : w.heap[B4]? = some (.cells #[d] 22 (0, 0))) (hd : Bys w d data) (hdl : data.length ≤ 4096) :
    Calls Tryz.prog 204 #[.pointer (some ⟨k, 0, none⟩), .pointer (some ⟨B1, 0, none⟩), .pointer (some ⟨B2, 0, none⟩), .pointer (some ⟨B3, 0, none⟩), .pointer (some ⟨B4, 0, none⟩)] w (RetA M k mb (childEndsD id status data now F) w) := by
  have q1 := box_c h1
  have q2 := box_c h2
  have q3 := box_c h3
  have q4 := box_c h4
  have H3 := hid h3
  have l1 := block_lt h1
  have l2 := block_lt h2
  have l3 := block_lt h3
  have l4 := block_lt h4
  have H := hid h
  have HD := hid hd
  obtain ⟨Ad, cd, rfl, _, _, _⟩ := hd
  have HFN := hid (findO_any k mb F M 17 id w h.r h.i.uniq)
  have res : ∀ (c : Int) W, Gr w W → RetA M k mb (F, [], c) w (.returned (.tuple #[.slice none 0 0, .int .i64 c])) W := fun c W g => ⟨none, 0, rfl, H.out.r.gr g, RecsM.none _ _ _, g.mod _⟩
  have ST := hid res
  clear h h1 h2 h3 h4 res
  unfold childEndsD
  obtain ⟨at_, hat⟩ : ∃ at_, findF F.op 17 id = at_ := ⟨_, rfl⟩
  rw [hat] at HFN ⊢
  clear hat
  by_cases e1 : at_ = 0
  · rw [if_pos e1]
    subst e1
    go_enter Tryz.func204, Tryz.ntmps204
    go_wp2_with (go_at_call 187; (with_reducible refine HFN.out.mono ?_); rintro en _ ⟨rfl, y1, rfl⟩)
    go_ret2
    exact ST.out _ _ y1.gr
  rw [if_neg e1]
  by_cases e2 : status < 0
  · rw [if_pos (.inl e2)]
    go_enter Tryz.func204, Tryz.ntmps204
    go_wp2_with (go_at_call 187; (with_reducible refine HFN.out.mono ?_); rintro en _ ⟨rfl, y1, rfl⟩)
    go_ret2
    exact ST.out _ _ y1.gr
  by_cases e3 : 6 < status
  · rw [if_pos (.inr e3)]
    go_enter Tryz.func204, Tryz.ntmps204
    go_wp2_with (go_at_call 187; (with_reducible refine HFN.out.mono ?_); rintro en _ ⟨rfl, y1, rfl⟩)
    go_ret2
    exact ST.out _ _ y1.gr
  rw [if_neg (by omega)]
  have HP := hid (fun (W : World) (y : Gr w W) => (show Calls Tryz.prog 143 #[.pointer (some ⟨k, 0, none⟩), .agg #[.int .i64 18, .int .i64 now, .int .i64 at_, .int .i64 id, .int .i64 0, .int .i64 status, .slice Ad data.length cd]] W _ from
    fput PUT ⟨18, now, at_, id, 0, status, data⟩ (.slice Ad data.length cd) (H.out.gr y) (HD.out.gr y) (okP hF (by unfold plainK; dsimp only; omega) (by dsimp only; omega) hdl) hF.l9 (by dsimp only; omega) (by dsimp only; omega)))
  go_enter Tryz.func204, Tryz.ntmps204
  go_wp2_with (first
    | (go_at_call 187; (with_reducible refine HFN.out.mono ?_); rintro en _ ⟨rfl, y1, rfl⟩)
    | (go_at_call 143
       refine (HP.out _ y1.gr).mono ?_
       rintro en w2 ⟨rfl, hw2, hm2⟩
       have p3 := box_c (box_keep (H.out.gr y1.gr).r ((y1.gr.block B3 l3).trans H3.out) (by decide) hm2)
       have HM2 := hid ((y1.gr.mod (fun b => b = k ∨ b = mb)).trans hm2 (fun _ _ e => e))
       have HW := hid (wake_any PUT k mb _ now M w2 hw2)
       clear hm2 hw2)
    | (go_at_call 144
       refine HW.out.mono ?_
       rintro en w3 ⟨A3, c3, rfl, hr3, ho3, hm3⟩))
  go_ret2
  exact ⟨A3, c3, rfl, hr3, ho3, HM2.out.trans hm3 (fun _ _ e => e)⟩
theorem cl_worked (PUT : PutAny) (k mb B1 B2 B3 B4 : Nat) (F : FS) (kind ref now : Int) (d : Value) (data : List UInt8) (M : Bl) (w : World) (h : FW w M k mb F) (hF : FOk F) (h1 : w.heap[B1]? = some (.cells #[.int .i64 kind] 3 (0, 0))) (h2 : w.heap[B2]? = some (.cells #[.int .i64 ref] 3 (0, 0)))
    (h3 : w.heap[B3]? = some (.cells #[d] 22 (0, 0))) (h4 : w.heap[B4]? = some (.cells #[.int .i64 now] 3 (0, 0))) (hkind : kind = 9 ∨ kind = 10 ∨ kind = 11) (hd : Bys w d data) (hdl : data.length ≤ 4096) :
    Calls Tryz.prog 154 #[.pointer (some ⟨k, 0, none⟩), .pointer (some ⟨B1, 0, none⟩), .pointer (some ⟨B2, 0, none⟩), .pointer (some ⟨B3, 0, none⟩), .pointer (some ⟨B4, 0, none⟩)] w (RetA M k mb (endsF kind ref data now F) w) := by
  have q1 := box_c h1
  have q2 := box_c h2
  have q3 := box_c h3
  have q4 := box_c h4
  obtain ⟨Ad, cd, rfl, _, _, _⟩ := id hd
  have HE := hid (endsO_any PUT k mb F kind ref now _ data M w h hF hkind hd hdl)
  clear h h1 h2 h3 h4 hd hkind
  go_enter Tryz.func154, Tryz.ntmps154
  go_wp2_with (go_at_call 155; refine HE.out.mono ?_; rintro en w3 ⟨A3, c3, rfl, hr3, ho3, hm3⟩)
  go_ret2
  exact ⟨A3, c3, rfl, hr3, ho3, hm3⟩
theorem cl_lapsed (PUT : PutAny) (k mb B1 B2 B3 : Nat) (F : FS) (turn ref now : Int) (M : Bl) (w : World) (h : FW w M k mb F) (hF : FOk F) (h1 : w.heap[B1]? = some (.cells #[.int .i64 turn] 3 (0, 0))) (h2 : w.heap[B2]? = some (.cells #[.int .i64 ref] 3 (0, 0)))
    (h3 : w.heap[B3]? = some (.cells #[.int .i64 now] 3 (0, 0))) :
    Calls Tryz.prog 157 #[.pointer (some ⟨k, 0, none⟩), .pointer (some ⟨B1, 0, none⟩), .pointer (some ⟨B2, 0, none⟩), .pointer (some ⟨B3, 0, none⟩)] w (RetA M k mb (lapsedD ref turn now F) w) := by
  have q1 := box_c h1
  have q2 := box_c h2
  have q3 := box_c h3
  have H := hid h
  have HE := hid (endsO_any PUT k mb F 11 ref now (.slice none 0 0) [] M w h hF (.inr (.inr rfl)) (BysM.none w M).bys (by simp))
  clear h h1 h2 h3
  unfold lapsedD
  by_cases ht : turn = 0
  · rw [if_neg (by omega)]
    subst ht
    go_enter Tryz.func157, Tryz.ntmps157
    go_wp2_with (go_at_call 155; refine HE.out.mono ?_; rintro en w3 ⟨A3, c3, rfl, hr3, ho3, hm3⟩)
    go_ret2
    exact ⟨A3, c3, rfl, hr3, ho3, hm3⟩
  · rw [if_pos ht]
    go_enter Tryz.func157, Tryz.ntmps157
    go_wp2_with fail
    go_ret2
    exact ⟨none, 0, rfl, H.out.r, RecsM.none _ _ _, (Gr.refl w).mod _⟩
set_option maxHeartbeats 1000000 in
theorem cl_missed (PUT : PutAny) (k mb B1 B2 B3 : Nat) (F : FS) (ref turn now : Int) (M : Bl) (w : World) (h : FW w M k mb F) (hF : FOk F) (h1 : w.heap[B1]? = some (.cells #[.int .i64 ref] 3 (0, 0))) (h2 : w.heap[B2]? = some (.cells #[.int .i64 turn] 3 (0, 0)))
    (h3 : w.heap[B3]? = some (.cells #[.int .i64 now] 3 (0, 0))) :
    Calls Tryz.prog 156 #[.pointer (some ⟨k, 0, none⟩), .pointer (some ⟨B1, 0, none⟩), .pointer (some ⟨B2, 0, none⟩), .pointer (some ⟨B3, 0, none⟩)] w (RetA M k mb (missedD ref turn now F) w) := by
  have q1 := box_c h1
  have q2 := box_c h2
  have q3 := box_c h3
  have l1 := block_lt h1
  have l2 := block_lt h2
  have l3 := block_lt h3
  have H3 := hid h3
  have H := hid h
  obtain ⟨A, c, hc, ⟨c0, c1, c2, c3, c4, c5, c6, c7, c8, c9, c10, c11⟩, hr, hk⟩ := h.r.parts
  clear h h1 h2 h3 hr hc
  unfold missedD
  have stale : ∀ W, Gr w W → RetA M k mb (F, [], 21) w (.returned (.tuple #[.slice none 0 0, .int .i64 21])) W := fun W g => ⟨none, 0, rfl, H.out.r.gr g, RecsM.none _ _ _, g.mod _⟩
  have ST := hid stale
  clear stale
  by_cases e1 : F.task = 2
  · by_cases e2 : F.place = ref
    · by_cases e3 : F.turn = turn
      · rw [if_neg (by rintro (e | e | e); exact e e1; exact e e2; exact e e3)]
        rw [e1] at c5
        rw [e2] at c6
        rw [e3] at c8
        have HP := hid (fun (W : World) (y : Gr w W) => (show Calls Tryz.prog 143 #[.pointer (some ⟨k, 0, none⟩), .agg #[.int .i64 5, .int .i64 now, .int .i64 F.begun, .int .i64 0, .int .i64 0, .int .i64 0, .slice none 0 0]] W _ from
          fput PUT ⟨5, now, F.begun, 0, 0, 0, []⟩ (.slice none 0 0) (H.out.gr y) (BysM.none W M).bys (okP hF (by unfold plainK; dsimp only; omega) (by dsimp only; omega) (by simp)) hF.l9 (by dsimp only; omega) (by dsimp only; omega)))
        go_enter Tryz.func156, Tryz.ntmps156
        go_wp2_with fail
        refine wp_region_ext (by kernel_rfl) (by kernel_rfl) ?_
        repeat (go_big_quiet_step (fail))
        refine wpQuiet_nil ?_
        rintro _ ⟨x, rfl⟩
        go_wp2_with fail
        refine wp_region_planM [(0, false), (1, false), (2, false), (3, false), (4, false), (5, false), (6, false), (7, true)] (fun W => Gr w W) (by kernel_rfl) (by kernel_rfl) (fun _ _ d _ _ h => by cases d <;> exact h) x.gr.drew (fun _ => ?_)
        iterate 7 (refine pm_take (v := ?_) rfl (by rfl) ?_ ?_; rotate_left; (focus (intro W9 hW9; obtain ⟨x9, rfl⟩ : ∃ x : Ext w, W9 = x.val := ⟨⟨W9, hW9⟩, rfl⟩; go_simp; (try with_reducible rfl); done)); (try simp only [AP]))
        refine pm_last rfl (by rfl) (fun K hK => ?_)
        go_simp
        go_at_call 143
        refine (HP.out _ x.gr.drew).mono ?_
        rintro en w2 ⟨rfl, hw2, hm2⟩
        have p1 := box_c (box_keep (H.out.gr x.gr.drew).r ((x.gr.drew.block B3 l3).trans H3.out) (by decide) hm2)
        have HM2 := hid ((x.gr.drew.mod (fun b => b = k ∨ b = mb)).trans hm2 (fun _ _ e => e))
        have HW := hid (schedule_any PUT k mb _ now M w2 hw2)
        clear hm2 hw2
        refine hK.out _ _ ?_
        clear hK K
        go_wp2_with (go_at_call 152; refine HW.out.mono ?_; rintro en w3 ⟨A3, c3, rfl, hr3, ho3, hm3⟩)
        go_ret2
        exact ⟨A3, c3, rfl, hr3, ho3, HM2.out.trans hm3 (fun _ _ e => e)⟩
      · rw [if_pos (.inr (.inr e3))]
        have e3b : (F.turn != turn) = true := by simpa using e3
        rw [e1] at c5
        rw [e2] at c6
        go_enter Tryz.func156, Tryz.ntmps156
        go_wp2_with fail
        refine wp_region_ext (by kernel_rfl) (by kernel_rfl) ?_
        repeat (go_big_quiet_step (fail))
        refine wpQuiet_nil ?_
        rintro _ ⟨x, rfl⟩
        go_wp2_with fail
        go_ret2
        exact ST.out _ x.gr
    · rw [if_pos (.inr (.inl e2))]
      have e2b : (F.place != ref) = true := by simpa using e2
      rw [e1] at c5
      go_enter Tryz.func156, Tryz.ntmps156
      go_wp2_with fail
      refine wp_region_ext (by kernel_rfl) (by kernel_rfl) ?_
      repeat (go_big_quiet_step (fail))
      refine wpQuiet_nil ?_
      rintro _ ⟨x, rfl⟩
      go_wp2_with fail
      go_ret2
      exact ST.out _ x.gr
  · rw [if_pos (.inl e1)]
    have e1b : (F.task != 2) = true := by simpa using e1
    go_enter Tryz.func156, Tryz.ntmps156
    go_wp2_with fail
    refine wp_region_ext (by kernel_rfl) (by kernel_rfl) ?_
    repeat (go_big_quiet_step (fail))
    refine wpQuiet_nil ?_
    rintro _ ⟨x, rfl⟩
    go_wp2_with fail
    go_ret2
    exact ST.out _ x.gr
set_option maxHeartbeats 1000000 in
theorem cl_fired (PUT : PutAny) (k mb B1 B2 B3 : Nat) (F : FS) (ref turn now : Int) (M : Bl) (w : World) (h : FW w M k mb F) (hF : FOk F) (h1 : w.heap[B1]? = some (.cells #[.int .i64 ref] 3 (0, 0))) (h2 : w.heap[B2]? = some (.cells #[.int .i64 turn] 3 (0, 0)))
    (h3 : w.heap[B3]? = some (.cells #[.int .i64 now] 3 (0, 0))) :
    Calls Tryz.prog 158 #[.pointer (some ⟨k, 0, none⟩), .pointer (some ⟨B1, 0, none⟩), .pointer (some ⟨B2, 0, none⟩), .pointer (some ⟨B3, 0, none⟩)] w (RetA M k mb (firedD ref turn now F) w) := by
  have q1 := box_c h1
  have q2 := box_c h2
  have q3 := box_c h3
  have l1 := block_lt h1
  have l2 := block_lt h2
  have l3 := block_lt h3
  have H3 := hid h3
  have H := hid h
  have HLK := hid (fun W (y : Gr w W) => lookup_open (h.r.map.gr y) ref)
  obtain ⟨A, c, hc, ⟨c0, c1, c2, c3, c4, c5, c6, c7, c8, c9, c10, c11⟩, hr, hk⟩ := h.r.parts
  clear h h1 h2 h3 hr hc
  unfold firedD
  have stale : ∀ W, Gr w W → RetA M k mb (F, [], 21) w (.returned (.tuple #[.slice none 0 0, .int .i64 21])) W := fun W g => ⟨none, 0, rfl, H.out.r.gr g, RecsM.none _ _ _, g.mod _⟩
  have ST := hid stale
  clear stale
  cases hx : lk F.op ref with
  | none =>
    rw [hx] at HLK
    simp only [Option.getD_none, Option.isSome_none, opV] at HLK
    go_enter Tryz.func158, Tryz.ntmps158
    go_wp2_with fail
    refine wp_region_planM [(0, false), (1, false), (2, false), (3, false), (4, false), (5, false), (6, false), (7, false), (8, false), (9, true), (10, true), (11, true)] (fun W => Gr w W) (by kernel_rfl) (by kernel_rfl) (fun _ _ d _ _ h => by cases d <;> exact h) (Gr.refl w).drew (fun _ => ?_)
    iterate 9 (refine pm_take (v := ?_) rfl (by rfl) ?_ ?_; rotate_left; (focus (intro W9 hW9; have hl9 := HLK.out W9 hW9; obtain ⟨x9, rfl⟩ : ∃ x : Ext w, W9 = x.val := ⟨⟨W9, hW9⟩, rfl⟩; go_simp; (try with_reducible rfl); done)); (try simp only [AP]))
    refine pm_call rfl (by rfl) (fun K hK => ?_)
    go_simp
    refine hK.out (fun W => Gr w W) _ _ ((Gr.refl w).drew.alloc _) (fun _ g => g) (fun _ => ?_)
    clear hK K
    (try simp only [AP])
    refine pm_call rfl (by rfl) (fun K hK => ?_)
    go_simp
    refine hK.out (fun W => Gr w W) _ _ (by repeat (first | exact (Gr.refl w).drew | exact Gr.refl w | refine Gr.alloc ?_ _ | refine Gr.drew ?_ | refine Gr.set ?_ ?_ _)) (fun _ g => g) (fun _ => ?_)
    clear hK K
    (try simp only [AP])
    refine pm_last rfl (by rfl) (fun K hK => ?_)
    go_simp
    refine hK.out _ _ ?_
    clear hK K
    go_wp2_with fail
    go_ret2
    exact ST.out _ (by repeat (first | exact (Gr.refl w).drew | exact Gr.refl w | refine Gr.alloc ?_ _ | refine Gr.drew ?_ | refine Gr.set ?_ ?_ _))
  | some x =>
    rw [hx] at HLK
    rcases x with ⟨xk, xi, xw⟩
    simp only [Option.getD_some, Option.isSome_some, opV] at HLK ⊢
    by_cases e1 : xk = 12
    · by_cases e2 : turn = 0
      · rw [if_neg (by rintro (e | e); exact e e1; exact e e2)]
        subst e1 e2
        have HP := hid (fun (W : World) (y : Gr w W) => (show Calls Tryz.prog 143 #[.pointer (some ⟨k, 0, none⟩), .agg #[.int .i64 13, .int .i64 now, .int .i64 ref, .int .i64 xi, .int .i64 0, .int .i64 0, .slice none 0 0]] W _ from
          fput PUT ⟨13, now, ref, xi, 0, 0, []⟩ (.slice none 0 0) (H.out.gr y) (BysM.none W M).bys (okP hF (by unfold plainK; dsimp only; omega) (by dsimp only; omega) (by simp)) hF.l9 (by dsimp only; omega) (by dsimp only; omega)))
        go_enter Tryz.func158, Tryz.ntmps158
        go_wp2_with fail
        refine wp_region_planM [(0, false), (1, false), (2, false), (3, false), (4, false), (5, false), (6, false), (7, false), (8, false), (9, true), (10, true), (11, true)] (fun W => Gr w W) (by kernel_rfl) (by kernel_rfl) (fun _ _ d _ _ h => by cases d <;> exact h) (Gr.refl w).drew (fun _ => ?_)
        iterate 9 (refine pm_take (v := ?_) rfl (by rfl) ?_ ?_; rotate_left; (focus (intro W9 hW9; have hl9 := HLK.out W9 hW9; obtain ⟨x9, rfl⟩ : ∃ x : Ext w, W9 = x.val := ⟨⟨W9, hW9⟩, rfl⟩; go_simp; (try with_reducible rfl); done)); (try simp only [AP]))
        refine pm_call rfl (by rfl) (fun K hK => ?_)
        go_simp
        refine hK.out (fun W => Gr w W) _ _ ((Gr.refl w).drew.alloc _) (fun _ g => g) (fun _ => ?_)
        clear hK K
        (try simp only [AP])
        refine pm_call rfl (by rfl) (fun K hK => ?_)
        go_simp
        refine hK.out (fun W => Gr w W) _ _ (by repeat (first | exact (Gr.refl w).drew | exact Gr.refl w | refine Gr.alloc ?_ _ | refine Gr.drew ?_ | refine Gr.set ?_ ?_ _)) (fun _ g => g) (fun _ => ?_)
        clear hK K
        (try simp only [AP])
        refine pm_last rfl (by rfl) (fun K hK => ?_)
        go_simp
        refine hK.out _ _ ?_
        clear hK K
        have G2 := hid (((Gr.refl w).alloc (.cells #[.int .i64 12, .int .i64 xi, .int .i64 xw] 185)).drew)
        go_wp2_with (first
          | (go_at_call 143
             refine (HP.out _ G2.out).mono ?_
             rintro en w2 ⟨rfl, hw2, hm2⟩
             have p3 := box_c (box_keep (H.out.gr G2.out).r ((G2.out.block B3 l3).trans H3.out) (by decide) hm2)
             have HM2 := hid ((G2.out.mod (fun b => b = k ∨ b = mb)).trans hm2 (fun _ _ e => e))
             have HW := hid (wake_any PUT k mb _ now M w2 hw2)
             clear hm2 hw2)
          | (go_at_call 144
             refine HW.out.mono ?_
             rintro en w3 ⟨A3, c3, rfl, hr3, ho3, hm3⟩))
        go_ret2
        exact ⟨A3, c3, rfl, hr3, ho3, HM2.out.trans hm3 (fun _ _ e => e)⟩
      · rw [if_pos (.inr e2)]
        have e2b : (turn != 0) = true := by simpa using e2
        subst e1
        go_enter Tryz.func158, Tryz.ntmps158
        go_wp2_with fail
        refine wp_region_planM [(0, false), (1, false), (2, false), (3, false), (4, false), (5, false), (6, false), (7, false), (8, false), (9, true), (10, true), (11, true)] (fun W => Gr w W) (by kernel_rfl) (by kernel_rfl) (fun _ _ d _ _ h => by cases d <;> exact h) (Gr.refl w).drew (fun _ => ?_)
        iterate 9 (refine pm_take (v := ?_) rfl (by rfl) ?_ ?_; rotate_left; (focus (intro W9 hW9; have hl9 := HLK.out W9 hW9; obtain ⟨x9, rfl⟩ : ∃ x : Ext w, W9 = x.val := ⟨⟨W9, hW9⟩, rfl⟩; go_simp; (try with_reducible rfl); done)); (try simp only [AP]))
        refine pm_call rfl (by rfl) (fun K hK => ?_)
        go_simp
        refine hK.out (fun W => Gr w W) _ _ ((Gr.refl w).drew.alloc _) (fun _ g => g) (fun _ => ?_)
        clear hK K
        (try simp only [AP])
        refine pm_call rfl (by rfl) (fun K hK => ?_)
        go_simp
        refine hK.out (fun W => Gr w W) _ _ (by repeat (first | exact (Gr.refl w).drew | exact Gr.refl w | refine Gr.alloc ?_ _ | refine Gr.drew ?_ | refine Gr.set ?_ ?_ _)) (fun _ g => g) (fun _ => ?_)
        clear hK K
        (try simp only [AP])
        refine pm_last rfl (by rfl) (fun K hK => ?_)
        go_simp
        refine hK.out _ _ ?_
        clear hK K
        go_wp2_with fail
        go_ret2
        exact ST.out _ (by repeat (first | exact (Gr.refl w).drew | exact Gr.refl w | refine Gr.alloc ?_ _ | refine Gr.drew ?_ | refine Gr.set ?_ ?_ _))
    · rw [if_pos (.inl e1)]
      have e1b : (xk != 12) = true := by simpa using e1
      go_enter Tryz.func158, Tryz.ntmps158
      go_wp2_with fail
      refine wp_region_planM [(0, false), (1, false), (2, false), (3, false), (4, false), (5, false), (6, false), (7, false), (8, false), (9, true), (10, true), (11, true)] (fun W => Gr w W) (by kernel_rfl) (by kernel_rfl) (fun _ _ d _ _ h => by cases d <;> exact h) (Gr.refl w).drew (fun _ => ?_)
      iterate 9 (refine pm_take (v := ?_) rfl (by rfl) ?_ ?_; rotate_left; (focus (intro W9 hW9; have hl9 := HLK.out W9 hW9; obtain ⟨x9, rfl⟩ : ∃ x : Ext w, W9 = x.val := ⟨⟨W9, hW9⟩, rfl⟩; go_simp; (try with_reducible rfl); done)); (try simp only [AP]))
      refine pm_call rfl (by rfl) (fun K hK => ?_)
      go_simp
      refine hK.out (fun W => Gr w W) _ _ ((Gr.refl w).drew.alloc _) (fun _ g => g) (fun _ => ?_)
      clear hK K
      (try simp only [AP])
      refine pm_call rfl (by rfl) (fun K hK => ?_)
      go_simp
      refine hK.out (fun W => Gr w W) _ _ (by repeat (first | exact (Gr.refl w).drew | exact Gr.refl w | refine Gr.alloc ?_ _ | refine Gr.drew ?_ | refine Gr.set ?_ ?_ _)) (fun _ g => g) (fun _ => ?_)
      clear hK K
      (try simp only [AP])
      refine pm_last rfl (by rfl) (fun K hK => ?_)
      go_simp
      refine hK.out _ _ ?_
      clear hK K
      go_wp2_with fail
      go_ret2
      exact ST.out _ (by repeat (first | exact (Gr.refl w).drew | exact Gr.refl w | refine Gr.alloc ?_ _ | refine Gr.drew ?_ | refine Gr.set ?_ ?_ _))
end Go.Proofs.YtniknicnnaiilaaGreat
end
