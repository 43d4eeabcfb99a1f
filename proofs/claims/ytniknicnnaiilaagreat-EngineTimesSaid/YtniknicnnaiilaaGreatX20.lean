/- Lemmas: what the functions of the engine answer, and which blocks they write. -/
import Derived.Test.YtniknicnnaiilaaGreatX08
import Derived.Test.YtniknicnnaiilaaGreatX09
import Derived.Test.YtniknicnnaiilaaGreatX14
import Derived.Test.YtniknicnnaiilaaGreatX15
section
namespace Go.Proofs.YtniknicnnaiilaaGreat
set_option maxRecDepth 100000
open Go.RowKit Go.Ext Go.BigFrame Go.Maps Go.MapKept
attribute [local go_sem] Ext.cell Ext.frozen Ext.lt Ext.le s1 s2 s3 s4 s5 s6 t1 t2 t3 t4 t5 t6
attribute [local go_sem ↓] Go.wp_at_zero Go.wp_at_succ
set_option maxHeartbeats 2000000 in
theorem signal_any (PUT : PutAny) (k : Nat) (F : FS) (d : Value) (data : List UInt8) (now : Int) (M : Bl) (w : World) (h : FlowF w M k F) (hM : ∀ b, M b → b < w.heap.size) (hk : M k) (hF : FOk F) (hd : BysM w M d data) :
    Calls Tryz.prog 106 #[.pointer (some ⟨k, 0, none⟩), d, .int .i64 now] w (RetT M k (signalF F data now) w) := by
  obtain ⟨Ad, cd, rfl⟩ : ∃ A c, d = .slice A data.length c := by
    obtain ⟨A, c, e, _⟩ := hd
    exact ⟨A, c, e⟩
  have b0 := heap_alloc_new w (.cells #[.slice Ad data.length cd] 22)
  have HB0 := hid ((((Gr.refl _).alloc (.cells #[.int .i64 now] 3)).block _ (block_lt b0)).trans b0)
  clear b0
  have b1 := heap_alloc_new (w.alloc (.cells #[.slice Ad data.length cd] 22)) (.cells #[.int .i64 now] 3)
  rw [show (w.alloc (.cells #[.slice Ad data.length cd] 22)).heap.size = w.heap.size + 1 by simp] at b1
  have HB1 := hid (((Gr.refl _).block _ (block_lt b1)).trans b1)
  clear b1
  have G1 := hid (show Gr w ((w.alloc (.cells #[.slice Ad data.length cd] 22)).alloc (.cells #[.int .i64 now] 3)) from (((Gr.refl w).alloc _).alloc _))
  have HT := hid (show ∀ _ : Unit, Calls Tryz.prog 141 _ ((w.alloc (.cells #[.slice Ad data.length cd] 22)).alloc (.cells #[.int .i64 now] 3)) _ from fun _ =>
    try_any 142 #[.pointer (some ⟨w.heap.size + 1, 0, none⟩), .pointer (some ⟨w.heap.size, 0, none⟩)] k F (.slice Ad data.length cd) data now (signalD data now) M ((w.alloc (.cells #[.slice Ad data.length cd] 22)).alloc (.cells #[.int .i64 now] 3)) (h.gr G1.out) (fun b e => Nat.lt_of_lt_of_le (hM b e) G1.out.size) hk ((hd.up (Gr.up G1.out M)).bys) hF.i hF.len (fun _ _ => rfl) fun hr W k' mb' g n1 n2 hfw => by
      obtain ⟨r1, r2, r3⟩ := right_spec hr
      exact cl_signal PUT k' mb' (w.heap.size + 1) (w.heap.size) F now (.slice Ad data.length cd) data (plus M k' mb') W hfw hF ((g.block _ (block_lt HB1.out)).trans HB1.out) ((g.block _ (block_lt HB0.out)).trans HB0.out) ((hd.up (Gr.up (G1.out.trans g) M)).bys) r1)
  have H := hid h
  clear h hk
  go_enter Tryz.func106, Tryz.ntmps106
  go_wp2_with (first
    | (go_at_call 141; refine (HT.out ()).mono ?_; rintro en w3 ⟨A3, c3, rfl, hf3, ho3, hm3⟩))
  go_ret2
  exact ⟨A3, c3, rfl, hf3, ho3, (G1.out.mod _).trans hm3 (fun _ _ e => e)⟩
set_option maxHeartbeats 2000000 in
theorem cancel_any (PUT : PutAny) (k : Nat) (F : FS) (now : Int) (M : Bl) (w : World) (h : FlowF w M k F) (hM : ∀ b, M b → b < w.heap.size) (hk : M k) (hF : FOk F) :
    Calls Tryz.prog 107 #[.pointer (some ⟨k, 0, none⟩), .int .i64 now] w (RetT M k (cancelF F now) w) := by
  have b0 := heap_alloc_new w (.cells #[.int .i64 now] 3)
  have HB0 := hid (((Gr.refl _).block _ (block_lt b0)).trans b0)
  clear b0
  have G1 := hid (show Gr w (w.alloc (.cells #[.int .i64 now] 3)) from ((Gr.refl w).alloc _))
  have HT := hid (show ∀ _ : Unit, Calls Tryz.prog 141 _ (w.alloc (.cells #[.int .i64 now] 3)) _ from fun _ =>
    try_any 145 #[.pointer (some ⟨w.heap.size, 0, none⟩)] k F (.slice none 0 0) [] now (cancelD now) M (w.alloc (.cells #[.int .i64 now] 3)) (h.gr G1.out) (fun b e => Nat.lt_of_lt_of_le (hM b e) G1.out.size) hk ((BysM.none _ M).bys) hF.i hF.len (fun _ _ => rfl) fun hr W k' mb' g n1 n2 hfw => by
      obtain ⟨r1, r2, r3⟩ := right_spec hr
      exact cl_cancel PUT k' mb' (w.heap.size) F now (plus M k' mb') W hfw hF ((g.block _ (block_lt HB0.out)).trans HB0.out))
  have H := hid h
  clear h hk
  go_enter Tryz.func107, Tryz.ntmps107
  go_wp2_with (first
    | (go_at_call 141; refine (HT.out ()).mono ?_; rintro en w3 ⟨A3, c3, rfl, hf3, ho3, hm3⟩))
  go_ret2
  exact ⟨A3, c3, rfl, hf3, ho3, (G1.out.mod _).trans hm3 (fun _ _ e => e)⟩
set_option maxHeartbeats 2000000 in
theorem terminate_any (PUT : PutAny) (k : Nat) (F : FS) (d : Value) (data : List UInt8) (now : Int) (M : Bl) (w : World) (h : FlowF w M k F) (hM : ∀ b, M b → b < w.heap.size) (hk : M k) (hF : FOk F) (hd : BysM w M d data) :
    Calls Tryz.prog 108 #[.pointer (some ⟨k, 0, none⟩), d, .int .i64 now] w (RetT M k (terminateF F data now) w) := by
  obtain ⟨Ad, cd, rfl⟩ : ∃ A c, d = .slice A data.length c := by
    obtain ⟨A, c, e, _⟩ := hd
    exact ⟨A, c, e⟩
  have b0 := heap_alloc_new w (.cells #[.slice Ad data.length cd] 22)
  have HB0 := hid ((((Gr.refl _).alloc (.cells #[.int .i64 now] 3)).block _ (block_lt b0)).trans b0)
  clear b0
  have b1 := heap_alloc_new (w.alloc (.cells #[.slice Ad data.length cd] 22)) (.cells #[.int .i64 now] 3)
  rw [show (w.alloc (.cells #[.slice Ad data.length cd] 22)).heap.size = w.heap.size + 1 by simp] at b1
  have HB1 := hid (((Gr.refl _).block _ (block_lt b1)).trans b1)
  clear b1
  have G1 := hid (show Gr w ((w.alloc (.cells #[.slice Ad data.length cd] 22)).alloc (.cells #[.int .i64 now] 3)) from (((Gr.refl w).alloc _).alloc _))
  have HT := hid (show ∀ _ : Unit, Calls Tryz.prog 141 _ ((w.alloc (.cells #[.slice Ad data.length cd] 22)).alloc (.cells #[.int .i64 now] 3)) _ from fun _ =>
    try_any 146 #[.pointer (some ⟨w.heap.size, 0, none⟩), .pointer (some ⟨w.heap.size + 1, 0, none⟩)] k F (.slice Ad data.length cd) data now (terminateD data now) M ((w.alloc (.cells #[.slice Ad data.length cd] 22)).alloc (.cells #[.int .i64 now] 3)) (h.gr G1.out) (fun b e => Nat.lt_of_lt_of_le (hM b e) G1.out.size) hk ((hd.up (Gr.up G1.out M)).bys) hF.i hF.len (fun _ _ => rfl) fun hr W k' mb' g n1 n2 hfw => by
      obtain ⟨r1, r2, r3⟩ := right_spec hr
      exact cl_terminate PUT k' mb' (w.heap.size) (w.heap.size + 1) F now (.slice Ad data.length cd) data (plus M k' mb') W hfw ((g.block _ (block_lt HB0.out)).trans HB0.out) ((g.block _ (block_lt HB1.out)).trans HB1.out) (hd.up ((Gr.up G1.out M).trans (Gr.plus g n1 n2))))
  have H := hid h
  clear h hk
  go_enter Tryz.func108, Tryz.ntmps108
  go_wp2_with (first
    | (go_at_call 141; refine (HT.out ()).mono ?_; rintro en w3 ⟨A3, c3, rfl, hf3, ho3, hm3⟩))
  go_ret2
  exact ⟨A3, c3, rfl, hf3, ho3, (G1.out.mod _).trans hm3 (fun _ _ e => e)⟩
set_option maxHeartbeats 1000000 in
theorem faulty_any (PUT : PutAny) (k mb : Nat) (F : FS) (n now : Int) (M : Bl) (w : World) (h : FW w M k mb F) (hF : FOk F) (hn : 0 ≤ n ∧ n ≤ 1048576) :
    Calls Tryz.prog 150 #[.pointer (some ⟨k, 0, none⟩), .int .i64 n, .int .i64 now] w (RetO M k mb (faultyF F n now) w) := by
  obtain ⟨A, c, hc, ⟨c0, c1, c2, c3, c4, c5, c6, c7, c8, c9, c10, c11⟩, hr, hk⟩ := h.r.parts
  have HP := hid (show Calls Tryz.prog 143 #[.pointer (some ⟨k, 0, none⟩), .agg #[.int .i64 6, .int .i64 now, .int .i64 F.begun, .int .i64 0, .int .i64 0, .int .i64 n, .slice none 0 0]] w _ from
    fput PUT ⟨6, now, F.begun, 0, 0, n, []⟩ (.slice none 0 0) h (BysM.none w M).bys (okP hF (by unfold plainK; dsimp only; omega) hn (by simp)) hF.l9 (by dsimp only; omega) (by dsimp only; omega))
  clear h hr hc
  unfold faultyF
  go_enter Tryz.func150, Tryz.ntmps150
  go_wp2_with (first
    | (go_at_call 143
       refine HP.out.mono ?_
       rintro en w2 ⟨rfl, hw2, hm2⟩
       have HM2 := hid hm2
       have HW := hid (schedule_any PUT k mb _ now M w2 hw2)
       clear hm2 hw2)
    | (go_at_call 152
       refine HW.out.mono ?_
       rintro en w3 ⟨A3, c3_, rfl, hr3, ho3, hm3⟩))
  go_ret
  exact ⟨A3, c3_, rfl, hr3, ho3, HM2.out.trans hm3 (fun _ _ e => e)⟩
theorem putok_add {F : FS} {d : Dec} {now : Int} (hl : F.l ≠ []) (hm : mayF d = true) (ht : takeB (isOf F.op) d = true) (hk : d.kind = 1 ∨ d.kind = 2 ∨ d.kind = 4) : PutOk F ⟨kindD d.kind, now, 0, d.id, d.list, d.n, d.data⟩ := by
  obtain ⟨h1, h2, h3, h4, h5, hid0⟩ := mayF_spec hm
  have hkd : kindD d.kind = 7 ∨ kindD d.kind = 12 ∨ kindD d.kind = 17 := by
    rcases hk with e | e | e <;> rw [e] <;> simp [kindD]
  have hn := h4 (by omega)
  have hnew : ∀ x ∈ F.op, x.2.kind = kindD d.kind → x.2.id = d.id → False := fun x hx e1 e2 => by
    have : takeB (isOf F.op) d = !isOf F.op (kindD d.kind, d.id) := by
      unfold takeB
      rw [if_neg (by omega), if_pos hk]
    rw [this, isOf_spec.2 ⟨x, hx, e1, e2⟩] at ht
    cases ht
  refine ⟨by dsimp only; omega, h3, fun e => absurd e hl, ?_, ?_, fun _ => hnew, ?_, fun _ => hid0⟩
  · intro e; dsimp only at e; omega
  · intro e; dsimp only at e; omega
  · intro e; dsimp only at e; omega
set_option maxHeartbeats 4000000 in
theorem done_1 (PUT : PutAny) (k mb : Nat) (F : FS) (d : Dec) (now : Int) (v : Value) (M : Bl) (w : World) (h : FW w M k mb F) (hlF : F.l.length ≤ 90000) (hne : F.l ≠ []) (hm : mayF d = true) (ht : takeB (isOf F.op) d = true) (hk : d.kind = 1) (hd : Bys w v d.data) (hnow : 0 ≤ now ∧ now ≤ 1099511627776) :
    Calls Tryz.prog 151 #[.pointer (some ⟨k, 0, none⟩), .agg #[.int .i64 d.kind, .int .i64 d.id, .int .i64 d.list, .int .i64 d.n, v], .int .i64 now] w (RetO M k mb (doneF F d now) w) := by
  have HPO := hid (putok_add (now := now) hne hm ht (by omega))
  have hsp := mayF_spec hm
  have hnn := hsp.2.2.2.1 (by omega)
  have H := hid h
  have HR := hid h.r
  have HD := hid hd
  obtain ⟨Ad, cd, rfl, _, _, _⟩ := hd
  have HC := hid (fun W (g : Gr w W) => clone_any (.slice Ad d.data.length cd) d.data W (HD.out.gr g))
  have hDF : doneF F d now = (putF F ⟨7, now, 0, d.id, d.list, d.n, d.data⟩, [⟨2, d.list, atF F, 0, 0, 0, 0, []⟩]) := by
    unfold doneF
    rw [if_pos hk]
  rw [hDF]
  rcases d with ⟨dk, di, dl, dn, dd⟩
  simp only at hk hnn
  subst hk
  simp only [kindD] at HPO
  have hkm : k < w.heap.size ∧ mb < w.heap.size := h.r.lt
  clear h hsp hm ht hDF
  simp only at HC ⊢
  have kw : IntKind.i64.wrap (now + dn) = now + dn := IntWalk.i64_in _ (by omega)
  go_enter Tryz.func151, Tryz.ntmps151
  go_upto_region 6 with (go_at_call 91; refine (HC.out _ ((Gr.refl w).alloc _)).mono ?_; rintro en1 _ ⟨A', c', y1, rfl, rfl, hbl, ho1⟩; have HO1 := hid ho1; have HBL := hid hbl; clear ho1 hbl)
  have G1 := hid (((Gr.refl w).alloc (.cells #[.int .i64 1, .int .i64 di, .int .i64 dl, .int .i64 dn, .slice Ad dd.length cd] 39)).ext y1)
  have hB0 : y1.val.heap[w.heap.size]? = some (.cells #[.int .i64 1, .int .i64 di, .int .i64 dl, .int .i64 dn, .slice Ad dd.length cd] 39 (0, 0)) := (y1.gr.block _ (by simp)).trans (heap_alloc_new w _)
  have hlt0 := y1.lt_alloc
  obtain ⟨w5, hw5⟩ : ∃ w5, y1.val.alloc (.cells #[.int .i64 7, .int .i64 now, .int .i64 0, .int .i64 di, .int .i64 dl, .int .i64 dn, .slice A' dd.length c'] 41) = w5 := ⟨_, rfl⟩
  have G5 := hid (show Gr y1.val w5 from hw5 ▸ (Gr.refl _).alloc _)
  have HBe := hid (show w5.heap[y1.val.heap.size]? = some (.cells #[.int .i64 7, .int .i64 now, .int .i64 0, .int .i64 di, .int .i64 dl, .int .i64 dn, .slice A' dd.length c'] 41 (0, 0)) from hw5 ▸ heap_alloc_new y1.val _)
  have HBd := hid ((G5.out.block _ (block_lt hB0)).trans hB0)
  have HO5 := hid (own_gr HO1.out G5.out)
  obtain ⟨Be, hBe⟩ : ∃ Be, y1.val.heap.size = Be := ⟨_, rfl⟩
  obtain ⟨Bd, hBd⟩ : ∃ Bd, w.heap.size = Bd := ⟨_, rfl⟩
  have hbds : w.heap.size ≤ Bd := Nat.le_of_eq hBd
  have hbes : w.heap.size ≤ Be := hBe ▸ Nat.le_of_lt hlt0
  rw [hw5]
  rw [hBe] at HBe
  rw [hBd] at HBd
  rw [hBe, hBd]
  have GG := hid (G1.out.trans G5.out)
  have HD5 := hid (show Bys w5 (.slice A' dd.length c') dd from Bys.of_own HO5.out HBL.out)
  have HDM := hid (show BysM w5 M (.slice A' dd.length c') dd from BysM.of_own HO5.out (fun b hb e => by have := H.out.hM b e; simp at hb; omega) HBL.out)
  clear hw5 hB0 HO1 HC hBe hBd
  obtain ⟨b1, b2, b3⟩ : w5.cell? ⟨Bd, 1, none⟩ = some (.int .i64 di) ∧ w5.cell? ⟨Bd, 2, none⟩ = some (.int .i64 dl) ∧ w5.cell? ⟨Bd, 3, none⟩ = some (.int .i64 dn) := by
    refine ⟨?_, ?_, ?_⟩ <;> simp [World.cell?, HBd.out]
  obtain ⟨d0, d1, d2, d3, d4, d5, d6⟩ : w5.cell? ⟨Be, 0, none⟩ = some (.int .i64 7) ∧ w5.cell? ⟨Be, 1, none⟩ = some (.int .i64 now) ∧ w5.cell? ⟨Be, 2, none⟩ = some (.int .i64 0) ∧ w5.cell? ⟨Be, 3, none⟩ = some (.int .i64 di) ∧ w5.cell? ⟨Be, 4, none⟩ = some (.int .i64 dl) ∧ w5.cell? ⟨Be, 5, none⟩ = some (.int .i64 dn) ∧ w5.cell? ⟨Be, 6, none⟩ = some (.slice A' dd.length c') := by
    refine ⟨?_, ?_, ?_, ?_, ?_, ?_, ?_⟩ <;> simp [World.cell?, HBe.out]
  have HP := hid (fun (W : World) (g : Gr w5 W) => (show Calls Tryz.prog 143 #[.pointer (some ⟨k, 0, none⟩), .agg #[.int .i64 7, .int .i64 now, .int .i64 0, .int .i64 di, .int .i64 dl, .int .i64 dn, .slice A' dd.length c']] W _ from
    fput PUT ⟨7, now, 0, di, dl, dn, dd⟩ (.slice A' dd.length c') (H.out.gr (GG.out.trans g)) (HD5.out.gr g) HPO.out hlF (by dsimp only; omega) (by dsimp only; omega)))
  generalize dd.length = dlen at *
  refine wp_region_planM [(0, false), (1, false), (2, false), (3, false), (4, true), (5, false), (6, true), (7, true)] (fun W => W.heap[Bd]? = w5.heap[Bd]? ∧ W.heap[Be]? = w5.heap[Be]?) (by kernel_rfl) (by kernel_rfl) (fun _ _ d _ _ h => by cases d <;> exact h) ⟨rfl, rfl⟩ (fun _ => ?_)
  iterate 4 (refine pm_take (v := ?_) rfl (by rfl) ?_ ?_; rotate_left; (focus (intro W9 hW9; have u0 := (World.cell?_of_block (a := ⟨Bd, 1, none⟩) hW9.1).trans b1; have u1 := (World.cell?_of_block (a := ⟨Bd, 2, none⟩) hW9.1).trans b2; have u2 := (World.cell?_of_block (a := ⟨Bd, 3, none⟩) hW9.1).trans b3; have v0 := (World.cell?_of_block (a := ⟨Be, 0, none⟩) hW9.2).trans d0; have v1 := (World.cell?_of_block (a := ⟨Be, 1, none⟩) hW9.2).trans d1; have v2 := (World.cell?_of_block (a := ⟨Be, 2, none⟩) hW9.2).trans d2; have v3 := (World.cell?_of_block (a := ⟨Be, 3, none⟩) hW9.2).trans d3; have v4 := (World.cell?_of_block (a := ⟨Be, 4, none⟩) hW9.2).trans d4; have v5 := (World.cell?_of_block (a := ⟨Be, 5, none⟩) hW9.2).trans d5; have v6 := (World.cell?_of_block (a := ⟨Be, 6, none⟩) hW9.2).trans d6; clear hW9; go_simp; (try with_reducible rfl); done)); (try simp only [AP]))
  refine pm_call rfl (by rfl) (fun K hK => ?_)
  go_simp
  go_at_call 143
  refine (HP.out _ (Gr.refl w5).drew).mono ?_
  rintro en w6 ⟨rfl, hw6, hm6⟩
  have HW6 := hid hw6
  have M6 := hid ((GG.out.drew.mod (fun b => b = k ∨ b = mb)).trans hm6 (fun _ _ e => e))
  have M56 := hid hm6
  have hs6 := And.intro (hm6.block Bd (block_lt HBd.out) (by show ¬ (Bd = k ∨ Bd = mb); omega)) (hm6.block Be (block_lt HBe.out) (by show ¬ (Be = k ∨ Be = mb); omega))
  refine hK.out (fun W => W.heap[Bd]? = w5.heap[Bd]? ∧ W.heap[Be]? = w5.heap[Be]?) _ _ hs6 (fun W h => h) (fun _ => ?_)
  clear hK K hw6 hm6
  (try simp only [AP])
  iterate 1 (refine pm_take (v := ?_) rfl (by rfl) ?_ ?_; rotate_left; (focus (intro W9 hW9; clear hW9; go_simp; (try with_reducible rfl); done)); (try simp only [AP]))
  refine pm_call rfl (by rfl) (fun K hK => ?_)
  go_simp
  have ga := hid ((Gr.refl w6).alloc (.cells (recC (outR ⟨2, dl, atF F, 0, 0, 0, 0, []⟩) (.slice none 0 0)).toArray 188))
  refine hK.out (fun W => W.heap[Bd]? = w5.heap[Bd]? ∧ W.heap[Be]? = w5.heap[Be]?) _ _ ⟨(ga.out.block Bd (block_lt (hs6.1.trans HBd.out))).trans hs6.1, (ga.out.block Be (block_lt (hs6.2.trans HBe.out))).trans hs6.2⟩ (fun W h => h) (fun _ => ?_)
  clear hK K
  (try simp only [AP])
  refine pm_last rfl (by rfl) (fun K hK => ?_)
  go_simp
  refine hK.out _ _ ?_
  clear hK K
  go_wp2_with fail
  go_ret
  refine ⟨some ⟨w6.heap.size, 0, none⟩, 1, rfl, (HW6.out.gr ga.out).r, recs_one (d := (.slice none 0 0)) (heap_alloc_new w6 _) (fun e => by have := HW6.out.hM _ e; omega) ?_, M6.out.gr ga.out⟩
  exact BysM.none _ _
set_option maxHeartbeats 4000000 in
theorem done_2 (PUT : PutAny) (k mb : Nat) (F : FS) (d : Dec) (now : Int) (v : Value) (M : Bl) (w : World) (h : FW w M k mb F) (hlF : F.l.length ≤ 90000) (hne : F.l ≠ []) (hm : mayF d = true) (ht : takeB (isOf F.op) d = true) (hk : d.kind = 2) (hd : Bys w v d.data) (hnow : 0 ≤ now ∧ now ≤ 1099511627776) :
    Calls Tryz.prog 151 #[.pointer (some ⟨k, 0, none⟩), .agg #[.int .i64 d.kind, .int .i64 d.id, .int .i64 d.list, .int .i64 d.n, v], .int .i64 now] w (RetO M k mb (doneF F d now) w) := by
  have HPO := hid (putok_add (now := now) hne hm ht (by omega))
  have hsp := mayF_spec hm
  have hnn := hsp.2.2.2.1 (by omega)
  have H := hid h
  have HR := hid h.r
  have HD := hid hd
  obtain ⟨Ad, cd, rfl, _, _, _⟩ := hd
  have HC := hid (fun W (g : Gr w W) => clone_any (.slice Ad d.data.length cd) d.data W (HD.out.gr g))
  have hDF : doneF F d now = (putF F ⟨12, now, 0, d.id, d.list, d.n, d.data⟩, [⟨5, 0, atF F, 0, now + d.n, 0, 0, []⟩]) := by
    unfold doneF
    rw [if_neg (by omega), if_pos hk]
  rw [hDF]
  rcases d with ⟨dk, di, dl, dn, dd⟩
  simp only at hk hnn
  subst hk
  simp only [kindD] at HPO
  have hkm : k < w.heap.size ∧ mb < w.heap.size := h.r.lt
  clear h hsp hm ht hDF
  simp only at HC ⊢
  have kw : IntKind.i64.wrap (now + dn) = now + dn := IntWalk.i64_in _ (by omega)
  go_enter Tryz.func151, Tryz.ntmps151
  go_upto_region 9 with (go_at_call 91; refine (HC.out _ ((Gr.refl w).alloc _)).mono ?_; rintro en1 _ ⟨A', c', y1, rfl, rfl, hbl, ho1⟩; have HO1 := hid ho1; have HBL := hid hbl; clear ho1 hbl)
  have G1 := hid (((Gr.refl w).alloc (.cells #[.int .i64 2, .int .i64 di, .int .i64 dl, .int .i64 dn, .slice Ad dd.length cd] 39)).ext y1)
  have hB0 : y1.val.heap[w.heap.size]? = some (.cells #[.int .i64 2, .int .i64 di, .int .i64 dl, .int .i64 dn, .slice Ad dd.length cd] 39 (0, 0)) := (y1.gr.block _ (by simp)).trans (heap_alloc_new w _)
  have hlt0 := y1.lt_alloc
  obtain ⟨w5, hw5⟩ : ∃ w5, y1.val.alloc (.cells #[.int .i64 12, .int .i64 now, .int .i64 0, .int .i64 di, .int .i64 dl, .int .i64 dn, .slice A' dd.length c'] 41) = w5 := ⟨_, rfl⟩
  have G5 := hid (show Gr y1.val w5 from hw5 ▸ (Gr.refl _).alloc _)
  have HBe := hid (show w5.heap[y1.val.heap.size]? = some (.cells #[.int .i64 12, .int .i64 now, .int .i64 0, .int .i64 di, .int .i64 dl, .int .i64 dn, .slice A' dd.length c'] 41 (0, 0)) from hw5 ▸ heap_alloc_new y1.val _)
  have HBd := hid ((G5.out.block _ (block_lt hB0)).trans hB0)
  have HO5 := hid (own_gr HO1.out G5.out)
  obtain ⟨Be, hBe⟩ : ∃ Be, y1.val.heap.size = Be := ⟨_, rfl⟩
  obtain ⟨Bd, hBd⟩ : ∃ Bd, w.heap.size = Bd := ⟨_, rfl⟩
  have hbds : w.heap.size ≤ Bd := Nat.le_of_eq hBd
  have hbes : w.heap.size ≤ Be := hBe ▸ Nat.le_of_lt hlt0
  rw [hw5]
  rw [hBe] at HBe
  rw [hBd] at HBd
  rw [hBe, hBd]
  have GG := hid (G1.out.trans G5.out)
  have HD5 := hid (show Bys w5 (.slice A' dd.length c') dd from Bys.of_own HO5.out HBL.out)
  have HDM := hid (show BysM w5 M (.slice A' dd.length c') dd from BysM.of_own HO5.out (fun b hb e => by have := H.out.hM b e; simp at hb; omega) HBL.out)
  clear hw5 hB0 HO1 HC hBe hBd
  obtain ⟨b1, b2, b3⟩ : w5.cell? ⟨Bd, 1, none⟩ = some (.int .i64 di) ∧ w5.cell? ⟨Bd, 2, none⟩ = some (.int .i64 dl) ∧ w5.cell? ⟨Bd, 3, none⟩ = some (.int .i64 dn) := by
    refine ⟨?_, ?_, ?_⟩ <;> simp [World.cell?, HBd.out]
  obtain ⟨d0, d1, d2, d3, d4, d5, d6⟩ : w5.cell? ⟨Be, 0, none⟩ = some (.int .i64 12) ∧ w5.cell? ⟨Be, 1, none⟩ = some (.int .i64 now) ∧ w5.cell? ⟨Be, 2, none⟩ = some (.int .i64 0) ∧ w5.cell? ⟨Be, 3, none⟩ = some (.int .i64 di) ∧ w5.cell? ⟨Be, 4, none⟩ = some (.int .i64 dl) ∧ w5.cell? ⟨Be, 5, none⟩ = some (.int .i64 dn) ∧ w5.cell? ⟨Be, 6, none⟩ = some (.slice A' dd.length c') := by
    refine ⟨?_, ?_, ?_, ?_, ?_, ?_, ?_⟩ <;> simp [World.cell?, HBe.out]
  have HP := hid (fun (W : World) (g : Gr w5 W) => (show Calls Tryz.prog 143 #[.pointer (some ⟨k, 0, none⟩), .agg #[.int .i64 12, .int .i64 now, .int .i64 0, .int .i64 di, .int .i64 dl, .int .i64 dn, .slice A' dd.length c']] W _ from
    fput PUT ⟨12, now, 0, di, dl, dn, dd⟩ (.slice A' dd.length c') (H.out.gr (GG.out.trans g)) (HD5.out.gr g) HPO.out hlF (by dsimp only; omega) (by dsimp only; omega)))
  generalize dd.length = dlen at *
  refine wp_region_planM [(0, false), (1, false), (3, false), (4, false), (5, false), (6, false), (2, true), (7, false), (8, true), (9, true)] (fun W => W.heap[Bd]? = w5.heap[Bd]? ∧ W.heap[Be]? = w5.heap[Be]?) (by kernel_rfl) (by kernel_rfl) (fun _ _ d _ _ h => by cases d <;> exact h) ⟨rfl, rfl⟩ (fun _ => ?_)
  iterate 6 (refine pm_take (v := ?_) rfl (by rfl) ?_ ?_; rotate_left; (focus (intro W9 hW9; have u0 := (World.cell?_of_block (a := ⟨Bd, 1, none⟩) hW9.1).trans b1; have u1 := (World.cell?_of_block (a := ⟨Bd, 2, none⟩) hW9.1).trans b2; have u2 := (World.cell?_of_block (a := ⟨Bd, 3, none⟩) hW9.1).trans b3; have v0 := (World.cell?_of_block (a := ⟨Be, 0, none⟩) hW9.2).trans d0; have v1 := (World.cell?_of_block (a := ⟨Be, 1, none⟩) hW9.2).trans d1; have v2 := (World.cell?_of_block (a := ⟨Be, 2, none⟩) hW9.2).trans d2; have v3 := (World.cell?_of_block (a := ⟨Be, 3, none⟩) hW9.2).trans d3; have v4 := (World.cell?_of_block (a := ⟨Be, 4, none⟩) hW9.2).trans d4; have v5 := (World.cell?_of_block (a := ⟨Be, 5, none⟩) hW9.2).trans d5; have v6 := (World.cell?_of_block (a := ⟨Be, 6, none⟩) hW9.2).trans d6; clear hW9; go_simp; (try with_reducible rfl); done)); (try simp only [AP]))
  refine pm_call rfl (by rfl) (fun K hK => ?_)
  go_simp
  go_at_call 143
  refine (HP.out _ (Gr.refl w5).drew).mono ?_
  rintro en w6 ⟨rfl, hw6, hm6⟩
  have HW6 := hid hw6
  have M6 := hid ((GG.out.drew.mod (fun b => b = k ∨ b = mb)).trans hm6 (fun _ _ e => e))
  have M56 := hid hm6
  have hs6 := And.intro (hm6.block Bd (block_lt HBd.out) (by show ¬ (Bd = k ∨ Bd = mb); omega)) (hm6.block Be (block_lt HBe.out) (by show ¬ (Be = k ∨ Be = mb); omega))
  refine hK.out (fun W => W.heap[Bd]? = w5.heap[Bd]? ∧ W.heap[Be]? = w5.heap[Be]?) _ _ hs6 (fun W h => h) (fun _ => ?_)
  clear hK K hw6 hm6
  (try simp only [AP])
  iterate 1 (refine pm_take (v := ?_) rfl (by rfl) ?_ ?_; rotate_left; (focus (intro W9 hW9; clear hW9; go_simp; (try with_reducible rfl); done)); (try simp only [AP]))
  refine pm_call rfl (by rfl) (fun K hK => ?_)
  go_simp
  have ga := hid ((Gr.refl w6).alloc (.cells (recC (outR ⟨5, 0, atF F, 0, now + dn, 0, 0, []⟩) (.slice none 0 0)).toArray 188))
  refine hK.out (fun W => W.heap[Bd]? = w5.heap[Bd]? ∧ W.heap[Be]? = w5.heap[Be]?) _ _ ⟨(ga.out.block Bd (block_lt (hs6.1.trans HBd.out))).trans hs6.1, (ga.out.block Be (block_lt (hs6.2.trans HBe.out))).trans hs6.2⟩ (fun W h => h) (fun _ => ?_)
  clear hK K
  (try simp only [AP])
  refine pm_last rfl (by rfl) (fun K hK => ?_)
  go_simp
  refine hK.out _ _ ?_
  clear hK K
  go_wp2_with fail
  go_ret
  refine ⟨some ⟨w6.heap.size, 0, none⟩, 1, rfl, (HW6.out.gr ga.out).r, recs_one (d := (.slice none 0 0)) (heap_alloc_new w6 _) (fun e => by have := HW6.out.hM _ e; omega) ?_, M6.out.gr ga.out⟩
  exact BysM.none _ _
set_option maxHeartbeats 4000000 in
theorem done_4 (PUT : PutAny) (k mb : Nat) (F : FS) (d : Dec) (now : Int) (v : Value) (M : Bl) (w : World) (h : FW w M k mb F) (hlF : F.l.length ≤ 90000) (hne : F.l ≠ []) (hm : mayF d = true) (ht : takeB (isOf F.op) d = true) (hk : d.kind = 4) (hd : Bys w v d.data) (hnow : 0 ≤ now ∧ now ≤ 1099511627776) :
    Calls Tryz.prog 151 #[.pointer (some ⟨k, 0, none⟩), .agg #[.int .i64 d.kind, .int .i64 d.id, .int .i64 d.list, .int .i64 d.n, v], .int .i64 now] w (RetO M k mb (doneF F d now) w) := by
  have HPO := hid (putok_add (now := now) hne hm ht (by omega))
  have hsp := mayF_spec hm
  have hnn := hsp.2.2.2.1 (by omega)
  have H := hid h
  have HR := hid h.r
  have HD := hid hd
  obtain ⟨Ad, cd, rfl, _, _, _⟩ := hd
  have HC := hid (fun W (g : Gr w W) => clone_any (.slice Ad d.data.length cd) d.data W (HD.out.gr g))
  have hDF : doneF F d now = (putF F ⟨17, now, 0, d.id, d.list, d.n, d.data⟩, [⟨6, d.list, atF F, 0, 0, d.id, d.n, d.data⟩]) := by
    unfold doneF
    rw [if_neg (by omega), if_neg (by omega), if_pos hk]
  rw [hDF]
  rcases d with ⟨dk, di, dl, dn, dd⟩
  simp only at hk hnn
  subst hk
  simp only [kindD] at HPO
  have hkm : k < w.heap.size ∧ mb < w.heap.size := h.r.lt
  clear h hsp hm ht hDF
  simp only at HC ⊢
  have kw : IntKind.i64.wrap (now + dn) = now + dn := IntWalk.i64_in _ (by omega)
  go_enter Tryz.func151, Tryz.ntmps151
  go_upto_region 12 with (go_at_call 91; refine (HC.out _ ((Gr.refl w).alloc _)).mono ?_; rintro en1 _ ⟨A', c', y1, rfl, rfl, hbl, ho1⟩; have HO1 := hid ho1; have HBL := hid hbl; clear ho1 hbl)
  have G1 := hid (((Gr.refl w).alloc (.cells #[.int .i64 4, .int .i64 di, .int .i64 dl, .int .i64 dn, .slice Ad dd.length cd] 39)).ext y1)
  have hB0 : y1.val.heap[w.heap.size]? = some (.cells #[.int .i64 4, .int .i64 di, .int .i64 dl, .int .i64 dn, .slice Ad dd.length cd] 39 (0, 0)) := (y1.gr.block _ (by simp)).trans (heap_alloc_new w _)
  have hlt0 := y1.lt_alloc
  obtain ⟨w5, hw5⟩ : ∃ w5, y1.val.alloc (.cells #[.int .i64 17, .int .i64 now, .int .i64 0, .int .i64 di, .int .i64 dl, .int .i64 dn, .slice A' dd.length c'] 41) = w5 := ⟨_, rfl⟩
  have G5 := hid (show Gr y1.val w5 from hw5 ▸ (Gr.refl _).alloc _)
  have HBe := hid (show w5.heap[y1.val.heap.size]? = some (.cells #[.int .i64 17, .int .i64 now, .int .i64 0, .int .i64 di, .int .i64 dl, .int .i64 dn, .slice A' dd.length c'] 41 (0, 0)) from hw5 ▸ heap_alloc_new y1.val _)
  have HBd := hid ((G5.out.block _ (block_lt hB0)).trans hB0)
  have HO5 := hid (own_gr HO1.out G5.out)
  obtain ⟨Be, hBe⟩ : ∃ Be, y1.val.heap.size = Be := ⟨_, rfl⟩
  obtain ⟨Bd, hBd⟩ : ∃ Bd, w.heap.size = Bd := ⟨_, rfl⟩
  have hbds : w.heap.size ≤ Bd := Nat.le_of_eq hBd
  have hbes : w.heap.size ≤ Be := hBe ▸ Nat.le_of_lt hlt0
  rw [hw5]
  rw [hBe] at HBe
  rw [hBd] at HBd
  rw [hBe, hBd]
  have GG := hid (G1.out.trans G5.out)
  have HD5 := hid (show Bys w5 (.slice A' dd.length c') dd from Bys.of_own HO5.out HBL.out)
  have HDM := hid (show BysM w5 M (.slice A' dd.length c') dd from BysM.of_own HO5.out (fun b hb e => by have := H.out.hM b e; simp at hb; omega) HBL.out)
  clear hw5 hB0 HO1 HC hBe hBd
  obtain ⟨b1, b2, b3⟩ : w5.cell? ⟨Bd, 1, none⟩ = some (.int .i64 di) ∧ w5.cell? ⟨Bd, 2, none⟩ = some (.int .i64 dl) ∧ w5.cell? ⟨Bd, 3, none⟩ = some (.int .i64 dn) := by
    refine ⟨?_, ?_, ?_⟩ <;> simp [World.cell?, HBd.out]
  obtain ⟨d0, d1, d2, d3, d4, d5, d6⟩ : w5.cell? ⟨Be, 0, none⟩ = some (.int .i64 17) ∧ w5.cell? ⟨Be, 1, none⟩ = some (.int .i64 now) ∧ w5.cell? ⟨Be, 2, none⟩ = some (.int .i64 0) ∧ w5.cell? ⟨Be, 3, none⟩ = some (.int .i64 di) ∧ w5.cell? ⟨Be, 4, none⟩ = some (.int .i64 dl) ∧ w5.cell? ⟨Be, 5, none⟩ = some (.int .i64 dn) ∧ w5.cell? ⟨Be, 6, none⟩ = some (.slice A' dd.length c') := by
    refine ⟨?_, ?_, ?_, ?_, ?_, ?_, ?_⟩ <;> simp [World.cell?, HBe.out]
  have HP := hid (fun (W : World) (g : Gr w5 W) => (show Calls Tryz.prog 143 #[.pointer (some ⟨k, 0, none⟩), .agg #[.int .i64 17, .int .i64 now, .int .i64 0, .int .i64 di, .int .i64 dl, .int .i64 dn, .slice A' dd.length c']] W _ from
    fput PUT ⟨17, now, 0, di, dl, dn, dd⟩ (.slice A' dd.length c') (H.out.gr (GG.out.trans g)) (HD5.out.gr g) HPO.out hlF (by dsimp only; omega) (by dsimp only; omega)))
  generalize dd.length = dlen at *
  refine wp_region_planM [(0, false), (1, false), (2, false), (3, false), (4, false), (5, false), (6, false), (7, false), (8, false), (9, true), (10, false), (11, true), (12, true)] (fun W => W.heap[Bd]? = w5.heap[Bd]? ∧ W.heap[Be]? = w5.heap[Be]?) (by kernel_rfl) (by kernel_rfl) (fun _ _ d _ _ h => by cases d <;> exact h) ⟨rfl, rfl⟩ (fun _ => ?_)
  iterate 9 (refine pm_take (v := ?_) rfl (by rfl) ?_ ?_; rotate_left; (focus (intro W9 hW9; have u0 := (World.cell?_of_block (a := ⟨Bd, 1, none⟩) hW9.1).trans b1; have u1 := (World.cell?_of_block (a := ⟨Bd, 2, none⟩) hW9.1).trans b2; have u2 := (World.cell?_of_block (a := ⟨Bd, 3, none⟩) hW9.1).trans b3; have v0 := (World.cell?_of_block (a := ⟨Be, 0, none⟩) hW9.2).trans d0; have v1 := (World.cell?_of_block (a := ⟨Be, 1, none⟩) hW9.2).trans d1; have v2 := (World.cell?_of_block (a := ⟨Be, 2, none⟩) hW9.2).trans d2; have v3 := (World.cell?_of_block (a := ⟨Be, 3, none⟩) hW9.2).trans d3; have v4 := (World.cell?_of_block (a := ⟨Be, 4, none⟩) hW9.2).trans d4; have v5 := (World.cell?_of_block (a := ⟨Be, 5, none⟩) hW9.2).trans d5; have v6 := (World.cell?_of_block (a := ⟨Be, 6, none⟩) hW9.2).trans d6; clear hW9; go_simp; (try with_reducible rfl); done)); (try simp only [AP]))
  refine pm_call rfl (by rfl) (fun K hK => ?_)
  go_simp
  go_at_call 143
  refine (HP.out _ (Gr.refl w5).drew).mono ?_
  rintro en w6 ⟨rfl, hw6, hm6⟩
  have HW6 := hid hw6
  have M6 := hid ((GG.out.drew.mod (fun b => b = k ∨ b = mb)).trans hm6 (fun _ _ e => e))
  have M56 := hid hm6
  have hs6 := And.intro (hm6.block Bd (block_lt HBd.out) (by show ¬ (Bd = k ∨ Bd = mb); omega)) (hm6.block Be (block_lt HBe.out) (by show ¬ (Be = k ∨ Be = mb); omega))
  refine hK.out (fun W => W.heap[Bd]? = w5.heap[Bd]? ∧ W.heap[Be]? = w5.heap[Be]?) _ _ hs6 (fun W h => h) (fun _ => ?_)
  clear hK K hw6 hm6
  (try simp only [AP])
  iterate 1 (refine pm_take (v := ?_) rfl (by rfl) ?_ ?_; rotate_left; (focus (intro W9 hW9; clear hW9; go_simp; (try with_reducible rfl); done)); (try simp only [AP]))
  refine pm_call rfl (by rfl) (fun K hK => ?_)
  go_simp
  have ga := hid ((Gr.refl w6).alloc (.cells (recC (outR ⟨6, dl, atF F, 0, 0, di, dn, dd⟩) (.slice A' dlen c')).toArray 188))
  refine hK.out (fun W => W.heap[Bd]? = w5.heap[Bd]? ∧ W.heap[Be]? = w5.heap[Be]?) _ _ ⟨(ga.out.block Bd (block_lt (hs6.1.trans HBd.out))).trans hs6.1, (ga.out.block Be (block_lt (hs6.2.trans HBe.out))).trans hs6.2⟩ (fun W h => h) (fun _ => ?_)
  clear hK K
  (try simp only [AP])
  refine pm_last rfl (by rfl) (fun K hK => ?_)
  go_simp
  refine hK.out _ _ ?_
  clear hK K
  go_wp2_with fail
  go_ret
  refine ⟨some ⟨w6.heap.size, 0, none⟩, 1, rfl, (HW6.out.gr ga.out).r, recs_one (d := (.slice A' dlen c')) (heap_alloc_new w6 _) (fun e => by have := HW6.out.hM _ e; omega) ?_, M6.out.gr ga.out⟩
  exact ((HDM.out.up (Gr.up (Gr.refl w5).drew M)).up (Mod.up M56.out (fun b _ e => by rcases e with rfl | rfl; exact H.out.hk; exact H.out.hmb))).up (Gr.up ga.out M)
theorem cells7 {W : World} {B : Nat} {t : TypeId} {a b c d e f g : Value} (h : W.heap[B]? = some (.cells #[a, b, c, d, e, f, g] t (0, 0))) : W.cell? ⟨B, 0, none⟩ = some a ∧ W.cell? ⟨B, 1, none⟩ = some b ∧ W.cell? ⟨B, 2, none⟩ = some c ∧ W.cell? ⟨B, 3, none⟩ = some d ∧ W.cell? ⟨B, 4, none⟩ = some e ∧ W.cell? ⟨B, 5, none⟩ = some f ∧ W.cell? ⟨B, 6, none⟩ = some g := by
  refine ⟨?_, ?_, ?_, ?_, ?_, ?_, ?_⟩ <;> simp [World.cell?, h]
set_option maxHeartbeats 4000000 in
theorem done_3 (PUT : PutAny) (k mb : Nat) (F : FS) (d : Dec) (now : Int) (v : Value) (M : Bl) (w : World) (h : FW w M k mb F) (hlF : F.l.length ≤ 90000) (hne : F.l ≠ []) (hm : mayF d = true) (hk : d.kind = 3) (hd : Bys w v d.data) :
    Calls Tryz.prog 151 #[.pointer (some ⟨k, 0, none⟩), .agg #[.int .i64 d.kind, .int .i64 d.id, .int .i64 d.list, .int .i64 d.n, v], .int .i64 now] w
      (fun e w' => e = .returned (.slice none 0 0) ∧ FW w' M k mb (doneF F d now).1 ∧ (doneF F d now).2 = [] ∧ Mod (fun b => b = k ∨ b = mb) w w') := by
  have H := hid h
  have HD := hid hd
  obtain ⟨Ad, cd, rfl, _, _, _⟩ := hd
  have HC := hid (fun W (g : Gr w W) => clone_any (.slice Ad d.data.length cd) d.data W (HD.out.gr g))
  have hsp := mayF_spec hm
  have hPO : PutOk F ⟨14, now, findF F.op 12 d.id, d.id, d.list, d.n, d.data⟩ := .plain hne (by unfold plainK; dsimp only; omega) (by dsimp only; have := hsp.2.2.2.2.1 (by omega); omega) hsp.2.2.1
  have HPO := hid hPO
  have HDF := hid (show doneF F d now = (putF F ⟨14, now, findF F.op 12 d.id, d.id, d.list, d.n, d.data⟩, []) by
    unfold doneF
    rw [if_neg (by omega), if_neg (by omega), if_neg (by omega), if_pos hk])
  have HFI := hid (fun (W : World) (g : Gr w W) => findO_any k mb F M 12 d.id W (h.r.gr g) h.i.uniq)
  have hnM := h.hM
  have hkm : k < w.heap.size ∧ mb < w.heap.size := h.r.lt
  rw [HDF.out]
  rcases d with ⟨dk, di, dl, dn, dd⟩
  simp only at hk
  subst hk
  clear h hsp hm hPO HDF
  simp only at HC HFI HPO ⊢
  obtain ⟨fi, hfi⟩ : ∃ fi, findF F.op 12 di = fi := ⟨_, rfl⟩
  rw [hfi] at HFI HPO ⊢
  clear hfi
  have HP := hid (fun (W : World) (g : Gr w W) (v' : Value) (hv : Bys W v' dd) => fput PUT ⟨14, now, fi, di, dl, dn, dd⟩ v' (H.out.gr g) hv HPO.out hlF (by dsimp only; omega) (by dsimp only; omega))
  simp only [evV] at HP
  generalize dd.length = dlen at *
  go_enter Tryz.func151, Tryz.ntmps151
  go_wp2_with (first
    | (go_at_call 91
       refine (HC.out _ ((Gr.refl w).alloc _)).mono ?_
       rintro en1 _ ⟨A', c', y1, rfl, rfl, hbl, ho1⟩
       have HO1 := hid ho1
       have HBL := hid hbl
       have hB0 := (y1.gr.block w.heap.size (by simp)).trans (heap_alloc_new w _)
       have HB0 := hid hB0
       obtain ⟨q0, q1, q2, q3, q4⟩ := cells5 hB0
       have hlt0 := y1.lt_alloc
       have G1 := hid (((Gr.refl w).alloc _).ext y1)
       clear ho1 hbl hB0)
    | (go_at_call 187
       refine (HFI.out _ (G1.out.alloc _)).mono ?_
       rintro en1 _ ⟨rfl, y2, rfl⟩
       have HE2 := hid ((y2.gr.block _ (by simp)).trans (heap_alloc_new y1.val _))
       have hl2 := block_lt HE2.out
       have z0 := frozen_of (j := 0) HE2.out
       have z2 := frozen_of (j := 2) HE2.out
       obtain ⟨p0, p1, p2, p3, p4, p5, p6⟩ := cells7 HE2.out
       have G12 := hid (((Gr.refl y1.val).alloc _).ext y2))
    | (go_at_call 143
       have g3 : Gr y1.val ((y2.val.setCell ⟨y1.val.heap.size, 0, none⟩ (.int .i64 14)).setCell ⟨y1.val.heap.size, 2, none⟩ (.int .i64 fi)) := (G12.out.set (p := ⟨y1.val.heap.size, 0, none⟩) (Nat.le_refl _) _).set (p := ⟨y1.val.heap.size, 2, none⟩) (Nat.le_refl _) _
       have G3 := hid (G1.out.trans g3)
       refine (HP.out _ G3.out _ (Bys.of_own (own_gr HO1.out g3) HBL.out)).mono ?_
       rintro en w3 ⟨rfl, hw3, hm3⟩
       have HW3 := hid hw3
       have HM3 := hid ((G3.out.mod (fun b => b = k ∨ b = mb)).trans hm3 (fun _ _ e => e))
       clear hw3 hm3 g3))
  go_ret
  exact ⟨rfl, HW3.out, trivial, HM3.out⟩
set_option maxHeartbeats 4000000 in
theorem done_5 (PUT : PutAny) (k mb : Nat) (F : FS) (d : Dec) (now : Int) (v : Value) (M : Bl) (w : World) (h : FW w M k mb F) (hk : d.kind = 5) (hd : Bys w v d.data) :
    Calls Tryz.prog 151 #[.pointer (some ⟨k, 0, none⟩), .agg #[.int .i64 d.kind, .int .i64 d.id, .int .i64 d.list, .int .i64 d.n, v], .int .i64 now] w (RetO M k mb (doneF F d now) w) := by
  have H := hid h
  have HD := hid hd
  obtain ⟨Ad, cd, rfl, _, _, _⟩ := hd
  have HC := hid (fun W (g : Gr w W) => clone_any (.slice Ad d.data.length cd) d.data W (HD.out.gr g))
  have hDF : doneF F d now = closeF F 20 d.data now := by
    unfold doneF
    rw [if_neg (by omega), if_neg (by omega), if_neg (by omega), if_neg (by omega), hk]
    rfl
  rw [hDF]
  rcases d with ⟨dk, di, dl, dn, dd⟩
  simp only at hk
  subst hk
  clear h hDF
  simp only at HC ⊢
  have HCL := hid (fun (W : World) (g : Gr w W) (v' : Value) (hv : BysM W M v' dd) => close_any PUT k mb F 20 now v' dd M W (H.out.gr g) (by decide) hv)
  have HMM := hid (show ∀ b, M b → b < w.heap.size from H.out.hM)
  generalize dd.length = dlen at *
  go_enter Tryz.func151, Tryz.ntmps151
  go_wp2_with (first
    | (go_at_call 91
       refine (HC.out _ ((Gr.refl w).alloc _)).mono ?_
       rintro en1 _ ⟨A', c', y1, rfl, rfl, hbl, ho1⟩
       have HO1 := hid ho1
       have HBL := hid hbl
       have hB0 := (y1.gr.block w.heap.size (by simp)).trans (heap_alloc_new w _)
       obtain ⟨q0, q1, q2, q3, q4⟩ := cells5 hB0
       have hlt0 := y1.lt_alloc
       have G1 := hid (((Gr.refl w).alloc _).ext y1)
       clear ho1 hbl hB0)
    | (go_at_call 147
       go_loud ((refine (HCL.out _ ?_ _ ?_).mono ?_; exact (G1.out.alloc _).alloc _; exact (BysM.of_own HO1.out (fun b hb e => by have := HMM.out b e; simp at hb; omega) HBL.out).up (Gr.up (((Gr.refl _).alloc _).alloc _) M); rintro en w3 ⟨A3, c3, rfl, hr3, ho3, hm3⟩; have HR3 := hid hr3; have HO3 := hid ho3; have HM3 := hid ((((G1.out.alloc _).alloc _).mod (fun b => b = k ∨ b = mb)).trans hm3 (fun _ _ e => e)); clear hr3 ho3 hm3))))
  go_ret
  exact ⟨A3, c3, rfl, HR3.out, HO3.out, HM3.out⟩
set_option maxHeartbeats 4000000 in
theorem done_6 (PUT : PutAny) (k mb : Nat) (F : FS) (d : Dec) (now : Int) (v : Value) (M : Bl) (w : World) (h : FW w M k mb F) (hk : d.kind = 6) (hd : Bys w v d.data) :
    Calls Tryz.prog 151 #[.pointer (some ⟨k, 0, none⟩), .agg #[.int .i64 d.kind, .int .i64 d.id, .int .i64 d.list, .int .i64 d.n, v], .int .i64 now] w (RetO M k mb (doneF F d now) w) := by
  have H := hid h
  have HD := hid hd
  obtain ⟨Ad, cd, rfl, _, _, _⟩ := hd
  have HC := hid (fun W (g : Gr w W) => clone_any (.slice Ad d.data.length cd) d.data W (HD.out.gr g))
  have hDF : doneF F d now = closeF F 21 d.data now := by
    unfold doneF
    rw [if_neg (by omega), if_neg (by omega), if_neg (by omega), if_neg (by omega), hk]
    rfl
  rw [hDF]
  rcases d with ⟨dk, di, dl, dn, dd⟩
  simp only at hk
  subst hk
  clear h hDF
  simp only at HC ⊢
  have HCL := hid (fun (W : World) (g : Gr w W) (v' : Value) (hv : BysM W M v' dd) => close_any PUT k mb F 21 now v' dd M W (H.out.gr g) (by decide) hv)
  have HMM := hid (show ∀ b, M b → b < w.heap.size from H.out.hM)
  generalize dd.length = dlen at *
  go_enter Tryz.func151, Tryz.ntmps151
  go_wp2_with (first
    | (go_at_call 91
       refine (HC.out _ ((Gr.refl w).alloc _)).mono ?_
       rintro en1 _ ⟨A', c', y1, rfl, rfl, hbl, ho1⟩
       have HO1 := hid ho1
       have HBL := hid hbl
       have hB0 := (y1.gr.block w.heap.size (by simp)).trans (heap_alloc_new w _)
       obtain ⟨q0, q1, q2, q3, q4⟩ := cells5 hB0
       have hlt0 := y1.lt_alloc
       have G1 := hid (((Gr.refl w).alloc _).ext y1)
       clear ho1 hbl hB0)
    | (go_at_call 147
       go_loud ((refine (HCL.out _ ?_ _ ?_).mono ?_; exact (G1.out.alloc _).alloc _; exact (BysM.of_own HO1.out (fun b hb e => by have := HMM.out b e; simp at hb; omega) HBL.out).up (Gr.up (((Gr.refl _).alloc _).alloc _) M); rintro en w3 ⟨A3, c3, rfl, hr3, ho3, hm3⟩; have HR3 := hid hr3; have HO3 := hid ho3; have HM3 := hid ((((G1.out.alloc _).alloc _).mod (fun b => b = k ∨ b = mb)).trans hm3 (fun _ _ e => e)); clear hr3 ho3 hm3))))
  go_ret
  exact ⟨A3, c3, rfl, HR3.out, HO3.out, HM3.out⟩
set_option maxHeartbeats 4000000 in
theorem done_7 (PUT : PutAny) (k mb : Nat) (F : FS) (d : Dec) (now : Int) (v : Value) (M : Bl) (w : World) (h : FW w M k mb F) (hk : d.kind = 7) (hd : Bys w v d.data) :
    Calls Tryz.prog 151 #[.pointer (some ⟨k, 0, none⟩), .agg #[.int .i64 d.kind, .int .i64 d.id, .int .i64 d.list, .int .i64 d.n, v], .int .i64 now] w (RetO M k mb (doneF F d now) w) := by
  have H := hid h
  have HD := hid hd
  obtain ⟨Ad, cd, rfl, _, _, _⟩ := hd
  have HC := hid (fun W (g : Gr w W) => clone_any (.slice Ad d.data.length cd) d.data W (HD.out.gr g))
  have hDF : doneF F d now = closeF F 22 d.data now := by
    unfold doneF
    rw [if_neg (by omega), if_neg (by omega), if_neg (by omega), if_neg (by omega), hk]
    rfl
  rw [hDF]
  rcases d with ⟨dk, di, dl, dn, dd⟩
  simp only at hk
  subst hk
  clear h hDF
  simp only at HC ⊢
  have HCL := hid (fun (W : World) (g : Gr w W) (v' : Value) (hv : BysM W M v' dd) => close_any PUT k mb F 22 now v' dd M W (H.out.gr g) (by decide) hv)
  have HMM := hid (show ∀ b, M b → b < w.heap.size from H.out.hM)
  generalize dd.length = dlen at *
  go_enter Tryz.func151, Tryz.ntmps151
  go_wp2_with (first
    | (go_at_call 91
       refine (HC.out _ ((Gr.refl w).alloc _)).mono ?_
       rintro en1 _ ⟨A', c', y1, rfl, rfl, hbl, ho1⟩
       have HO1 := hid ho1
       have HBL := hid hbl
       have hB0 := (y1.gr.block w.heap.size (by simp)).trans (heap_alloc_new w _)
       obtain ⟨q0, q1, q2, q3, q4⟩ := cells5 hB0
       have hlt0 := y1.lt_alloc
       have G1 := hid (((Gr.refl w).alloc _).ext y1)
       clear ho1 hbl hB0)
    | (go_at_call 147
       go_loud ((refine (HCL.out _ ?_ _ ?_).mono ?_; exact (G1.out.alloc _).alloc _; exact (BysM.of_own HO1.out (fun b hb e => by have := HMM.out b e; simp at hb; omega) HBL.out).up (Gr.up (((Gr.refl _).alloc _).alloc _) M); rintro en w3 ⟨A3, c3, rfl, hr3, ho3, hm3⟩; have HR3 := hid hr3; have HO3 := hid ho3; have HM3 := hid ((((G1.out.alloc _).alloc _).mod (fun b => b = k ∨ b = mb)).trans hm3 (fun _ _ e => e)); clear hr3 ho3 hm3))))
  go_ret
  exact ⟨A3, c3, rfl, HR3.out, HO3.out, HM3.out⟩
set_option maxHeartbeats 4000000 in
theorem done_8 (PUT : PutAny) (k mb : Nat) (F : FS) (d : Dec) (now : Int) (v : Value) (M : Bl) (w : World) (h : FW w M k mb F) (hk : d.kind = 8) (hd : Bys w v d.data) :
    Calls Tryz.prog 151 #[.pointer (some ⟨k, 0, none⟩), .agg #[.int .i64 d.kind, .int .i64 d.id, .int .i64 d.list, .int .i64 d.n, v], .int .i64 now] w (RetO M k mb (doneF F d now) w) := by
  have H := hid h
  have HD := hid hd
  obtain ⟨Ad, cd, rfl, _, _, _⟩ := hd
  have HC := hid (fun W (g : Gr w W) => clone_any (.slice Ad d.data.length cd) d.data W (HD.out.gr g))
  have hDF : doneF F d now = closeF F 19 d.data now := by
    unfold doneF
    rw [if_neg (by omega), if_neg (by omega), if_neg (by omega), if_neg (by omega), hk]
    rfl
  rw [hDF]
  rcases d with ⟨dk, di, dl, dn, dd⟩
  simp only at hk
  subst hk
  clear h hDF
  simp only at HC ⊢
  have HCL := hid (fun (W : World) (g : Gr w W) (v' : Value) (hv : BysM W M v' dd) => close_any PUT k mb F 19 now v' dd M W (H.out.gr g) (by decide) hv)
  have HMM := hid (show ∀ b, M b → b < w.heap.size from H.out.hM)
  generalize dd.length = dlen at *
  go_enter Tryz.func151, Tryz.ntmps151
  go_wp2_with (first
    | (go_at_call 91
       refine (HC.out _ ((Gr.refl w).alloc _)).mono ?_
       rintro en1 _ ⟨A', c', y1, rfl, rfl, hbl, ho1⟩
       have HO1 := hid ho1
       have HBL := hid hbl
       have hB0 := (y1.gr.block w.heap.size (by simp)).trans (heap_alloc_new w _)
       obtain ⟨q0, q1, q2, q3, q4⟩ := cells5 hB0
       have hlt0 := y1.lt_alloc
       have G1 := hid (((Gr.refl w).alloc _).ext y1)
       clear ho1 hbl hB0)
    | (go_at_call 147
       go_loud ((refine (HCL.out _ ?_ _ ?_).mono ?_; exact (G1.out.alloc _).alloc _; exact (BysM.of_own HO1.out (fun b hb e => by have := HMM.out b e; simp at hb; omega) HBL.out).up (Gr.up (((Gr.refl _).alloc _).alloc _) M); rintro en w3 ⟨A3, c3, rfl, hr3, ho3, hm3⟩; have HR3 := hid hr3; have HO3 := hid ho3; have HM3 := hid ((((G1.out.alloc _).alloc _).mod (fun b => b = k ∨ b = mb)).trans hm3 (fun _ _ e => e)); clear hr3 ho3 hm3))))
  go_ret
  exact ⟨A3, c3, rfl, HR3.out, HO3.out, HM3.out⟩
end Go.Proofs.YtniknicnnaiilaaGreat
end
