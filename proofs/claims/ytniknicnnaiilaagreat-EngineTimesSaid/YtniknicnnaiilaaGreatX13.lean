/- Lemmas: what the functions of the engine answer, and which blocks they write. -/
import Derived.Test.YtniknicnnaiilaaGreatX05
import Derived.Test.YtniknicnnaiilaaGreatX07
import Derived.Test.YtniknicnnaiilaaGreatX11
import Derived.Test.YtniknicnnaiilaaGreatX12
section
namespace Go.Proofs.YtniknicnnaiilaaGreat
set_option maxRecDepth 100000
open Go.RowKit Go.Ext Go.BigFrame Go.Maps Go.MapKept
attribute [local go_sem] Ext.cell Ext.frozen Ext.lt Ext.le s1 s2 s3 s4 s5 s6 t1 t2 t3 t4 t5 t6
attribute [local go_sem ↓] Go.wp_at_zero Go.wp_at_succ
def runV (k : Nat) (pf pr : Int) : Value := .agg #[.pointer (some ⟨k, 0, none⟩), .int .i64 pf, .int .i64 pr]
def RunM (w : World) (M : Bl) (r : RunS) (v : Value) : Prop := ∃ k, v = runV k r.pf r.pr ∧ FlowI w M k r.f
theorem RunM.up {w w' : World} {M M' : Bl} {r : RunS} {v : Value} (h : RunM w M r v) (u : Up M w M' w') : RunM w' M' r v := by
  obtain ⟨k, e, hf⟩ := h
  exact ⟨k, e, hf.up u⟩
structure EngP (w : World) (M S : Bl) (k : Nat) (E : ES) (kd ka md ma mr kh : Nat) (hv : Value) : Prop where
  cell : w.heap[k]? = some (.cells #[.pointer (some ⟨kd, 0, none⟩), .pointer (some ⟨ka, 0, none⟩), .int .i64 E.shard, .int .i64 E.groups, .int .i64 E.now, .map (some mr), .pointer (some ⟨kh, 0, none⟩)] 79 (0, 0))
  d : ListR w M kd md E.dec
  a : ListR w M ka ma E.act
  r : ∃ kv, MI w mr kv ∧ Rel (fun r v => RunM w M r v) E.runs kv
  h : HB 0 w kh hv E.due
  sk : S k
  smd : S md
  sma : S ma
  smr : S mr
  skh : S kh
  shv : ∀ b, hv.ownBlock = some b → S b
  nd : ¬ M kd
  na : ¬ M ka
  ne1 : md ≠ ma
  ne2 : md ≠ mr
  ne3 : ma ≠ mr
  SM : ∀ b, S b → M b
  lt : ∀ b, M b → b < w.heap.size
def EngR (w : World) (M S : Bl) (k : Nat) (E : ES) : Prop := ∃ kd ka md ma mr kh hv, EngP w M S k E kd ka md ma mr kh hv
section
variable {w w' : World} {M M' S S' : Bl} {k kd ka md ma mr kh : Nat} {hv : Value} {E : ES}
theorem EngP.mrlt (h : EngP w M S k E kd ka md ma mr kh hv) : mr < w.heap.size := by
  obtain ⟨kv, h1, _⟩ := h.r
  exact h1.lt
theorem MI.isMap {b : Nat} {kv : List (Int × Value)} (h : MI w b kv) : ∃ es c, w.heap[b]? = some (.map es c) := by
  obtain ⟨es, c, h1, _⟩ := h
  exact ⟨es, c, h1⟩
theorem ne_map_cells {b c : Nat} {kv : List (Int × Value)} {cs : Array Value} {t : TypeId} {fz : Nat × Nat} (h : MI w b kv) (h2 : w.heap[c]? = some (.cells cs t fz)) : b ≠ c := by
  rintro rfl
  obtain ⟨es, cl, h1⟩ := MI.isMap h
  rw [h1] at h2
  cases h2
theorem ne_types {b c : Nat} {cs cs' : Array Value} {t t' : TypeId} {fz fz' : Nat × Nat} (h : w.heap[b]? = some (.cells cs t fz)) (h2 : w.heap[c]? = some (.cells cs' t' fz')) (ht : t ≠ t') : b ≠ c := by
  rintro rfl
  rw [h] at h2
  injection h2 with h2
  injection h2 with _ h2 _
  exact ht h2
theorem EngP.keep (h : EngP w M S k E kd ka md ma mr kh hv) (u : Up M w M' w') (hS : ∀ b, S b → w'.heap[b]? = w.heap[b]?) (SM : ∀ b, S b → M' b) (lt : ∀ b, M' b → b < w'.heap.size) : EngP w' M' S k E kd ka md ma mr kh hv := by
  obtain ⟨kv, h1, h2⟩ := h.r
  refine ⟨(hS k h.sk).trans h.cell, h.d.up u (u.block h.d.lt.1 h.nd) (hS md h.smd), h.a.up u (u.block h.a.lt.1 h.na) (hS ma h.sma), ⟨kv, h1.keep (hS mr h.smr), h2.mono fun a v hr => hr.up u⟩, ?_, h.sk, h.smd, h.sma, h.smr, h.skh, h.shv, u.not h.d.lt.1 h.nd, u.not h.a.lt.1 h.na, h.ne1, h.ne2, h.ne3, SM, lt⟩
  refine ⟨h.h.lo, (hS kh h.skh).trans h.h.cell, h.h.row.1, ?_⟩
  rcases h.h.row.2 with h3 | ⟨g', cap, cur, hv', hb, hh, r⟩
  · exact .inl h3
  · exact .inr ⟨g', cap, cur, hv', hb, (hS g' (h.shv g' (by rw [hv']; rfl))).trans hh, r⟩
theorem EngR.keep (h : EngR w M S k E) (u : Up M w M' w') (hS : ∀ b, S b → w'.heap[b]? = w.heap[b]?) (SM : ∀ b, S b → M' b) (lt : ∀ b, M' b → b < w'.heap.size) : EngR w' M' S k E := by
  obtain ⟨kd, ka, md, ma, mr, kh, hv, h⟩ := h
  exact ⟨kd, ka, md, ma, mr, kh, hv, h.keep u hS SM lt⟩
theorem EngP.gr (h : EngP w M S k E kd ka md ma mr kh hv) (g : Gr w w') : EngP w' M S k E kd ka md ma mr kh hv :=
  h.keep (Gr.up g M) (fun b hb => g.block b (h.lt b (h.SM b hb))) h.SM (fun b hb => Nat.lt_of_lt_of_le (h.lt b hb) g.size)
theorem EngR.gr (h : EngR w M S k E) (g : Gr w w') : EngR w' M S k E := by
  obtain ⟨kd, ka, md, ma, mr, kh, hv, h⟩ := h
  exact ⟨kd, ka, md, ma, mr, kh, hv, h.gr g⟩
theorem EngR.lt (h : EngR w M S k E) : (∀ b, M b → b < w.heap.size) ∧ (∀ b, S b → M b) ∧ S k := by
  obtain ⟨kd, ka, md, ma, mr, kh, hv, h⟩ := h
  exact ⟨h.lt, h.SM, h.sk⟩
theorem EngP.cells (h : EngP w M S k E kd ka md ma mr kh hv) : w.cell? ⟨k, 0, none⟩ = some (.pointer (some ⟨kd, 0, none⟩)) ∧ w.cell? ⟨k, 1, none⟩ = some (.pointer (some ⟨ka, 0, none⟩)) ∧ w.cell? ⟨k, 2, none⟩ = some (.int .i64 E.shard) ∧ w.cell? ⟨k, 3, none⟩ = some (.int .i64 E.groups) ∧
    w.cell? ⟨k, 4, none⟩ = some (.int .i64 E.now) ∧ w.cell? ⟨k, 5, none⟩ = some (.map (some mr)) ∧ w.cell? ⟨k, 6, none⟩ = some (.pointer (some ⟨kh, 0, none⟩)) ∧ k < w.heap.size := by
  refine ⟨?_, ?_, ?_, ?_, ?_, ?_, ?_, block_lt h.cell⟩ <;> simp [World.cell?, h.cell]
theorem zero109 (w : World) : (zeroValue 109).run Tryz.prog w = .ok (.agg #[.pointer none, .int .i64 0, .int .i64 0]) w := by kernel_rfl
theorem EngP.look (h : EngP w M S k E kd ka md ma mr kh hv) (id : Int) (c : Bool) :
    (lk E.runs id = none ∧ ∀ W, Gr w W → (Instr.lookup 76 (.map (some mr)) (.int .i64 id) c).run Tryz.prog W = .ok (if c then .tuple #[.agg #[.pointer none, .int .i64 0, .int .i64 0], .bool false] else .agg #[.pointer none, .int .i64 0, .int .i64 0]) W) ∨
    ∃ r kf, lk E.runs id = some r ∧ FlowI w M kf r.f ∧ ∀ W, Gr w W → (Instr.lookup 76 (.map (some mr)) (.int .i64 id) c).run Tryz.prog W = .ok (if c then .tuple #[runV kf r.pf r.pr, .bool true] else runV kf r.pf r.pr) W := by
  obtain ⟨kv, h1, h2⟩ := h.r
  have hrun := fun W (g : Gr w W) => (h1.gr g).lookup (P := Tryz.prog) Tryz.underlying76 Tryz.underlying3 (zero109 W) id c
  rcases h2.lk id with ⟨e1, e2⟩ | ⟨r, v, e1, e2, kf, rfl, hf⟩
  · rw [e2] at hrun
    exact .inl ⟨e1, hrun⟩
  · rw [e2] at hrun
    exact .inr ⟨r, kf, e1, hf, hrun⟩
end
def RetS (M S : Bl) (k : Nat) (R : Option ES) (vok : Value) (vfull : Value → Prop) (w : World) (e : Ending) (w' : World) : Prop :=
  Mod S w w' ∧ match R with
  | some E' => e = .returned vok ∧ ∃ M' S', EngR w' M' S' k E' ∧ (∀ b, b < w.heap.size → S' b → S b) ∧ (∀ b, b < w.heap.size → M' b → M b) ∧ ∀ b, M b → M' b
  | none => ∃ v, e = .returned v ∧ vfull v
section
variable {w w1 w2 : World} {M M' S S' : Bl} {k : Nat}
theorem RetS.after {R : Option ES} {vok : Value} {vfull : Value → Prop} {en : Ending} (hm : Mod S w w1) (hS : ∀ b, b < w.heap.size → S' b → S b) (hM1 : ∀ b, b < w.heap.size → M' b → M b) (hM2 : ∀ b, M b → M' b) (h : RetS M' S' k R vok vfull w1 en w2) : RetS M S k R vok vfull w en w2 := by
  obtain ⟨h1, h2⟩ := h
  refine ⟨hm.trans h1 hS, ?_⟩
  cases R with
  | none => exact h2
  | some E' =>
    obtain ⟨e, M2, S2, a, b, c, d⟩ := h2
    exact ⟨e, M2, S2, a, fun x hx hs => hS x hx (b x (Nat.lt_of_lt_of_le hx hm.size) hs), fun x hx hs => hM1 x hx (c x (Nat.lt_of_lt_of_le hx hm.size) hs), fun x hx => d x (hM2 x hx)⟩
theorem RetS.grow {R : Option ES} {vok : Value} {vfull : Value → Prop} {en : Ending} (g : Gr w w1) (h : RetS M S k R vok vfull w1 en w2) : RetS M S k R vok vfull w en w2 :=
  h.after (g.mod S) (fun _ _ e => e) (fun _ _ e => e) (fun _ e => e)
theorem RetS.done {E : ES} {vok : Value} {vfull : Value → Prop} (h : EngR w1 M S k E) (m : Mod S w w1) : RetS M S k (some E) vok vfull w (.returned vok) w1 :=
  ⟨m, rfl, M, S, h, fun _ _ e => e, fun _ _ e => e, fun _ e => e⟩
theorem RetS.full {vok v : Value} {vfull : Value → Prop} (m : Mod S w w1) (hv : vfull v) : RetS M S k none vok vfull w (.returned v) w1 := ⟨m, v, rfl, hv⟩
end
end Go.Proofs.YtniknicnnaiilaaGreat
end
section
namespace Go.Proofs.YtniknicnnaiilaaGreat
set_option maxRecDepth 100000
open Go.RowKit Go.Ext Go.BigFrame Go.Maps Go.MapKept
attribute [local go_sem] Ext.cell Ext.frozen Ext.lt Ext.le s1 s2 s3 s4 s5 s6 t1 t2 t3 t4 t5 t6
attribute [local go_sem ↓] Go.wp_at_zero Go.wp_at_succ
set_option maxHeartbeats 4000000 in
theorem pushL_any (k mb : Nat) (m : Rows) (list : Int) (t : Task) (M : Bl) (w : World) (h : ListR w M k mb m) (hmb : M mb) (hM : ∀ b, M b → b < w.heap.size) (hl : (rowOf m list).length ≤ 100000) :
    Calls Tryz.prog 159 #[.pointer (some ⟨k, 0, none⟩), .int .i64 list, tkV t] w
      (fun e w' => match pushR m list t with | none => e = .returned (.int .i64 4) ∧ Gr w w' | some m' => RetL M k mb m' (.int .i64 0) w e w') := by
  have H := hid h
  have hlt := h.lt
  have hne := h.ne
  have HF := hid (fun W (y : Gr w W) => fullL_any k mb m list M W (h.gr y))
  have HM := hid hM
  have HMB := hid hmb
  have c0 := h.c0
  have c1 := h.c1
  obtain ⟨i0, hi0, hz0, hz1, hz2⟩ := info_parts info84
  clear h hM hmb
  rcases t with ⟨t0, t1, t2, t3⟩
  simp only [tkV]
  unfold pushR
  by_cases hfull : 1024 ≤ (rowOf m list).length
  · rw [if_pos hfull]
    rw [decide_eq_true hfull] at HF
    clear hfull
    go_enter Tryz.func159, Tryz.ntmps159
    go_wp2_with (go_at_call 188; (with_reducible refine (HF.out _ ((Gr.refl w).alloc _)).mono ?_); rintro en _ ⟨rfl, y1, rfl⟩)
    go_ret
    exact ⟨rfl, ((Gr.refl w).alloc _).ext y1⟩
  rw [if_neg hfull]
  rw [decide_eq_false hfull] at HF
  clear hfull
  simp only
  obtain ⟨ts, hts⟩ : ∃ ts, rowOf m list = ts := ⟨_, rfl⟩
  have HTSE := hid hts
  rw [hts] at hl ⊢
  clear hts
  rw [show up m list (ts ++ [⟨t0, t1, t2, t3⟩]) = setR m list (ts ++ [⟨t0, t1, t2, t3⟩]) by unfold setR; simp]
  go_enter Tryz.func159, Tryz.ntmps159
  go_upto_region 3 with (go_at_call 188; (with_reducible refine (HF.out _ ((Gr.refl w).alloc _)).mono ?_); rintro en _ ⟨rfl, y1, rfl⟩)
  have G1 := hid (((Gr.refl w).alloc (.cells #[.int .i64 t0, .int .i64 t1, .int .i64 t2, .int .i64 t3] 84)).ext y1)
  have HB1 := hid (show y1.val.heap[w.heap.size]? = some (.cells #[.int .i64 t0, .int .i64 t1, .int .i64 t2, .int .i64 t3] 84 (0, 0)) from (y1.gr.block _ (by simp)).trans (heap_alloc_new w _))
  obtain ⟨W2, hW2⟩ : ∃ W2, y1.val = W2 := ⟨_, rfl⟩
  rw [hW2] at HB1 G1 ⊢
  clear hW2
  have hk2 : k < W2.heap.size := Nat.lt_of_lt_of_le hlt.1 G1.out.size
  have hm2 : mb < W2.heap.size := Nat.lt_of_lt_of_le hlt.2 G1.out.size
  obtain ⟨b0, b1, b2, b3⟩ : W2.cell? ⟨w.heap.size, 0, none⟩ = some (.int .i64 t0) ∧ W2.cell? ⟨w.heap.size, 1, none⟩ = some (.int .i64 t1) ∧ W2.cell? ⟨w.heap.size, 2, none⟩ = some (.int .i64 t2) ∧ W2.cell? ⟨w.heap.size, 3, none⟩ = some (.int .i64 t3) := by
    refine ⟨?_, ?_, ?_, ?_⟩ <;> simp [World.cell?, HB1.out]
  have hBlt : w.heap.size < W2.heap.size := block_lt HB1.out
  have d1 : W2.cell? ⟨k, 1, none⟩ = some (.map (some mb)) := (G1.out.cell (p := ⟨k, 1, none⟩) hlt.1).trans c1
  have H2 := hid (H.out.gr G1.out)
  obtain ⟨A, c, hlook, ht⟩ := H2.out.look list
  have HLOOK := hid hlook
  have HT := hid ht
  obtain ⟨A', c', e', hc, hrd, hAc⟩ := ht
  injection e' with e1 _ e3
  subst e1 e3
  have HRD := hid hrd
  have HMM := hid (fun (W : World) (g : Gr W2 W) => (show ∀ b, M b → b < W.heap.size from fun b hb => Nat.lt_of_lt_of_le (HM.out b hb) (Nat.le_trans G1.out.size g.size)))
  rw [HTSE.out] at HLOOK HRD hc
  clear HT hlook hrd HTSE
  have HLEN := hid (show (tksC ts).length = ts.length * 4 from tksC_len ts)
  have HTS := hid (show ∀ (W : World) (B cap : Nat), RdM W M (some ⟨B, 0, none⟩) (tksC ts ++ [.int .i64 t0, .int .i64 t1, .int .i64 t2, .int .i64 t3]) → ts.length + 1 ≤ cap → TsM W M (.slice (some ⟨B, 0, none⟩) (ts.length + 1) cap) (ts ++ [⟨t0, t1, t2, t3⟩]) from fun W B cap hrd hcap =>
    ⟨some ⟨B, 0, none⟩, cap, by simp, by simpa using hcap, by rw [tksC_app]; exact hrd, fun e => by cases e⟩)
  have HSET := hid (fun (W : World) (g : Gr W2 W) (v : Value) (hv : TsM W M v (ts ++ [⟨t0, t1, t2, t3⟩])) => setL_any k mb m list v (ts ++ [⟨t0, t1, t2, t3⟩]) M W (H2.out.gr g) HMB.out hv)
  have FIN := hid (show ∀ (W W' : World) (en : Ending), Gr W2 W → RetL M k mb (setR m list (ts ++ [⟨t0, t1, t2, t3⟩])) (.tuple #[]) W en W' → RetL M k mb (setR m list (ts ++ [⟨t0, t1, t2, t3⟩])) (.int .i64 0) w (.returned (.int .i64 0)) W' from
    fun W W' en g ⟨_, h2, h3⟩ => ⟨rfl, h2, ((G1.out.trans g).mod _).trans h3 (fun _ _ e => e)⟩)
  clear H2 HM HMB H HF
  generalize ts.length = n at *
  have hpure : ∀ W W' : World, W = W' → W' = W := fun _ _ e => e.symm
  clear hpure
  refine wp_region_fork [0, 1, 2, 3, 4, 5, 6, 7, 9] 4 (fun W => Gr W2 W) (by kernel_rfl) (by kernel_rfl) (fun _ _ d _ _ h => by cases d <;> exact h) (Gr.refl W2).drew (fun _ => ?_)
  iterate 9 (refine pre_take (v := ?_) rfl (by rfl) ?_ ?_; rotate_left; (focus (intro W9 hW9; have hl9 := HLOOK.out W9 hW9; obtain ⟨x9, rfl⟩ : ∃ x : Ext W2, W9 = x.val := ⟨⟨W9, hW9⟩, rfl⟩; go_simp; (try with_reducible rfl); done)); (try simp only [AP]))
  intro hcl
  refine wpAnyW_fork hcl (i := 8) (j := 10) (by kernel_rfl) (fun hcl1 => ?_) (fun hcl1 => ?_)
  · refine wpOpW_step rfl (by rfl) (fun K hK => ?_)
    go_simp
    go_at_call 189
    refine (clipT_any A n c _ hc hAc).mono ?_
    rintro en _ ⟨rfl, y3, rfl⟩
    have G3 := hid ((Gr.refl W2).drew.ext y3)
    refine hK.out (fun W => Gr W2 W) _ _ G3.out (fun _ g => g) (fun _ => ?_)
    clear hK K
    (try simp only [AP])
    refine wpAnyW_go [(10, true), (11, true), (12, true)] hcl1 (by kernel_rfl) (fun _ _ d _ _ h => by cases d <;> exact h) G3.out ?_
    refine pm_call rfl (by rfl) (fun K hK => ?_)
    go_simp
    refine hK.out (fun W => Gr W2 W) _ _ (G3.out.alloc _) (fun _ g => g) (fun _ => ?_)
    clear hK K
    (try simp only [AP])
    have HBB := hid (heap_alloc_new y3.val (.cells #[.int .i64 t0, .int .i64 t1, .int .i64 t2, .int .i64 t3] 84))
    have G4 := hid (G3.out.alloc (.cells #[.int .i64 t0, .int .i64 t1, .int .i64 t2, .int .i64 t3] 84))
    obtain ⟨W4, hW4⟩ : ∃ W4, y3.val.alloc (.cells #[.int .i64 t0, .int .i64 t1, .int .i64 t2, .int .i64 t3] 84) = W4 := ⟨_, rfl⟩
    obtain ⟨B4, hB4⟩ : ∃ B4, y3.val.heap.size = B4 := ⟨_, rfl⟩
    rw [hW4] at HBB G4
    rw [hB4] at HBB
    rw [hW4, hB4]
    clear hW4 hB4
    refine pm_law rfl (by rfl) (fun K hK => ?_)
    obtain ⟨cap, W5, hrun, g5, hcap, hr5⟩ := run_append_full (P := Tryz.prog) (t := 198) (e := 84) Tryz.underlying198 hi0 hz0 hz1 (by omega) (by omega) (HRD.out.up (Gr.up G4.out M)) HLEN.out (B := B4) (e' := 84) (news := [.int .i64 t0, .int .i64 t1, .int .i64 t2, .int .i64 t3]) HBB.out rfl (by intro u hu; simp only [List.mem_cons, List.not_mem_nil, or_false] at hu; rcases hu with rfl | rfl | rfl | rfl <;> rfl) (by omega) (HMM.out _ G4.out)
    refine step_append_at (by rfl) (.tmp 18) (.tmp 20) 198 198 (by rfl) _ _ (by rfl) (by rfl) (hrun _) ?_
    have G5 := hid (G4.out.trans g5)
    have HT5 := hid (HTS.out W5 _ cap hr5 hcap)
    refine hK.out (fun W => Gr W2 W) _ _ G5.out (fun _ g => g) (fun _ => ?_)
    clear hK K hrun g5 hr5
    (try simp only [AP])
    refine pm_last rfl (by rfl) (fun K hK => ?_)
    go_simp
    go_at_call 140
    refine (HSET.out W5 G5.out _ HT5.out).mono ?_
    rintro en w6 ⟨rfl, hl6, hm6⟩
    have F6 := hid (FIN.out _ _ _ G5.out ⟨rfl, hl6, hm6⟩)
    clear hl6 hm6
    refine hK.out _ _ ?_
    clear hK K
    go_wp2_with fail
    go_ret
    exact F6.out
  · refine wpOpW_step rfl (by rfl) (fun K hK => ?_)
    go_simp
    refine hK.out (fun W => Gr W2 W) _ _ ((Gr.refl W2).alloc _).drew (fun _ g => g) (fun _ => ?_)
    clear hK K
    (try simp only [AP])
    have G3 := hid ((Gr.refl W2).alloc (.cells #[.int .i64 t0, .int .i64 t1, .int .i64 t2, .int .i64 t3] 84)).drew
    have HBC : (W2.alloc (.cells #[.int .i64 t0, .int .i64 t1, .int .i64 t2, .int .i64 t3] 84)).drew.heap[W2.heap.size]? = some (.cells #[.int .i64 t0, .int .i64 t1, .int .i64 t2, .int .i64 t3] 84 (0, 0)) := heap_alloc_new W2 (.cells #[.int .i64 t0, .int .i64 t1, .int .i64 t2, .int .i64 t3] 84)
    obtain ⟨W3, hW3⟩ : ∃ W3, (W2.alloc (.cells #[.int .i64 t0, .int .i64 t1, .int .i64 t2, .int .i64 t3] 84)).drew = W3 := ⟨_, rfl⟩
    rw [hW3] at HBC G3
    rw [hW3]
    clear hW3
    refine wpAnyW_go [(8, true), (11, true), (12, true)] hcl1 (by kernel_rfl) (fun _ _ d _ _ h => by cases d <;> exact h) G3.out ?_
    refine pm_call rfl (by rfl) (fun K hK => ?_)
    go_simp
    go_at_call 189
    refine (clipT_any A n c _ hc hAc).mono ?_
    rintro en _ ⟨rfl, y4, rfl⟩
    have G4 := hid (G3.out.ext y4)
    have HBB := hid ((y4.gr.block W2.heap.size (block_lt HBC)).trans HBC)
    clear HBC
    obtain ⟨W4, hW4⟩ : ∃ W4, y4.val = W4 := ⟨_, rfl⟩
    obtain ⟨B4, hB4⟩ : ∃ B4, W2.heap.size = B4 := ⟨_, rfl⟩
    rw [hW4] at HBB G4
    rw [hB4] at HBB
    refine hK.out (fun W => Gr W2 W) _ _ (hW4 ▸ G4.out) (fun _ g => g) (fun _ => ?_)
    clear hK K
    (try simp only [AP])
    rw [hW4, hB4]
    clear hW4 hB4
    refine pm_law rfl (by rfl) (fun K hK => ?_)
    obtain ⟨cap, W5, hrun, g5, hcap, hr5⟩ := run_append_full (P := Tryz.prog) (t := 198) (e := 84) Tryz.underlying198 hi0 hz0 hz1 (by omega) (by omega) (HRD.out.up (Gr.up G4.out M)) HLEN.out (B := B4) (e' := 84) (news := [.int .i64 t0, .int .i64 t1, .int .i64 t2, .int .i64 t3]) HBB.out rfl (by intro u hu; simp only [List.mem_cons, List.not_mem_nil, or_false] at hu; rcases hu with rfl | rfl | rfl | rfl <;> rfl) (by omega) (HMM.out _ G4.out)
    refine step_append_at (by rfl) (.tmp 18) (.tmp 20) 198 198 (by rfl) _ _ (by rfl) (by rfl) (hrun _) ?_
    have G5 := hid (G4.out.trans g5)
    have HT5 := hid (HTS.out W5 _ cap hr5 hcap)
    refine hK.out (fun W => Gr W2 W) _ _ G5.out (fun _ g => g) (fun _ => ?_)
    clear hK K hrun g5 hr5
    (try simp only [AP])
    refine pm_last rfl (by rfl) (fun K hK => ?_)
    go_simp
    go_at_call 140
    refine (HSET.out W5 G5.out _ HT5.out).mono ?_
    rintro en w6 ⟨rfl, hl6, hm6⟩
    have F6 := hid (FIN.out _ _ _ G5.out ⟨rfl, hl6, hm6⟩)
    clear hl6 hm6
    refine hK.out _ _ ?_
    clear hK K
    go_wp2_with fail
    go_ret
    exact F6.out
section
variable {w w' : World} {M S : Bl} {k kd ka md ma mr kh : Nat} {hv hv' : Value} {E : ES}
theorem EngP.nes (h : EngP w M S k E kd ka md ma mr kh hv) : k ≠ mr ∧ k ≠ md ∧ k ≠ ma ∧ kh ≠ mr ∧ kh ≠ md ∧ kh ≠ ma ∧ k ≠ kh ∧ (∀ b, hv.ownBlock = some b → b ≠ mr ∧ b ≠ md ∧ b ≠ ma ∧ b ≠ k ∧ b < w.heap.size) := by
  obtain ⟨kv, h1, _⟩ := h.r
  obtain ⟨kvd, h2, _⟩ := h.d.map
  obtain ⟨kva, h3, _⟩ := h.a.map
  refine ⟨(ne_map_cells h1 h.cell).symm, (ne_map_cells h2 h.cell).symm, (ne_map_cells h3 h.cell).symm, (ne_map_cells h1 h.h.cell).symm, (ne_map_cells h2 h.h.cell).symm, (ne_map_cells h3 h.h.cell).symm, ne_types h.cell h.h.cell (by decide), fun b hb => ?_⟩
  rcases h.h.row.2 with ⟨e, _⟩ | ⟨g', cap, cur, e, _, hh, _⟩
  · rw [e] at hb; cases hb
  · rw [e] at hb
    injection hb with hb
    subst hb
    exact ⟨(ne_map_cells h1 hh).symm, (ne_map_cells h2 hh).symm, (ne_map_cells h3 hh).symm, (ne_types h.cell hh (by decide)).symm, block_lt hh⟩
theorem EngP.setRuns (h : EngP w M S k E kd ka md ma mr kh hv) (m : Mod (fun b => b = mr) w w') {kv : List (Int × Value)} {runs : List (Int × RunS)} (h1 : MI w' mr kv) (h2 : Rel (fun r v => RunM w' M r v) runs kv) : EngP w' M S k { E with runs := runs } kd ka md ma mr kh hv := by
  obtain ⟨n1, n2, n3, n4, n5, n6, n7, n8⟩ := h.nes
  have u : Up M w M w' := Mod.up m (fun b _ e => e ▸ h.SM _ h.smr)
  have nd : kd ≠ mr := fun e => h.nd (e ▸ h.SM _ h.smr)
  have na : ka ≠ mr := fun e => h.na (e ▸ h.SM _ h.smr)
  exact ⟨(m.block k (block_lt h.cell) n1).trans h.cell, h.d.up u (m.block kd h.d.lt.1 nd) (m.block md h.d.lt.2 h.ne2), h.a.up u (m.block ka h.a.lt.1 na) (m.block ma h.a.lt.2 h.ne3), ⟨kv, h1, h2⟩, h.h.mod m n4 (fun b e => (n8 b e).1), h.sk, h.smd, h.sma, h.smr, h.skh, h.shv, h.nd, h.na, h.ne1, h.ne2, h.ne3, h.SM, fun b hb => Nat.lt_of_lt_of_le (h.lt b hb) m.size⟩
theorem EngP.setDec (h : EngP w M S k E kd ka md ma mr kh hv) (m : Mod (fun b => b = md) w w') {dec : Rows} (h1 : ListR w' M kd md dec) : EngP w' M S k { E with dec := dec } kd ka md ma mr kh hv := by
  obtain ⟨n1, n2, n3, n4, n5, n6, n7, n8⟩ := h.nes
  have u : Up M w M w' := Mod.up m (fun b _ e => e ▸ h.SM _ h.smd)
  have na : ka ≠ md := fun e => h.na (e ▸ h.SM _ h.smd)
  obtain ⟨kv, h3, h4⟩ := h.r
  exact ⟨(m.block k (block_lt h.cell) n2).trans h.cell, h1, h.a.up u (m.block ka h.a.lt.1 na) (m.block ma h.a.lt.2 h.ne1.symm), ⟨kv, h3.keep (m.block mr h.mrlt h.ne2.symm), h4.mono fun a v hr => hr.up u⟩, h.h.mod m n5 (fun b e => (n8 b e).2.1), h.sk, h.smd, h.sma, h.smr, h.skh, h.shv, h.nd, h.na, h.ne1, h.ne2, h.ne3, h.SM, fun b hb => Nat.lt_of_lt_of_le (h.lt b hb) m.size⟩
theorem EngP.setAct (h : EngP w M S k E kd ka md ma mr kh hv) (m : Mod (fun b => b = ma) w w') {act : Rows} (h1 : ListR w' M ka ma act) : EngP w' M S k { E with act := act } kd ka md ma mr kh hv := by
  obtain ⟨n1, n2, n3, n4, n5, n6, n7, n8⟩ := h.nes
  have u : Up M w M w' := Mod.up m (fun b _ e => e ▸ h.SM _ h.sma)
  have nd : kd ≠ ma := fun e => h.nd (e ▸ h.SM _ h.sma)
  obtain ⟨kv, h3, h4⟩ := h.r
  exact ⟨(m.block k (block_lt h.cell) n3).trans h.cell, h.d.up u (m.block kd h.d.lt.1 nd) (m.block md h.d.lt.2 h.ne1), h1, ⟨kv, h3.keep (m.block mr h.mrlt h.ne3.symm), h4.mono fun a v hr => hr.up u⟩, h.h.mod m n6 (fun b e => (n8 b e).2.2.1), h.sk, h.smd, h.sma, h.smr, h.skh, h.shv, h.nd, h.na, h.ne1, h.ne2, h.ne3, h.SM, fun b hb => Nat.lt_of_lt_of_le (h.lt b hb) m.size⟩
def own (M : Bl) (v : Value) : Bl := fun b => M b ∨ v.ownBlock = some b
theorem EngP.setDue (h : EngP w M S k E kd ka md ma mr kh hv) {due : List It} (m : Mod (fun b => b = kh ∨ some b = hv.ownBlock) w w') (h1 : HB 0 w' kh hv' due) (ho : hv'.ownBlock = hv.ownBlock ∨ ∃ b, hv'.ownBlock = some b ∧ w.heap.size ≤ b) : EngP w' (own M hv') (own S hv') k { E with due := due } kd ka md ma mr kh hv' := by
  obtain ⟨n1, n2, n3, n4, n5, n6, n7, n8⟩ := h.nes
  have hold : ∀ b, b < w.heap.size → own M hv' b → M b := fun b hb e => by
    rcases e with e | e
    · exact e
    · rcases ho with ho | ⟨c, ho, hc⟩
      · rw [ho] at e; exact h.SM b (h.shv b e)
      · rw [ho] at e; injection e with e; omega
  have u : Up M w (own M hv') w' := ⟨m.mono fun b _ e => by
    rcases e with rfl | e
    · exact h.SM _ h.skh
    · exact h.SM b (h.shv b e.symm), hold⟩
  have ns : ∀ b, b ≠ kh → (∀ c, hv.ownBlock = some c → c ≠ b) → ¬ (b = kh ∨ some b = hv.ownBlock) := fun b h1 h2 e => by
    rcases e with e | e
    · exact h1 e
    · exact h2 b e.symm rfl
  have nd : ¬ (kd = kh ∨ some kd = hv.ownBlock) := ns kd (fun e => h.nd (e ▸ h.SM _ h.skh)) (fun c e1 e2 => h.nd (e2 ▸ h.SM c (h.shv c e1)))
  have na : ¬ (ka = kh ∨ some ka = hv.ownBlock) := ns ka (fun e => h.na (e ▸ h.SM _ h.skh)) (fun c e1 e2 => h.na (e2 ▸ h.SM c (h.shv c e1)))
  obtain ⟨kv, h3, h4⟩ := h.r
  exact ⟨(m.block k (block_lt h.cell) (ns k n7 (fun c e => (n8 c e).2.2.2.1))).trans h.cell, h.d.up u (m.block kd h.d.lt.1 nd) (m.block md h.d.lt.2 (ns md n5.symm (fun c e => (n8 c e).2.1))), h.a.up u (m.block ka h.a.lt.1 na) (m.block ma h.a.lt.2 (ns ma n6.symm (fun c e => (n8 c e).2.2.1))),
    ⟨kv, h3.keep (m.block mr h.mrlt (ns mr n4.symm (fun c e => (n8 c e).1))), h4.mono fun a v hr => hr.up u⟩, h1, .inl h.sk, .inl h.smd, .inl h.sma, .inl h.smr, .inl h.skh, fun b e => .inr e, fun e => h.nd (hold kd h.d.lt.1 e), fun e => h.na (hold ka h.a.lt.1 e), h.ne1, h.ne2, h.ne3,
    fun b e => e.imp (h.SM b) id, fun b e => by
      rcases e with e | e
      · exact Nat.lt_of_lt_of_le (h.lt b e) m.size
      · rcases h1.row.2 with ⟨e2, _⟩ | ⟨g', cap, cur, e2, _, hh, _⟩
        · rw [e2] at e; cases e
        · rw [e2] at e; injection e with e; subst e; exact block_lt hh⟩
theorem EngP.retDue (h : EngP w M S k E kd ka md ma mr kh hv) {due : List It} {r : Value} {vok : Value} {vfull : Value → Prop} {e : Ending} (hr : RetH 0 kh hv due r w e w') : RetS M S k (some { E with due := due }) vok vfull w (.returned vok) w' := by
  obtain ⟨v', _, hb, hm, ho⟩ := hr
  refine ⟨hm.mono fun b _ e => ?_, rfl, own M v', own S v', ⟨kd, ka, md, ma, mr, kh, v', h.setDue hm hb ho⟩, fun b hb e => ?_, fun b hb e => ?_, fun b e => .inl e⟩
  · rcases e with rfl | e
    · exact h.skh
    · exact h.shv b e.symm
  · rcases e with e | e
    · exact e
    · rcases ho with ho | ⟨c, ho, hc⟩
      · rw [ho] at e; exact h.shv b e
      · rw [ho] at e; injection e with e; omega
  · rcases e with e | e
    · exact e
    · rcases ho with ho | ⟨c, ho, hc⟩
      · rw [ho] at e; exact h.SM b (h.shv b e)
      · rw [ho] at e; injection e with e; omega
end
def outV (o : Out) (d : Value) : Value := .agg #[.int .i64 o.kind, .int .i64 o.list, .int .i64 o.ref, .int .i64 o.turn, .int .i64 o.tick, .int .i64 o.id, .int .i64 o.n, d]
def vF : Value → Prop := fun v => v = .bool false
set_option maxHeartbeats 4000000 in
theorem out_k1 (k : Nat) (E : ES) (id n now : Int) (o : Out) (d : Value) (M S : Bl) (w : World) (h : EngR w M S k E) (hE : EOk E) (hd : ∃ A l c, d = .slice A l c) (hk : o.kind = 1) :
    Calls Tryz.prog 117 #[.pointer (some ⟨k, 0, none⟩), .int .i64 id, .int .i64 n, .int .i64 now, outV o d] w (RetS M S k (out0 E id n o) (.bool true) vF w) := by
  obtain ⟨kd, ka, md, ma, mr, kh, hv, h⟩ := h
  have H := hid h
  obtain ⟨e0, e1, e2, e3, e4, e5, e6, hkl⟩ := h.cells
  have hl := rowOf_len hE.d o.list
  have HP := hid (fun W (y : Gr w W) => pushL_any kd md E.dec o.list ⟨id, n, o.ref, o.turn⟩ M W (h.gr y).d (h.SM _ h.smd) (h.gr y).lt (by omega))
  have hml := h.d.lt.2
  have hkm := h.nes.2.1
  unfold out0
  rw [if_pos hk]
  rcases o with ⟨ok, ol, or_, ot, oa, oi, on, od⟩
  obtain ⟨Ad, dl, cd, rfl⟩ := hd
  simp only at hk
  subst hk
  clear h hl
  simp only [outV, tkV] at *
  obtain ⟨R, hR⟩ : ∃ R, pushR E.dec ol ⟨id, n, or_, ot⟩ = R := ⟨_, rfl⟩
  rw [hR] at HP ⊢
  clear hR
  go_enter Tryz.func117, Tryz.ntmps117
  go_wp2_with fail
  have G1 := hid ((Gr.refl w).alloc (.cells #[.int .i64 1, .int .i64 ol, .int .i64 or_, .int .i64 ot, .int .i64 oa, .int .i64 oi, .int .i64 on, .slice Ad dl cd] 188))
  have HB1 := hid (heap_alloc_new w (.cells #[.int .i64 1, .int .i64 ol, .int .i64 or_, .int .i64 ot, .int .i64 oa, .int .i64 oi, .int .i64 on, .slice Ad dl cd] 188))
  obtain ⟨W1, hW1⟩ : ∃ W1, w.alloc (.cells #[.int .i64 1, .int .i64 ol, .int .i64 or_, .int .i64 ot, .int .i64 oa, .int .i64 oi, .int .i64 on, .slice Ad dl cd] 188) = W1 := ⟨_, rfl⟩
  rw [hW1] at G1 HB1 ⊢
  clear hW1
  have hl1 : w.heap.size < W1.heap.size := block_lt HB1.out
  obtain ⟨b1, b2, b3⟩ : W1.cell? ⟨w.heap.size, 1, none⟩ = some (.int .i64 ol) ∧ W1.cell? ⟨w.heap.size, 2, none⟩ = some (.int .i64 or_) ∧ W1.cell? ⟨w.heap.size, 3, none⟩ = some (.int .i64 ot) := by
    refine ⟨?_, ?_, ?_⟩ <;> simp [World.cell?, HB1.out]
  have f0 : W1.cell? ⟨k, 0, none⟩ = some (.pointer (some ⟨kd, 0, none⟩)) := (G1.out.cell (p := ⟨k, 0, none⟩) hkl).trans e0
  have f1 : W1.cell? ⟨k, 1, none⟩ = some (.pointer (some ⟨ka, 0, none⟩)) := (G1.out.cell (p := ⟨k, 1, none⟩) hkl).trans e1
  have hk1 : k < W1.heap.size := Nat.lt_of_lt_of_le hkl G1.out.size
  have hsame : ∀ W, Mod (fun b => b = md) W1.drew W → W.heap[k]? = W1.heap[k]? ∧ W.heap[w.heap.size]? = W1.heap[w.heap.size]? := fun W m => ⟨m.block k hk1 hkm, m.block _ hl1 (by show ¬ w.heap.size = md; omega)⟩
  have HS := hid hsame
  clear hsame
  refine wp_region_planM [(0, false), (1, false), (2, false), (3, false), (4, false), (5, false), (6, false), (7, false), (8, false), (9, false), (10, false), (11, false), (12, false), (13, false), (14, true), (15, false), (16, true)] (fun W => W.heap[k]? = W1.heap[k]? ∧ W.heap[w.heap.size]? = W1.heap[w.heap.size]?) (by kernel_rfl) (by kernel_rfl) (fun _ _ d _ _ h => by cases d <;> exact h) ⟨rfl, rfl⟩ (fun _ => ?_)
  iterate 14 (refine pm_take (v := ?_) rfl (by rfl) ?_ ?_; rotate_left; (focus (intro W9 hW9; have q0 := (World.cell?_of_block (a := ⟨k, 0, none⟩) hW9.1).trans f0; have q1 := (World.cell?_of_block (a := ⟨k, 1, none⟩) hW9.1).trans f1; have q2 := (World.cell?_of_block (a := ⟨w.heap.size, 1, none⟩) hW9.2).trans b1; have q3 := (World.cell?_of_block (a := ⟨w.heap.size, 2, none⟩) hW9.2).trans b2; have q4 := (World.cell?_of_block (a := ⟨w.heap.size, 3, none⟩) hW9.2).trans b3; clear hW9; go_simp; (try with_reducible rfl); done)); (try simp only [AP]))
  refine pm_call rfl (by rfl) (fun K hK => ?_)
  go_simp
  go_at_call 159
  refine (HP.out _ (G1.out.drew)).mono ?_
  cases R with
  | none =>
    rintro en w2 ⟨rfl, g2⟩
    have G2 := hid ((G1.out.drew).trans g2)
    refine hK.out (fun W => W.heap[k]? = W1.heap[k]? ∧ W.heap[w.heap.size]? = W1.heap[w.heap.size]?) _ _ (HS.out _ (g2.mod _)) (fun _ g => g) (fun _ => ?_)
    clear hK K
    (try simp only [AP])
    iterate 1 (refine pm_take (v := ?_) rfl (by rfl) ?_ ?_; rotate_left; (focus (intro W9 hW9; clear hW9; go_simp; (try with_reducible rfl); done)); (try simp only [AP]))
    refine pm_last rfl (by rfl) (fun K hK => ?_)
    go_simp
    refine hK.out _ _ ?_
    clear hK K
    go_wp2_with fail
    go_ret
    exact RetS.full (G2.out.mod S) rfl
  | some m' =>
    rintro en w2 ⟨rfl, hl2, hm2⟩
    have P2 := hid ((H.out.gr (G1.out.drew)).setDec hm2 hl2)
    have M2 := hid (((G1.out.drew).mod S).trans hm2 (fun b _ e => e ▸ H.out.smd))
    refine hK.out (fun W => W.heap[k]? = W1.heap[k]? ∧ W.heap[w.heap.size]? = W1.heap[w.heap.size]?) _ _ (HS.out _ (hm2)) (fun _ g => g) (fun _ => ?_)
    clear hK K hl2 hm2
    (try simp only [AP])
    iterate 1 (refine pm_take (v := ?_) rfl (by rfl) ?_ ?_; rotate_left; (focus (intro W9 hW9; clear hW9; go_simp; (try with_reducible rfl); done)); (try simp only [AP]))
    refine pm_last rfl (by rfl) (fun K hK => ?_)
    go_simp
    refine hK.out _ _ ?_
    clear hK K
    go_wp2_with fail
    go_ret
    exact RetS.done ⟨kd, ka, md, ma, mr, kh, hv, P2.out⟩ M2.out
set_option maxHeartbeats 4000000 in
theorem out_k2 (k : Nat) (E : ES) (id n now : Int) (o : Out) (d : Value) (M S : Bl) (w : World) (h : EngR w M S k E) (hE : EOk E) (hd : ∃ A l c, d = .slice A l c) (hk : o.kind = 2) :
    Calls Tryz.prog 117 #[.pointer (some ⟨k, 0, none⟩), .int .i64 id, .int .i64 n, .int .i64 now, outV o d] w (RetS M S k (out0 E id n o) (.bool true) vF w) := by
  obtain ⟨kd, ka, md, ma, mr, kh, hv, h⟩ := h
  have H := hid h
  obtain ⟨e0, e1, e2, e3, e4, e5, e6, hkl⟩ := h.cells
  have hl := rowOf_len hE.a.toROk o.list
  have HP := hid (fun W (y : Gr w W) => pushL_any ka ma E.act o.list ⟨id, n, o.ref, (-1)⟩ M W (h.gr y).a (h.SM _ h.sma) (h.gr y).lt (by omega))
  have hml := h.a.lt.2
  have hkm := h.nes.2.2.1
  unfold out0
  rw [if_neg (by omega), if_pos hk]
  rcases o with ⟨ok, ol, or_, ot, oa, oi, on, od⟩
  obtain ⟨Ad, dl, cd, rfl⟩ := hd
  simp only at hk
  subst hk
  clear h hl
  simp only [outV, tkV] at *
  obtain ⟨R, hR⟩ : ∃ R, pushR E.act ol ⟨id, n, or_, (-1)⟩ = R := ⟨_, rfl⟩
  rw [hR] at HP ⊢
  clear hR
  go_enter Tryz.func117, Tryz.ntmps117
  go_wp2_with fail
  have G1 := hid ((Gr.refl w).alloc (.cells #[.int .i64 2, .int .i64 ol, .int .i64 or_, .int .i64 ot, .int .i64 oa, .int .i64 oi, .int .i64 on, .slice Ad dl cd] 188))
  have HB1 := hid (heap_alloc_new w (.cells #[.int .i64 2, .int .i64 ol, .int .i64 or_, .int .i64 ot, .int .i64 oa, .int .i64 oi, .int .i64 on, .slice Ad dl cd] 188))
  obtain ⟨W1, hW1⟩ : ∃ W1, w.alloc (.cells #[.int .i64 2, .int .i64 ol, .int .i64 or_, .int .i64 ot, .int .i64 oa, .int .i64 oi, .int .i64 on, .slice Ad dl cd] 188) = W1 := ⟨_, rfl⟩
  rw [hW1] at G1 HB1 ⊢
  clear hW1
  have hl1 : w.heap.size < W1.heap.size := block_lt HB1.out
  obtain ⟨b1, b2, b3⟩ : W1.cell? ⟨w.heap.size, 1, none⟩ = some (.int .i64 ol) ∧ W1.cell? ⟨w.heap.size, 2, none⟩ = some (.int .i64 or_) ∧ W1.cell? ⟨w.heap.size, 3, none⟩ = some (.int .i64 ot) := by
    refine ⟨?_, ?_, ?_⟩ <;> simp [World.cell?, HB1.out]
  have f0 : W1.cell? ⟨k, 0, none⟩ = some (.pointer (some ⟨kd, 0, none⟩)) := (G1.out.cell (p := ⟨k, 0, none⟩) hkl).trans e0
  have f1 : W1.cell? ⟨k, 1, none⟩ = some (.pointer (some ⟨ka, 0, none⟩)) := (G1.out.cell (p := ⟨k, 1, none⟩) hkl).trans e1
  have hk1 : k < W1.heap.size := Nat.lt_of_lt_of_le hkl G1.out.size
  have hsame : ∀ W, Mod (fun b => b = ma) W1.drew W → W.heap[k]? = W1.heap[k]? ∧ W.heap[w.heap.size]? = W1.heap[w.heap.size]? := fun W m => ⟨m.block k hk1 hkm, m.block _ hl1 (by show ¬ w.heap.size = ma; omega)⟩
  have HS := hid hsame
  clear hsame
  refine wp_region_planM [(0, false), (1, false), (2, false), (3, false), (4, false), (5, false), (6, false), (7, false), (8, false), (9, false), (10, false), (11, false), (12, true), (13, false), (14, true)] (fun W => W.heap[k]? = W1.heap[k]? ∧ W.heap[w.heap.size]? = W1.heap[w.heap.size]?) (by kernel_rfl) (by kernel_rfl) (fun _ _ d _ _ h => by cases d <;> exact h) ⟨rfl, rfl⟩ (fun _ => ?_)
  iterate 12 (refine pm_take (v := ?_) rfl (by rfl) ?_ ?_; rotate_left; (focus (intro W9 hW9; have q0 := (World.cell?_of_block (a := ⟨k, 0, none⟩) hW9.1).trans f0; have q1 := (World.cell?_of_block (a := ⟨k, 1, none⟩) hW9.1).trans f1; have q2 := (World.cell?_of_block (a := ⟨w.heap.size, 1, none⟩) hW9.2).trans b1; have q3 := (World.cell?_of_block (a := ⟨w.heap.size, 2, none⟩) hW9.2).trans b2; have q4 := (World.cell?_of_block (a := ⟨w.heap.size, 3, none⟩) hW9.2).trans b3; clear hW9; go_simp; (try with_reducible rfl); done)); (try simp only [AP]))
  refine pm_call rfl (by rfl) (fun K hK => ?_)
  go_simp
  go_at_call 159
  refine (HP.out _ (G1.out.drew)).mono ?_
  cases R with
  | none =>
    rintro en w2 ⟨rfl, g2⟩
    have G2 := hid ((G1.out.drew).trans g2)
    refine hK.out (fun W => W.heap[k]? = W1.heap[k]? ∧ W.heap[w.heap.size]? = W1.heap[w.heap.size]?) _ _ (HS.out _ (g2.mod _)) (fun _ g => g) (fun _ => ?_)
    clear hK K
    (try simp only [AP])
    iterate 1 (refine pm_take (v := ?_) rfl (by rfl) ?_ ?_; rotate_left; (focus (intro W9 hW9; clear hW9; go_simp; (try with_reducible rfl); done)); (try simp only [AP]))
    refine pm_last rfl (by rfl) (fun K hK => ?_)
    go_simp
    refine hK.out _ _ ?_
    clear hK K
    go_wp2_with fail
    go_ret
    exact RetS.full (G2.out.mod S) rfl
  | some m' =>
    rintro en w2 ⟨rfl, hl2, hm2⟩
    have P2 := hid ((H.out.gr (G1.out.drew)).setAct hm2 hl2)
    have M2 := hid (((G1.out.drew).mod S).trans hm2 (fun b _ e => e ▸ H.out.sma))
    refine hK.out (fun W => W.heap[k]? = W1.heap[k]? ∧ W.heap[w.heap.size]? = W1.heap[w.heap.size]?) _ _ (HS.out _ (hm2)) (fun _ g => g) (fun _ => ?_)
    clear hK K hl2 hm2
    (try simp only [AP])
    iterate 1 (refine pm_take (v := ?_) rfl (by rfl) ?_ ?_; rotate_left; (focus (intro W9 hW9; clear hW9; go_simp; (try with_reducible rfl); done)); (try simp only [AP]))
    refine pm_last rfl (by rfl) (fun K hK => ?_)
    go_simp
    refine hK.out _ _ ?_
    clear hK K
    go_wp2_with fail
    go_ret
    exact RetS.done ⟨kd, ka, md, ma, mr, kh, hv, P2.out⟩ M2.out
end Go.Proofs.YtniknicnnaiilaaGreat
end
