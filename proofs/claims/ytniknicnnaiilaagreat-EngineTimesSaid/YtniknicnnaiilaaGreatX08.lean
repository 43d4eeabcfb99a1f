/- Lemmas: what the functions of the engine answer, and which blocks they write. -/
import Derived.ChangeKeysEq
import Derived.DeepKeys4
import Derived.Laws.StructEq
import Derived.Test.YtniknicnnaiilaaGreatX07
section
namespace Go.Proofs.YtniknicnnaiilaaGreat
set_option maxRecDepth 100000
open Go.RowKit Go.Ext Go.BigFrame Go.Maps Go.MapKept
attribute [local go_sem] Ext.cell Ext.frozen Ext.lt Ext.le s1 s2 s3 s4 s5 s6 t1 t2 t3 t4 t5 t6
attribute [local go_sem ↓] Go.wp_at_zero Go.wp_at_succ
theorem wake_any (PUT : PutAny) (k mb : Nat) (F : FS) (now : Int) (M : Bl) (w : World) (h : FW w M k mb F) : Calls Tryz.prog 144 #[.pointer (some ⟨k, 0, none⟩), .int .i64 now] w (RetO M k mb (wakeF F now) w) := by
  obtain ⟨A, c, hc, hf, hr, hk⟩ := h.r.parts
  obtain ⟨c0, c1, c2, c3, c4, c5, c6, c7, c8, c9, c10, c11⟩ := hf
  have H := hid h
  have HP := hid (schedule_any PUT k mb F now M w h)
  clear h hr hc
  unfold wakeF
  by_cases ht : F.task = 0
  · rw [if_pos ht]
    go_enter Tryz.func144, Tryz.ntmps144
    go_wp2_with (go_at_call 152; refine HP.out.mono ?_; rintro en w2 ⟨A2, cc2, rfl, hr2, ho2, hm2⟩)
    go_ret
    exact ⟨A2, cc2, rfl, hr2, ho2, hm2⟩
  · rw [if_neg ht]
    go_enter Tryz.func144, Tryz.ntmps144
    go_wp2_with fail
    go_ret
    exact ⟨none, 0, rfl, H.out.r, RecsM.none _ _ _, (Gr.refl w).mod _⟩
theorem statusL_app (l : List Ev) (e : Ev) : statusL (l ++ [e]) = statusK e.kind := by
  unfold statusL
  rw [List.getLast?_concat]
set_option maxHeartbeats 1000000 in
theorem close_any (PUT : PutAny) (k mb : Nat) (F : FS) (kind now : Int) (d : Value) (data : List UInt8) (M : Bl) (w : World) (h : FW w M k mb F) (hkind : 19 ≤ kind) (hd : BysM w M d data) :
    Calls Tryz.prog 147 #[.pointer (some ⟨k, 0, none⟩), .int .i64 kind, d, .int .i64 now] w (RetO M k mb (closeF F kind data now) w) := by
  have H := hid h
  have HD := hid hd
  obtain ⟨Ad, cd, rfl⟩ := hd.shape
  have HP := hid (show Calls Tryz.prog 143 #[.pointer (some ⟨k, 0, none⟩), .agg #[.int .i64 kind, .int .i64 now, .int .i64 0, .int .i64 0, .int .i64 0, .int .i64 0, .slice Ad data.length cd]] w _ from
    PUT k mb F ⟨kind, now, 0, 0, 0, 0, data⟩ (.slice Ad data.length cd) M w h.r h.hk h.hmb h.ne h.hM hd.bys (by have := h.l; omega) h.i (by dsimp only; omega) (by dsimp only; omega))
  have HL := hid h.l
  clear h hd
  unfold closeF
  by_cases h19 : kind = 19
  · subst h19
    rw [if_pos rfl]
    go_enter Tryz.func147, Tryz.ntmps147
    go_wp2_with (first
      | (go_at_call 143
         refine HP.out.mono ?_
         rintro en w2 ⟨rfl, hr2, hm2⟩
         have HR2 := hid hr2
         have HM2 := hid hm2
         have HU2 := hid (Mod.up (M := M) hm2 (fun b _ e => by rcases e with rfl | rfl; exact H.out.hk; exact H.out.hmb))
         clear hr2 hm2)
      | (go_at_call 91
         refine (clone_any _ data _ (HD.out.up HU2.out).bys).mono ?_
         rintro en _ ⟨A3, c3, y3, rfl, rfl, hl3, ho3⟩
         have HO3 := hid ho3
         clear ho3))
    go_ret
    have hM3 : ∀ b, M b → b < w2.heap.size := fun b e => Nat.lt_of_lt_of_le (H.out.hM b e) HM2.out.size
    have g : Gr w2 (y3.val.alloc (.cells (recC (outR ⟨8, 0, 0, 0, 0, 0, 0, data⟩) (.slice A3 data.length c3)).toArray 188)) := y3.gr.alloc _
    refine ⟨some ⟨y3.val.heap.size, 0, none⟩, 1, rfl, HR2.out.gr g, recs_one (d := .slice A3 data.length c3) (heap_alloc_new y3.val _) (fun e => ?_) ?_, HM2.out.gr g⟩
    · have := hM3 _ e; have := y3.gr.size; omega
    · exact (RetB.m HO3.out hl3 hM3).up (Gr.up ((Gr.refl _).alloc _) M)
  · rw [if_neg h19]
    go_enter Tryz.func147, Tryz.ntmps147
    go_wp2_with (first
      | (go_at_call 143
         refine HP.out.mono ?_
         rintro en w2 ⟨rfl, hr2, hm2⟩
         have HR2 := hid hr2
         have HM2 := hid hm2
         have HU2 := hid (Mod.up (M := M) hm2 (fun b _ e => by rcases e with rfl | rfl; exact H.out.hk; exact H.out.hmb))
         have HS := hid (statusO_any k mb _ M w2 hr2 (by rw [putF_len]; have := HL.out; omega))
         rw [putF_l, statusL_app] at HS
         clear hr2 hm2)
      | (go_at_call 65
         refine HS.out.mono ?_
         rintro en _ ⟨rfl, y2, rfl⟩)
      | (go_at_call 91
         refine (clone_any _ data _ ((HD.out.up HU2.out).bys.gr y2.gr)).mono ?_
         rintro en _ ⟨A3, c3, y3, rfl, rfl, hl3, ho3⟩
         have HO3 := hid ho3
         clear ho3))
    go_ret
    have hM3 : ∀ b, M b → b < w2.heap.size := fun b e => Nat.lt_of_lt_of_le (H.out.hM b e) HM2.out.size
    have hM4 : ∀ b, M b → b < y2.val.heap.size := fun b e => Nat.lt_of_lt_of_le (hM3 b e) y2.gr.size
    have g : Gr w2 (y3.val.alloc (.cells (recC (outR ⟨7, 0, 0, 0, 0, 0, statusK kind, data⟩) (.slice A3 data.length c3)).toArray 188)) := (y2.gr.ext y3).alloc _
    refine ⟨some ⟨y3.val.heap.size, 0, none⟩, 1, rfl, HR2.out.gr g, recs_one (d := .slice A3 data.length c3) (heap_alloc_new y3.val _) (fun e => ?_) ?_, HM2.out.gr g⟩
    · have := hM4 _ e; have := y3.gr.size; omega
    · exact (RetB.m HO3.out hl3 hM4).up (Gr.up ((Gr.refl _).alloc _) M)
theorem eqm155 (b : Nat) (w : World) : (binOp .eql 155 (.map (some b)) (.map none)).run Tryz.prog w = .ok (.bool false) w := by kernel_rfl
theorem cloneO_any (mb : Nat) (op : List (Int × Opn)) (w : World) (h : MI w mb (mp opV op)) : Calls Tryz.prog 113 #[.map (some mb)] w (fun e w' => ∃ b', e = .returned (.map (some b')) ∧ w.heap.size ≤ b' ∧ Gr w w' ∧ MI w' b' (mp opV op)) := by
  obtain ⟨o, hcl, hmi⟩ := h.clone (P := Tryz.prog) 155
  have HMI := hid hmi
  have he := eqm155 mb w
  have hcf : (callFunc 84 #[.iface 155 (.map (some mb))]).run Tryz.prog w = .ok (.value (.iface 155 (.map (some w.heap.size)))) (w.alloc o) := by
    rw [run_callFunc_extern Tryz.func84 (by kernel_rfl) (by kernel_rfl) (by kernel_rfl) (e := Extern.MapsClone.clone) (by kernel_rfl), hcl]
    rfl
  have hta : (Instr.typeAssert (.iface 155 (.map (some w.heap.size))) 20 155 false).run Tryz.prog (w.alloc o) = .ok (.map (some w.heap.size)) (w.alloc o) := by
    simp [Instr.typeAssert, run_underlying Tryz.underlying155, Result.andThen]
  clear h hmi hcl
  go_enter Tryz.func113, Tryz.ntmps113
  go_wp2_with fail
  go_ret
  exact ⟨_, rfl, Nat.le_refl _, (Gr.refl w).alloc _, HMI.out⟩
def plus (M : Bl) (k mb : Nat) : Bl := fun b => M b ∨ b = k ∨ b = mb
theorem Gr.plus {w w' : World} {M : Bl} {k mb : Nat} (g : Gr w w') (hk : w.heap.size ≤ k) (hmb : w.heap.size ≤ mb) : Up M w (plus M k mb) w' :=
  ⟨g.mod M, fun b hb h => by rcases h with h | h | h; exact h; omega; omega⟩
set_option maxHeartbeats 1000000 in
theorem twin_any (k mb : Nat) (F : FS) (M : Bl) (w : World) (h : FlowR w M k mb F) (hM : ∀ b, M b → b < w.heap.size) : Calls Tryz.prog 75 #[.pointer (some ⟨k, 0, none⟩)] w
    (fun e w' => ∃ k' mb', e = .returned (.pointer (some ⟨k', 0, none⟩)) ∧ w.heap.size ≤ k' ∧ w.heap.size ≤ mb' ∧ k' ≠ mb' ∧ Gr w w' ∧ FlowR w' (plus M k' mb') k' mb' F ∧ ∀ b, plus M k' mb' b → b < w'.heap.size) := by
  obtain ⟨A, c, hc, hf, hr, hk⟩ := h.parts
  obtain ⟨c0, c1, c2, c3, c4, c5, c6, c7, c8, c9, c10, c11⟩ := hf
  have H := hid h
  have HR := hid hr
  have HC := hid (fun (W : World) (y : Gr w W) => cloneO_any mb F.op W (h.map.gr y))
  clear h hr hc
  go_enter Tryz.func75, Tryz.ntmps75
  go_wp2_with (go_at_call 113
               refine (HC.out _ ((Gr.refl w).alloc _)).mono ?_
               rintro en w2 ⟨mb', rfl, hmb', g2, hm2⟩
               have HB2 := hid ((g2.block w.heap.size (by simp)).trans (heap_alloc_new w _))
               have G2 := hid g2
               have HM2 := hid hm2
               have hfz := frozen_of (j := 11) HB2.out
               have hcc : (w2.cell? ⟨w.heap.size, 11, none⟩) = some (.map (some mb)) := by simp [World.cell?, HB2.out]
               have hkk := block_lt HB2.out
               clear g2 hm2)
  go_ret
  have hmb2 : w.heap.size + 1 ≤ mb' := by simpa using hmb'
  have G3 : Gr w (w2.setCell ⟨w.heap.size, 11, none⟩ (.map (some mb'))) := (((Gr.refl w).alloc _).trans G2.out).set (p := ⟨w.heap.size, 11, none⟩) (Nat.le_refl _) _
  refine ⟨w.heap.size, mb', rfl, Nat.le_refl _, by omega, by omega, G3, ⟨⟨_, ?_, HR.out.up (Gr.plus G3 (Nat.le_refl _) (by omega))⟩, ?_⟩, ?_⟩
  · rw [set1_heap HB2.out]; rfl
  · exact HM2.out.keep (Below.heap_setCell w2 _ _ _ (by show mb' ≠ w.heap.size; omega))
  · intro b hb
    have e1 := HM2.out.lt
    have e2 := G3.size
    have e3 : (w2.setCell ⟨w.heap.size, 11, none⟩ (.map (some mb'))).heap.size = w2.heap.size := by simp [World.setCell]
    rcases hb with hb | hb | hb
    · have := hM b hb; omega
    · omega
    · omega
def RetA (M : Bl) (k mb : Nat) (x : FR) (w : World) (e : Ending) (w' : World) : Prop :=
  ∃ A c, e = .returned (.tuple #[.slice A x.2.1.length c, .int .i64 x.2.2]) ∧ FlowR w' M k mb x.1 ∧ RecsM outR w' M (.slice A x.2.1.length c) x.2.1 ∧ Mod (fun b => b = k ∨ b = mb) w w'
def RetT (M : Bl) (k : Nat) (x : FR) (w : World) (e : Ending) (w' : World) : Prop :=
  ∃ A c, e = .returned (.tuple #[.slice A x.2.1.length c, .int .i64 x.2.2]) ∧ FlowF w' M k x.1 ∧ RecsM outR w' M (.slice A x.2.1.length c) x.2.1 ∧ Mod (fun b => b = k) w w'
theorem up_weak {M : Bl} {k mb : Nat} (w : World) : Up (plus M k mb) w M w := ⟨(Gr.refl w).mod _, fun _ _ h => .inl h⟩
theorem FlowR.lenr {w : World} {M : Bl} {k mb : Nat} {F : FS} (h : FlowR w M k mb F) : ∃ A c, FC w k F (.slice A F.l.length c) mb := by
  obtain ⟨A, c, _, hf, _⟩ := h.parts
  exact ⟨A, c, hf⟩
theorem FlowR.copy {w w' : World} {M : Bl} {k k' mb' : Nat} {F : FS} {A : Option Addr} {c : Nat} (h : FlowR w (plus M k' mb') k' mb' F) (hc : w.heap[k']? = some (.cells (flowC F (.slice A F.l.length c) mb') 157 (0, 0))) (hM' : ∀ b, M b → b < mb')
    (hk : M k) (hm : Mod (fun b => b = k) w w') (hh : w'.heap[k]? = some (.cells (flowC F (.slice A F.l.length c) mb') 157 (0, 0))) : FlowF w' M k F := by
  have hmb : ¬ M mb' := fun e => Nat.lt_irrefl _ (hM' _ e)
  obtain ⟨v, h1, h2⟩ := h.row
  rw [hc] at h1
  injection h1 with h1
  injection h1 with h1 _ _
  have hv : Value.slice A F.l.length c = v := by
    have := congrArg (fun a : Array Value => a[4]?) h1
    simpa [flowC] using this
  subst hv
  refine ⟨mb', hmb, ⟨⟨_, hh, ?_⟩, h.map.keep (hm.block mb' h.lt.2 (fun e => hmb (e ▸ hk)))⟩⟩
  exact (h2.up (up_weak w)).up (Mod.up hm (fun b _ e => e ▸ hk))
theorem set12_ {w : World} {k : Nat} {u0 u1 u2 u3 u4 u5 u6 u7 u8 u9 u10 u11 : Value} (h : w.heap[k]? = some (.cells #[u0, u1, u2, u3, u4, u5, u6, u7, u8, u9, u10, u11] 157 (0, 0))) (v0 v1 v2 v3 v4 v5 v6 v7 v8 v9 v10 v11 : Value) :
    ((((((((((((w.setCell ⟨k, 0, none⟩ v0).setCell ⟨k, 1, none⟩ v1).setCell ⟨k, 2, none⟩ v2).setCell ⟨k, 3, none⟩ v3).setCell ⟨k, 4, none⟩ v4).setCell ⟨k, 5, none⟩ v5).setCell ⟨k, 6, none⟩ v6).setCell ⟨k, 7, none⟩ v7).setCell ⟨k, 8, none⟩ v8).setCell ⟨k, 9, none⟩ v9).setCell ⟨k, 10, none⟩ v10).setCell ⟨k, 11, none⟩ v11).heap[k]? = some (.cells #[v0, v1, v2, v3, v4, v5, v6, v7, v8, v9, v10, v11] 157 (0, 0)) := by
  have := (set1_heap (j := 11) (set1_heap (j := 10) (set1_heap (j := 9) (set1_heap (j := 8) (set1_heap (j := 7) (set1_heap (j := 6) (set1_heap (j := 5) (set1_heap (j := 4) (set1_heap (j := 3) (set1_heap (j := 2) (set1_heap (j := 1) (set1_heap (j := 0) h v0) v1) v2) v3) v4) v5) v6) v7) v8) v9) v10) v11)
  simpa only [List.setIfInBounds_toArray, List.set_cons_zero, List.set_cons_succ] using this
theorem set12 {w : World} {k mb : Nat} {F : FS} {v : Value} (h : w.heap[k]? = some (.cells (flowC F v mb) 157 (0, 0))) (v0 v1 v2 v3 v4 v5 v6 v7 v8 v9 v10 v11 : Value) :
    ((((((((((((w.setCell ⟨k, 0, none⟩ v0).setCell ⟨k, 1, none⟩ v1).setCell ⟨k, 2, none⟩ v2).setCell ⟨k, 3, none⟩ v3).setCell ⟨k, 4, none⟩ v4).setCell ⟨k, 5, none⟩ v5).setCell ⟨k, 6, none⟩ v6).setCell ⟨k, 7, none⟩ v7).setCell ⟨k, 8, none⟩ v8).setCell ⟨k, 9, none⟩ v9).setCell ⟨k, 10, none⟩ v10).setCell ⟨k, 11, none⟩ v11).heap[k]? = some (.cells #[v0, v1, v2, v3, v4, v5, v6, v7, v8, v9, v10, v11] 157 (0, 0)) ∧ Mod (fun b => b = k) w ((((((((((((w.setCell ⟨k, 0, none⟩ v0).setCell ⟨k, 1, none⟩ v1).setCell ⟨k, 2, none⟩ v2).setCell ⟨k, 3, none⟩ v3).setCell ⟨k, 4, none⟩ v4).setCell ⟨k, 5, none⟩ v5).setCell ⟨k, 6, none⟩ v6).setCell ⟨k, 7, none⟩ v7).setCell ⟨k, 8, none⟩ v8).setCell ⟨k, 9, none⟩ v9).setCell ⟨k, 10, none⟩ v10).setCell ⟨k, 11, none⟩ v11) := by
  refine ⟨set12_ h v0 v1 v2 v3 v4 v5 v6 v7 v8 v9 v10 v11, ?_⟩
  refine mod_setk ?_
  refine mod_setk ?_
  refine mod_setk ?_
  refine mod_setk ?_
  refine mod_setk ?_
  refine mod_setk ?_
  refine mod_setk ?_
  refine mod_setk ?_
  refine mod_setk ?_
  refine mod_setk ?_
  refine mod_setk ?_
  refine mod_setk ?_
  exact (Gr.refl w).mod _
theorem box_keep {w w' : World} {M : Bl} {k mb B t : Nat} {F : FS} {cs : Array Value} (h : FlowR w M k mb F) (hB : w.heap[B]? = some (.cells cs t (0, 0))) (ht : t ≠ 157) (m : Mod (fun b => b = k ∨ b = mb) w w') : w'.heap[B]? = some (.cells cs t (0, 0)) := by
  refine (m.block B (block_lt hB) ?_).trans hB
  rintro (rfl | rfl)
  · obtain ⟨v, h1, _⟩ := h.row
    rw [hB] at h1
    injection h1 with h1
    injection h1 with _ h1 _
    exact ht h1
  · obtain ⟨es, c, h1, _⟩ := h.map
    rw [hB] at h1
    injection h1 with h1
    cases h1
theorem box_c {w : World} {B t : Nat} {v : Value} (h : w.heap[B]? = some (.cells #[v] t (0, 0))) : w.cell? ⟨B, 0, none⟩ = some v := by simp [World.cell?, h]
theorem FW.put {w w' : World} {M : Bl} {k mb : Nat} {F : FS} {e : Ev} (h : FW w M k mb F) (hr : FlowR w' M k mb (putF F e)) (hm : Mod (fun b => b = k ∨ b = mb) w w') (hp : PutOk F e) (hl : F.l.length ≤ 90000) : FW w' M k mb (putF F e) :=
  ⟨hr, h.hk, h.hmb, h.ne, fun b e => Nat.lt_of_lt_of_le (h.hM b e) hm.size, by rw [putF_len]; omega, h.i.put hp⟩
theorem FW.same {w w' : World} {M : Bl} {k mb : Nat} {F F' : FS} (h : FW w M k mb F) (hr : FlowR w' M k mb F') (hm : Mod (fun b => b = k ∨ b = mb) w w') (hi : FI F') (hl : F'.l.length ≤ 100000) : FW w' M k mb F' :=
  ⟨hr, h.hk, h.hmb, h.ne, fun b e => Nat.lt_of_lt_of_le (h.hM b e) hm.size, hl, hi⟩
theorem fput (PUT : PutAny) {k mb : Nat} {F : FS} {M : Bl} {w : World} (e : Ev) (d : Value) (h : FW w M k mb F) (hd : Bys w d e.data) (hp : PutOk F e) (hl : F.l.length ≤ 90000) (h1 : 1 ≤ e.kind) (hw : e.kind = 9 ∨ e.kind = 10 ∨ e.kind = 11 → e.ref ≠ 0) :
    Calls Tryz.prog 143 #[.pointer (some ⟨k, 0, none⟩), evV e d] w (fun en w' => en = .returned (.int .i64 (atF F)) ∧ FW w' M k mb (putF F e) ∧ Mod (fun b => b = k ∨ b = mb) w w') :=
  (PUT k mb F e d M w h.r h.hk h.hmb h.ne h.hM hd (by omega) h.i h1 hw).mono fun _ _ ⟨h1, h2, h3⟩ => ⟨h1, h.put h2 h3 hp hl, h3⟩
theorem FOk.l9 {F : FS} (h : FOk F) : F.l.length ≤ 90000 := by have := h.len; omega
theorem okP {F : FS} (h : FOk F) {e : Ev} (hk : plainK e.kind) (hn : 0 ≤ e.n ∧ e.n ≤ 1048576) (hd : e.data.length ≤ 4096) : PutOk F e := .plain h.ne hk hn hd
set_option maxHeartbeats 1000000 in
theorem cl_signal (PUT : PutAny) (k mb B1 B2 : Nat) (F : FS) (now : Int) (d : Value) (data : List UInt8) (M : Bl) (w : World) (h : FW w M k mb F) (hF : FOk F) (h1 : w.heap[B1]? = some (.cells #[.int .i64 now] 3 (0, 0))) (h2 : w.heap[B2]? = some (.cells #[d] 22 (0, 0))) (hd : Bys w d data) (hdl : data.length ≤ 4096) :
    Calls Tryz.prog 142 #[.pointer (some ⟨k, 0, none⟩), .pointer (some ⟨B1, 0, none⟩), .pointer (some ⟨B2, 0, none⟩)] w (RetA M k mb (signalD data now F) w) := by
  have q1 := box_c h1
  have q2 := box_c h2
  have H1 := hid h1
  have HR := hid h.r
  obtain ⟨Ad, cd, rfl, _, _, _⟩ := id hd
  have HP := hid (show Calls Tryz.prog 143 #[.pointer (some ⟨k, 0, none⟩), .agg #[.int .i64 15, .int .i64 now, .int .i64 0, .int .i64 0, .int .i64 0, .int .i64 0, .slice Ad data.length cd]] w _ from
    fput PUT ⟨15, now, 0, 0, 0, 0, data⟩ (.slice Ad data.length cd) h hd (okP hF (by unfold plainK; dsimp only; omega) (by dsimp only; omega) hdl) hF.l9 (by dsimp only; omega) (by dsimp only; omega))
  clear h h1 h2 hd
  unfold signalD
  go_enter Tryz.func142, Tryz.ntmps142
  go_wp2_with (first
    | (go_at_call 143
       refine HP.out.mono ?_
       rintro en w2 ⟨rfl, hw2, hm2⟩
       have p1 := box_c (box_keep HR.out H1.out (by decide) hm2)
       have HM2 := hid hm2
       have HW := hid (wake_any PUT k mb _ now M w2 hw2)
       clear hm2 hw2)
    | (go_at_call 144
       refine HW.out.mono ?_
       rintro en w3 ⟨A3, c3, rfl, hr3, ho3, hm3⟩))
  go_ret2
  exact ⟨A3, c3, rfl, hr3, ho3, HM2.out.trans hm3 (fun _ _ e => e)⟩
set_option maxHeartbeats 1000000 in
theorem cl_cancel (PUT : PutAny) (k mb B1 : Nat) (F : FS) (now : Int) (M : Bl) (w : World) (h : FW w M k mb F) (hF : FOk F) (h1 : w.heap[B1]? = some (.cells #[.int .i64 now] 3 (0, 0))) :
    Calls Tryz.prog 145 #[.pointer (some ⟨k, 0, none⟩), .pointer (some ⟨B1, 0, none⟩)] w (RetA M k mb (cancelD now F) w) := by
  have q1 := box_c h1
  have H1 := hid h1
  have H := hid h
  have HR := hid h.r
  obtain ⟨A, c, hc, ⟨c0, c1, c2, c3, c4, c5, c6, c7, c8, c9, c10, c11⟩, hr, hk⟩ := h.r.parts
  have HP := hid (show Calls Tryz.prog 143 #[.pointer (some ⟨k, 0, none⟩), .agg #[.int .i64 16, .int .i64 now, .int .i64 0, .int .i64 0, .int .i64 0, .int .i64 0, .slice none 0 0]] w _ from
    fput PUT ⟨16, now, 0, 0, 0, 0, []⟩ (.slice none 0 0) h (BysM.none w M).bys (okP hF (by unfold plainK; dsimp only; omega) (by dsimp only; omega) (by simp)) hF.l9 (by dsimp only; omega) (by dsimp only; omega))
  clear h h1 hr hc
  unfold cancelD
  cases hask : F.asked
  · rw [hask] at c10
    simp only [Bool.false_eq_true, if_false]
    go_enter Tryz.func145, Tryz.ntmps145
    go_wp2_with (first
      | (go_at_call 143
         refine HP.out.mono ?_
         rintro en w2 ⟨rfl, hw2, hm2⟩
         have p1 := box_c (box_keep HR.out H1.out (by decide) hm2)
         have HM2 := hid hm2
         have HW := hid (wake_any PUT k mb _ now M w2 hw2)
         clear hm2 hw2)
      | (go_at_call 144
         refine HW.out.mono ?_
         rintro en w3 ⟨A3, c3, rfl, hr3, ho3, hm3⟩))
    go_ret2
    exact ⟨A3, c3, rfl, hr3, ho3, HM2.out.trans hm3 (fun _ _ e => e)⟩
  · rw [hask] at c10
    simp only [if_true]
    go_enter Tryz.func145, Tryz.ntmps145
    go_wp2_with fail
    go_ret2
    exact ⟨none, 0, rfl, H.out.r, RecsM.none _ _ _, (Gr.refl w).mod _⟩
theorem cl_terminate (PUT : PutAny) (k mb B1 B2 : Nat) (F : FS) (now : Int) (d : Value) (data : List UInt8) (M : Bl) (w : World) (h : FW w M k mb F) (h1 : w.heap[B1]? = some (.cells #[d] 22 (0, 0))) (h2 : w.heap[B2]? = some (.cells #[.int .i64 now] 3 (0, 0))) (hd : BysM w M d data) :
    Calls Tryz.prog 146 #[.pointer (some ⟨k, 0, none⟩), .pointer (some ⟨B1, 0, none⟩), .pointer (some ⟨B2, 0, none⟩)] w (RetA M k mb (terminateD data now F) w) := by
  have q1 := box_c h1
  have q2 := box_c h2
  obtain ⟨Ad, cd, rfl⟩ := hd.shape
  have HC := hid (close_any PUT k mb F 23 now _ data M w h (by decide) hd)
  clear h h1 h2 hd
  unfold terminateD
  go_enter Tryz.func146, Tryz.ntmps146
  go_wp2_with (go_at_call 147; refine HC.out.mono ?_; rintro en w3 ⟨A3, c3, rfl, hr3, ho3, hm3⟩)
  go_ret2
  exact ⟨A3, c3, rfl, hr3, ho3, hm3⟩
set_option maxHeartbeats 1000000 in
theorem endsO_any (PUT : PutAny) (k mb : Nat) (F : FS) (kind ref now : Int) (d : Value) (data : List UInt8) (M : Bl) (w : World) (h : FW w M k mb F) (hF : FOk F) (hkind : kind = 9 ∨ kind = 10 ∨ kind = 11) (hd : Bys w d data) (hdl : data.length ≤ 4096) :
    Calls Tryz.prog 155 #[.pointer (some ⟨k, 0, none⟩), .int .i64 kind, .int .i64 ref, d, .int .i64 now] w (RetA M k mb (endsF kind ref data now F) w) := by
  have H := hid h
  obtain ⟨A, c, hc, ⟨c0, c1, c2, c3, c4, c5, c6, c7, c8, c9, c10, c11⟩, hr, hk⟩ := h.r.parts
  have hlk := lookup_open h.r.map ref
  have HD := hid hd
  obtain ⟨Ad, cd, rfl, _, _, _⟩ := hd
  unfold endsF
  clear h hr hc
  have stale : ∀ W, Gr w W → RetA M k mb (F, [], 21) w (.returned (.tuple #[.slice none 0 0, .int .i64 21])) W := fun W g => ⟨none, 0, rfl, H.out.r.gr g, RecsM.none _ _ _, g.mod _⟩
  have ST := hid stale
  clear stale
  cases hx : lk F.op ref with
  | none =>
    rw [hx] at hlk
    simp only [Option.getD_none, Option.isSome_none, opV] at hlk
    go_enter Tryz.func155, Tryz.ntmps155
    go_wp2_with fail
    go_ret2
    exact ST.out _ ((Gr.refl w).alloc _)
  | some x =>
    rw [hx] at hlk
    rcases x with ⟨xk, xi, xw⟩
    simp only [Option.getD_some, Option.isSome_some, opV] at hlk ⊢
    by_cases h1 : xk = 7
    · by_cases h2 : xw = 0
      · rw [if_pos (.inr h2)]
        subst h1 h2
        go_enter Tryz.func155, Tryz.ntmps155
        go_wp2_with fail
        go_ret2
        exact ST.out _ ((Gr.refl w).alloc _)
      · rw [if_neg (by rintro (e | e); exact e h1; exact h2 e)]
        subst h1
        have HP := hid (fun (W : World) (y : Gr w W) => (show Calls Tryz.prog 143 #[.pointer (some ⟨k, 0, none⟩), .agg #[.int .i64 kind, .int .i64 now, .int .i64 xw, .int .i64 xi, .int .i64 0, .int .i64 0, .slice Ad data.length cd]] W _ from
          fput PUT ⟨kind, now, xw, xi, 0, 0, data⟩ (.slice Ad data.length cd) (H.out.gr y) (HD.out.gr y) (okP hF (by unfold plainK; dsimp only; omega) (by dsimp only; omega) hdl) hF.l9 (by dsimp only; omega) (fun _ => h2)))
        have hkk := hid hkind
        clear hkind hx
        go_enter Tryz.func155, Tryz.ntmps155
        go_wp2_with (first
          | (go_at_call 143
             refine (HP.out _ ((Gr.refl w).alloc _)).mono ?_
             rintro en w2 ⟨rfl, hw2, hm2⟩
             have HM2 := hid ((((Gr.refl w).alloc _).mod (fun b => b = k ∨ b = mb)).trans hm2 (fun _ _ e => e))
             have HW := hid (wake_any PUT k mb _ now M w2 hw2)
             clear hm2 hw2)
          | (go_at_call 144
             refine HW.out.mono ?_
             rintro en w3 ⟨A3, c3, rfl, hr3, ho3, hm3⟩))
        go_ret2
        exact ⟨A3, c3, rfl, hr3, ho3, HM2.out.trans hm3 (fun _ _ e => e)⟩
    · rw [if_pos (.inl h1)]
      go_enter Tryz.func155, Tryz.ntmps155
      go_wp2_with fail
      go_ret2
      exact ST.out _ ((Gr.refl w).alloc _)
def I64 (x : Int) : Prop := -9223372036854775808 ≤ x ∧ x ≤ 9223372036854775807
theorem I64.wf {x : Int} (h : I64 x) : (Lit.int .i64 x).wf = true := WalkArith.wf_i64 h
def pv (p : Int × Int) : Value := .agg #[.int .i64 p.1, .int .i64 p.2]
theorem arr236 : Tryz.prog.underlying 236 = some (.array 2 3) := by kernel_rfl
theorem cells3 : Tryz.prog.cellsOf 3 = 1 := by kernel_rfl
theorem row236 : 236 < Tryz.prog.types.size := of_decide_eq_true (by kernel_rfl)
theorem keyed236 : Keyed Tryz.prog 236 := Keyed.of_law (deep_law_laid (show laidOutB Tryz.prog = true by kernel_rfl) (m := 2) (by omega) row236 (by kernel_rfl) (by kernel_rfl))
theorem keyType236 : Tryz.prog.keyType 236 = true := by kernel_rfl
theorem cellsOf236 : Tryz.prog.cellsOf 236 = 2 := by kernel_rfl
theorem lits_int (d : Nat) {n : Int} (h : I64 n) : Tryz.prog.keyLits (d + 1) 3 [.int .i64 n] = some [.int .i64 n] := by simp [Program.keyLits, Tryz.underlying3, h.wf]
theorem key236 {p : Int × Int} (h1 : I64 p.1) (h2 : I64 p.2) : ∃ l, keyOf Tryz.prog 236 (pv p) = some l := by
  obtain ⟨a, b⟩ := p
  simp only at h1 h2
  obtain ⟨M, hM⟩ : ∃ M, Tryz.prog.types.size = M + 1 := ⟨Tryz.prog.types.size - 1, by have := row236; omega⟩
  have e1 := lits_int M h1
  have e2 := lits_int M h2
  refine ⟨.string (keyBytes [.int .i64 a, .int .i64 b]), ?_⟩
  unfold keyOf
  rw [arr236]
  simp only [keyType236, pv, Value.formed, arr236, cellsOf236, Value.cells, hM, Bool.true_and]
  unfold Program.keyLits
  rw [arr236]
  simp only [cellsOf236, cells3, show List.range 2 = [0, 1] from rfl]
  simp [e1, e2]
theorem plainElem_bool_inv {H : Type} {P : Program} {e : TypeId} (he : P.underlying e = some .bool) {v : Value} {z : DataW H × List MemPlace} (h : plainElem P e v = some z) : ∃ a, v = .bool a ∧ z = (.lit (.bool a), []) := by
  unfold plainElem at h
  cases v <;> simp_all
theorem zeroB (w : World) : (zeroValue 4).run Tryz.prog w = .ok (.bool false) w := by kernel_rfl
def MP (w : World) (b n : Nat) (S : IdS) : Prop :=
  ∃ D : DataW Empty, w.ownsMap Tryz.prog 236 (plainElem Tryz.prog 4) b n D ∧ ∀ x l, keyOf Tryz.prog 236 (pv x) = some l → D.atKey l (.lit (.bool false)) = .lit (.bool (S x))
section
variable {w w' : World} {b n : Nat} {S : IdS}
theorem MP.made (w : World) : MP (w.alloc (.map #[] 0)) w.heap.size 0 (fun _ => false) :=
  ⟨.map [], World.ownsMap_made _ _ _ _, fun _ _ _ => rfl⟩
theorem MP.lt (h : MP w b n S) : b < w.heap.size := by
  obtain ⟨D, h1, _⟩ := h
  exact h1.lt
theorem MP.keep (h : MP w b n S) (hb : w'.heap[b]? = w.heap[b]?) : MP w' b n S := by
  obtain ⟨D, ⟨es, clock, h0, F, hs, hD⟩, h1⟩ := h
  exact ⟨D, ⟨es, clock, hb.trans h0, F, hs, hD⟩, h1⟩
theorem MP.gr (h : MP w b n S) (g : Gr w w') : MP w' b n S := h.keep (g.block b h.lt)
theorem MP.ext {S' : IdS} (h : MP w b n S) (e : ∀ x, S x = S' x) : MP w b n S' := (funext e : S = S') ▸ h
theorem MP.look (h : MP w b n S) {x : Int × Int} (h1 : I64 x.1) (h2 : I64 x.2) : (Instr.lookup 235 (.map (some b)) (pv x) false).run Tryz.prog w = .ok (.bool (S x)) w := by
  obtain ⟨D, hD, hS⟩ := h
  obtain ⟨l, hl⟩ := key236 h1 h2
  obtain ⟨v, ps, hrun, hv⟩ := hD.lookup keyed236 Tryz.underlying235 (zeroB w) (zd := .lit (.bool false)) (zp := []) (plainElem_bool Tryz.underlying4 false) hl
  obtain ⟨a, rfl, e⟩ := plainElem_bool_inv Tryz.underlying4 hv
  rw [hS x l hl] at e
  injection e with e _
  injection e with e
  injection e with e
  rw [hrun, e]
theorem pv_inj {x y : Int × Int} (h : pv x = pv y) : x = y := by
  obtain ⟨a, b⟩ := x
  obtain ⟨a', b'⟩ := y
  simp only [pv] at h
  injection h with h
  simp at h
  obtain ⟨rfl, rfl⟩ := h
  rfl
theorem MP.set (h : MP w b n S) (hn : n ≤ 1000000) {x : Int × Int} (h1 : I64 x.1) (h2 : I64 x.2) : ∃ w', (Instr.mapUpdate 235 (.map (some b)) (pv x) (.bool true)).run Tryz.prog w = .ok () w' ∧ MP w' b (n + 1) (fun y => decide (y = x) || S y) ∧ Mod (fun k => k = b) w w' := by
  obtain ⟨D, hD, hS⟩ := h
  obtain ⟨l, hl⟩ := key236 h1 h2
  obtain ⟨w', hrun, r1, r2⟩ := hD.update keyed236 Tryz.underlying235 (by unfold maxLen; omega) hl (plainElem_bool Tryz.underlying4 true)
  refine ⟨w', hrun, ⟨_, r1, fun y ly hy => ?_⟩, (mod_grown r2).mono (fun k _ e => by injection e)⟩
  by_cases e : y = x
  · subst e
    have : ly = l := by rw [hl] at hy; injection hy with hy; exact hy.symm
    subst this
    rw [atKey_put_same hD.isMap (keyed236.key hl)]
    simp
  · have hne : ly ≠ l := by
      rintro rfl
      exact e (pv_inj (keyed236.inj hy hl))
    rw [atKey_put_other hne, hS y ly hy]
    simp [e]
theorem MP.del (h : MP w b n S) {x : Int × Int} (h1 : I64 x.1) (h2 : I64 x.2) (ty : TypeId) : ∃ w', (Builtin.delete_ #[235, 236] ty #[.map (some b), pv x]).run Tryz.prog w = .ok (.tuple #[]) w' ∧ MP w' b n (fun y => if y = x then false else S y) ∧ Mod (fun k => k = b) w w' := by
  obtain ⟨D, hD, hS⟩ := h
  obtain ⟨l, hl⟩ := key236 h1 h2
  obtain ⟨w', hrun, r1, r2⟩ := hD.drop keyed236 Tryz.underlying235 hl ty
  refine ⟨w', hrun, ⟨_, r1, fun y ly hy => ?_⟩, ?_⟩
  · by_cases e : y = x
    · subst e
      have : ly = l := by rw [hl] at hy; injection hy with hy; exact hy.symm
      subst this
      rw [atKey_del_same]
      simp
    · have hne : ly ≠ l := by
        rintro rfl
        exact e (pv_inj (keyed236.inj hy hl))
      rw [atKey_del_other hne, hS y ly hy]
      simp [e]
  · obtain ⟨es, c, es', c', hb, rfl⟩ := r2
    exact ⟨rfl, rfl, rfl, by simp [ChangeMaps.setBlock], fun k _ hk => by
      simp only [ChangeMaps.setBlock]
      rw [Array.getElem?_setIfInBounds_ne (fun e => hk e.symm)]⟩
end
set_option maxHeartbeats 1000000 in
theorem take_ids (b n : Nat) (S : IdS) (k id list m : Int) (v : Value) (A : Option Addr) (l c : Nat) (hv : v = .slice A l c) (data : List UInt8) (w : World) (h : MP w b n S) (hn : n ≤ 1000000) (hid : 0 ≤ id ∧ id ≤ 1048576) :
    Calls Tryz.prog 186 #[.map (some b), .agg #[.int .i64 k, .int .i64 id, .int .i64 list, .int .i64 m, v]] w (fun e w' => e = .returned (.bool (takeB S ⟨k, id, list, m, data⟩)) ∧ MP w' b (n + 1) (takeS S ⟨k, id, list, m, data⟩) ∧ Mod (fun q => q = b) w w') := by
  subst hv
  have i1 : I64 id := ⟨by omega, by omega⟩
  have H := Go.Ext.hid h
  have add : ∀ K : Int, (k = 1 ∧ K = 7) ∨ (k = 2 ∧ K = 12) ∨ (k = 4 ∧ K = 17) → Calls Tryz.prog 186 #[.map (some b), .agg #[.int .i64 k, .int .i64 id, .int .i64 list, .int .i64 m, .slice A l c]] w (fun e w' => e = .returned (.bool (!S (K, id))) ∧ MP w' b (n + 1) (fun p => decide (p = (K, id)) || S p) ∧ Mod (fun q => q = b) w w') := by
    intro K hK
    have iK : I64 K := ⟨by omega, by omega⟩
    have G2 : Gr w ((w.alloc (.cells #[.int .i64 k, .int .i64 id, .int .i64 list, .int .i64 m, .slice A l c] 39)).alloc (.cells #[.int .i64 K, .int .i64 id] 236)) := ((Gr.refl w).alloc _).alloc _
    have hlk : (Instr.lookup 235 (.map (some b)) (.agg #[.int .i64 K, .int .i64 id]) false).run Tryz.prog ((w.alloc (.cells #[.int .i64 k, .int .i64 id, .int .i64 list, .int .i64 m, .slice A l c] 39)).alloc (.cells #[.int .i64 K, .int .i64 id] 236)) = _ := (H.out.gr G2).look (x := (K, id)) iK i1
    obtain ⟨w3, hup, h3, m3⟩ := (H.out.gr G2).set hn (x := (K, id)) iK i1
    simp only [pv] at hup
    have H3 := Go.Ext.hid h3
    have M3 := Go.Ext.hid ((G2.mod (fun q => q = b)).trans m3 (fun _ _ e => e))
    clear h3 m3 G2
    rcases hK with ⟨rfl, rfl⟩ | ⟨rfl, rfl⟩ | ⟨rfl, rfl⟩
    all_goals (
      go_enter Tryz.func186, Tryz.ntmps186
      go_wp2_with fail
      go_ret
      exact ⟨rfl, H3.out, M3.out⟩)
  by_cases k3 : k = 3
  · subst k3
    have G2 : Gr w ((w.alloc (.cells #[.int .i64 3, .int .i64 id, .int .i64 list, .int .i64 m, .slice A l c] 39)).alloc (.cells #[.int .i64 12, .int .i64 id] 236)) := ((Gr.refl w).alloc _).alloc _
    have iK : I64 12 := ⟨by omega, by omega⟩
    have hlk : (Instr.lookup 235 (.map (some b)) (.agg #[.int .i64 12, .int .i64 id]) false).run Tryz.prog ((w.alloc (.cells #[.int .i64 3, .int .i64 id, .int .i64 list, .int .i64 m, .slice A l c] 39)).alloc (.cells #[.int .i64 12, .int .i64 id] 236)) = _ := (H.out.gr G2).look (x := (12, id)) iK i1
    obtain ⟨w3, hup, h3, m3⟩ := (H.out.gr G2).del (x := (12, id)) iK i1 0
    simp only [pv] at hup
    have H3 := Go.Ext.hid h3
    have M3 := Go.Ext.hid ((G2.mod (fun q => q = b)).trans m3 (fun _ _ e => e))
    clear h3 m3 G2 h
    have hT := Go.Ext.hid (show takeB S ⟨3, id, list, m, data⟩ = S (12, id) ∧ takeS S ⟨3, id, list, m, data⟩ = (fun p => if p = (12, id) then false else S p) from ⟨rfl, rfl⟩)
    rw [hT.out.1, hT.out.2]
    go_enter Tryz.func186, Tryz.ntmps186
    go_wp2_with fail
    go_ret
    refine ⟨rfl, ?_, M3.out⟩
    obtain ⟨D, hD, hS⟩ := H3.out
    obtain ⟨es, clock, h0, F, hs, hDD⟩ := hD
    exact ⟨D, ⟨es, clock, h0, F, Nat.le_succ_of_le hs, hDD⟩, hS⟩
  by_cases k1 : k = 1
  · have hT := Go.Ext.hid (show takeB S ⟨k, id, list, m, data⟩ = !S (7, id) ∧ takeS S ⟨k, id, list, m, data⟩ = (fun p => decide (p = (7, id)) || S p) by subst k1; exact ⟨rfl, rfl⟩)
    rw [hT.out.1, hT.out.2]
    exact add 7 (.inl ⟨k1, rfl⟩)
  by_cases k2 : k = 2
  · have hT := Go.Ext.hid (show takeB S ⟨k, id, list, m, data⟩ = !S (12, id) ∧ takeS S ⟨k, id, list, m, data⟩ = (fun p => decide (p = (12, id)) || S p) by subst k2; exact ⟨rfl, rfl⟩)
    rw [hT.out.1, hT.out.2]
    exact add 12 (.inr (.inl ⟨k2, rfl⟩))
  by_cases k4 : k = 4
  · have hT := Go.Ext.hid (show takeB S ⟨k, id, list, m, data⟩ = !S (17, id) ∧ takeS S ⟨k, id, list, m, data⟩ = (fun p => decide (p = (17, id)) || S p) by subst k4; exact ⟨rfl, rfl⟩)
    rw [hT.out.1, hT.out.2]
    exact add 17 (.inr (.inr ⟨k4, rfl⟩))
  have hT := Go.Ext.hid (show takeB S ⟨k, id, list, m, data⟩ = true ∧ takeS S ⟨k, id, list, m, data⟩ = S by simp [takeB, takeS, k1, k2, k3, k4])
  rw [hT.out.1, hT.out.2]
  clear add h hT
  go_enter Tryz.func186, Tryz.ntmps186
  go_wp2_with fail
  go_ret
  refine ⟨rfl, ?_, ((Gr.refl w).alloc _).mod _⟩
  obtain ⟨D, hD, hS⟩ := H.out.gr ((Gr.refl w).alloc _)
  obtain ⟨es, clock, h0, F, hs, hDD⟩ := hD
  exact ⟨D, ⟨es, clock, h0, F, Nat.le_succ_of_le hs, hDD⟩, hS⟩
end Go.Proofs.YtniknicnnaiilaaGreat
end
