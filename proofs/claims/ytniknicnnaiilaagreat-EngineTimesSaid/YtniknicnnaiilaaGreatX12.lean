/- Lemmas: what the functions of the engine answer, and which blocks they write. -/
import Derived.Test.YtniknicnnaiilaaGreatX02
import Derived.Test.YtniknicnnaiilaaGreatX03
import Derived.Test.YtniknicnnaiilaaGreatX10
import Derived.Test.YtniknicnnaiilaaGreatX11
section
namespace Go.Proofs.YtniknicnnaiilaaGreat
set_option maxRecDepth 100000
open Go.RowKit Go.Ext Go.BigFrame Go.Maps Go.MapKept
attribute [local go_sem] Ext.cell Ext.frozen Ext.lt Ext.le s1 s2 s3 s4 s5 s6 t1 t2 t3 t4 t5 t6
attribute [local go_sem ↓] Go.wp_at_zero Go.wp_at_succ
set_option maxHeartbeats 1000000 in
theorem cloneD_any (v : Value) (l : List Dec) (M : Bl) (w : World) (h : RecsM decR w M v l) (hl : l.length ≤ 100000) (hM : ∀ b, M b → b < w.heap.size) :
    Calls Tryz.prog 153 #[v] w (fun e w' => ∃ v', e = .returned v' ∧ Gr w w' ∧ RecsM decR w' M v' l) := by
  obtain ⟨A, c, ds, rfl, hc, hdat, hr, hn⟩ := h
  obtain ⟨i0, hi0, hz0, hz1, hz2⟩ := info_parts info39
  have he := fun (w : World) (n c n' c' : Nat) (a : Option Addr) => Lib.run_eql_slice_nil (P := Tryz.prog) w 33 39 a n c n' c' Tryz.underlying33
  rcases A with _ | ad
  · have hc0 := hn rfl
    subst hc0
    have hL : l = [] := List.eq_nil_of_length_eq_zero (by omega)
    subst hL
    go_enter Tryz.func153, Tryz.ntmps153
    go_wp2_with fail
    go_ret
    exact ⟨_, rfl, Gr.refl w, RecsM.none _ _ _⟩
  · have hr1 := hid (hr.rd.gr ((Gr.refl w).alloc (.cells #[] 39)))
    have HM := hid hM
    have HD := hid hdat
    have hlen : (rowC (l.map decR) ds).length = l.length * 5 := by
      rw [rowC_len (m := 4) _ _ (fun x hx => by obtain ⟨y, _, rfl⟩ := List.mem_map.1 hx; rfl) (by have := hdat.len; simpa using this)]
      simp
    have hone := rowC_one (l.map decR) ds hdat.one
    have HLEN := hid hlen
    have HONE := hid hone
    clear hr hn hM hdat hlen hone
    go_enter Tryz.func153, Tryz.ntmps153
    go_wp2_with (at_builtin; refine wpList_append_own _ rfl _ _ 33 rfl w.heap.size 39 i0 _ 5 56 Tryz.underlying33 hi0 hz0 hz1 hz2 rfl (by decide) (.slice (some ⟨w.heap.size, 0, none⟩) 0 0) 0 [] rfl (World.ownsRow_made w #[] 0 (Nat.le_refl _) (by decide) rfl) ad l.length c (rowC (l.map decR) ds) rfl HLEN.out hr1.out.add HONE.out (by unfold maxLen; omega) (by omega) (by simp) ?_; intro v1 w1 hown1 hg1 _)
    go_ret
    have hgr : Gr w w1 := gr_grown ((Gr.refl w).alloc _) hg1 (by intro k hk; simp [Value.ownBlock] at hk; omega)
    have ho : w1.ownsRow w.heap.size 39 5 v1 l.length (rowC (l.map decR) ds) := by simpa using hown1
    refine ⟨v1, rfl, hgr, ?_⟩
    rcases id ho.2 with ⟨rfl, h0⟩ | ⟨g, cap, cur, rfl, hb, _, hnc, _⟩
    · have : l = [] := List.eq_nil_of_length_eq_zero h0
      subst this
      exact RecsM.none _ _ _
    · exact ⟨_, _, ds, rfl, hnc, HD.out.up (Gr.up hgr M), Rd.m (Rd.of_own ho) (by
        rintro b off e _ hb2
        injection e with e
        injection e with e1
        subst e1
        have := HM.out _ hb2
        omega), fun e => by cases e⟩
theorem shardN_one (id : Int) : shardN 1 id = 0 := by
  obtain ⟨h1, h2, h3⟩ := shardN_eq (g := 1) id (by omega)
  omega
set_option maxHeartbeats 2000000 in
theorem near_any (k kd ka mr kh : Nat) (now : Int) (v : Value) (l : List Dec) (M : Bl) (w : World) (hk : w.heap[k]? = some (.cells #[.pointer (some ⟨kd, 0, none⟩), .pointer (some ⟨ka, 0, none⟩), .int .i64 0, .int .i64 1, .int .i64 now, .map (some mr), .pointer (some ⟨kh, 0, none⟩)] 79 (0, 0)))
    (h : RecsM decR w M v l) (hl : l.length ≤ 100000) (hM : ∀ b, M b → b < w.heap.size) :
    Calls Tryz.prog 110 #[.pointer (some ⟨k, 0, none⟩), v] w (fun e w' => ∃ v', e = .returned v' ∧ Gr w w' ∧ RecsM decR w' M v' l) := by
  have HCL := hid (cloneD_any v l M w h hl hM)
  obtain ⟨A, c, rfl, hlc⟩ := h.shape
  have HK := hid hk
  have HLL := hid hl
  have hsh := hid (fun (id : Int) (W : World) => shard_any id 1 W (by omega))
  simp only [shardN_one] at hsh
  clear h hk
  go_enter Tryz.func110, Tryz.ntmps110
  go_wp2_with (go_at_call 153; refine HCL.out.mono ?_; rintro en w1 ⟨v1, rfl, g1, hr1⟩; have HR := hid hr1; have G1 := hid g1; obtain ⟨A1, c1, rfl, hlc1⟩ := hr1.shape; clear hr1 g1)
  go_loopw [12] (fun iv wr => ∃ i : Nat, iv = .int .i64 i ∧ i ≤ l.length ∧ Gr w1 wr) (fun iv _ => l.length - (intOf iv).toNat)
  case atStart => exact ⟨0, rfl, Nat.zero_le _, Gr.refl w1⟩
  case round =>
    obtain ⟨i, rfl, hi, hgr⟩ := hrel
    have HG := hid hgr
    clear hgr
    by_cases hlt : i < l.length
    · have hget : l[i]? = some l[i] := List.getElem?_eq_getElem hlt
      obtain ⟨b, off, A', c', rfl, hb, hMb, hdat, c0, c1_, c2, c3, c4⟩ := dec_at (HR.out.up (Gr.up HG.out M)) hget
      generalize l[i] = o at *
      clear hdat hget
      rcases o with ⟨dk, di, dl, dn, dd⟩
      simp only at c0 c1_ c2 c3 c4
      generalize dd.length = dlen at *
      have hlz : (i : Int) < (l.length : Int) := by omega
      have hLL : (l.length : Int) ≤ 100000 := by have := HLL.out; omega
      go_upto_region 5 with fail
      have HB4 := hid (heap_alloc_new wr (.cells #[.int .i64 dk, .int .i64 di, .int .i64 dl, .int .i64 dn, .slice A' dlen c'] 39))
      have G4 := hid ((Gr.refl wr).alloc (.cells #[.int .i64 dk, .int .i64 di, .int .i64 dl, .int .i64 dn, .slice A' dlen c'] 39))
      obtain ⟨w4, hw4⟩ : ∃ w4, wr.alloc (.cells #[.int .i64 dk, .int .i64 di, .int .i64 dl, .int .i64 dn, .slice A' dlen c'] 39) = w4 := ⟨_, rfl⟩
      obtain ⟨B4, hb4⟩ : ∃ B4, wr.heap.size = B4 := ⟨_, rfl⟩
      rw [hw4] at HB4 G4 ⊢
      rw [hb4] at HB4 ⊢
      clear hw4 hb4
      obtain ⟨x0, x1, x2, x3, x4⟩ := cells5 HB4.out
      have hbl := block_lt HB4.out
      have HK4 := hid (((G1.out.trans HG.out).trans G4.out).block k (block_lt HK.out) |>.trans HK.out)
      have y1 : w4.cell? ⟨k, 1, none⟩ = some (.pointer (some ⟨ka, 0, none⟩)) := by simp [World.cell?, HK4.out]
      have y2 : w4.cell? ⟨k, 2, none⟩ = some (.int .i64 0) := by simp [World.cell?, HK4.out]
      have y3 : w4.cell? ⟨k, 3, none⟩ = some (.int .i64 1) := by simp [World.cell?, HK4.out]
      have hkl := block_lt HK4.out
      by_cases h4 : dk = 4
      · subst h4
        refine wp_region_plan [(0, false), (1, false), (2, false), (3, false), (4, false), (5, false), (6, false), (7, false), (8, false), (9, false), (11, false), (12, false), (13, false), (14, false), (10, true), (15, false), (16, false)] (fun W => Gr w4 W) (by kernel_rfl) (by kernel_rfl) (fun _ _ d _ _ h => by cases d <;> exact h) (Gr.refl w4).drew (fun _ => ?_)
        iterate 14 (first | (refine pl_take (v := ?_) rfl (by rfl) ?_ ?_; rotate_left; (focus (intro W9 hW9; obtain ⟨x9, rfl⟩ : ∃ x : Ext w4, W9 = x.val := ⟨⟨W9, hW9⟩, rfl⟩; go_simp; (try with_reducible rfl); done)); (try simp only [AP])) | (refine pl_skip rfl (by rfl) ?_; (try simp only [AP])))
        refine pl_call rfl (by rfl) (fun K hK => ?_)
        go_simp
        go_at_call 37
        refine (hsh.out _ _).mono ?_
        rintro en _ ⟨rfl, y5, rfl⟩
        have G5 := hid ((Gr.refl w4).drew.ext y5)
        refine hK.out (fun W => Gr w4 W) _ _ G5.out (fun W h => h) (fun _ => ?_)
        clear hK K
        (try simp only [AP])
        iterate 2 (first | (refine pl_take (v := ?_) rfl (by rfl) ?_ ?_; rotate_left; (focus (intro W9 hW9; obtain ⟨x9, rfl⟩ : ∃ x : Ext w4, W9 = x.val := ⟨⟨W9, hW9⟩, rfl⟩; go_simp; (try with_reducible rfl); done)); (try simp only [AP])) | (refine pl_skip rfl (by rfl) ?_; (try simp only [AP])))
        refine pl_done ?_
        go_wp2_with fail
        go_roundw
        case rel => exact ⟨i + 1, by go_num, by omega, (HG.out.trans G4.out).trans G5.out⟩
        case measure => simp [intOf]; omega
      · have hd4 : (dk == 4) = false := by simpa using h4
        refine wp_region_plan [(0, false), (1, false), (2, false), (3, false), (4, false), (5, false), (6, false), (7, false), (8, false), (9, false), (11, false), (12, false), (13, false), (14, false), (10, true), (15, false), (16, false)] (fun W => Gr w4 W) (by kernel_rfl) (by kernel_rfl) (fun _ _ d _ _ h => by cases d <;> exact h) (Gr.refl w4).drew (fun _ => ?_)
        iterate 14 (first | (refine pl_take (v := ?_) rfl (by rfl) ?_ ?_; rotate_left; (focus (intro W9 hW9; obtain ⟨x9, rfl⟩ : ∃ x : Ext w4, W9 = x.val := ⟨⟨W9, hW9⟩, rfl⟩; go_simp; (try with_reducible rfl); done)); (try simp only [AP])) | (refine pl_skip rfl (by rfl) ?_; (try simp only [AP])))
        refine pl_skipc rfl (by rfl) ?_
        (try simp only [AP])
        iterate 2 (first | (refine pl_take (v := ?_) rfl (by rfl) ?_ ?_; rotate_left; (focus (intro W9 hW9; obtain ⟨x9, rfl⟩ : ∃ x : Ext w4, W9 = x.val := ⟨⟨W9, hW9⟩, rfl⟩; go_simp; (try with_reducible rfl); done)); (try simp only [AP])) | (refine pl_skip rfl (by rfl) ?_; (try simp only [AP])))
        refine pl_done ?_
        go_wp2_with fail
        go_roundw
        case rel => exact ⟨i + 1, by go_num, by omega, (HG.out.trans G4.out).drew⟩
        case measure => simp [intOf]; omega
    · have hLL : (l.length : Int) ≤ 100000 := by have := HLL.out; omega
      go_wp2_with fail
      go_ret
      exact ⟨_, rfl, G1.out.trans HG.out, HR.out.up (Gr.up HG.out M)⟩
theorem eqm133 (b : Nat) (w : World) : (binOp .eql 133 (.map (some b)) (.map none)).run Tryz.prog w = .ok (.bool false) w := by kernel_rfl
theorem eqm76 (b : Nat) (w : World) : (binOp .eql 76 (.map (some b)) (.map none)).run Tryz.prog w = .ok (.bool false) w := by kernel_rfl
theorem clone133_any (mb : Nat) (kv : List (Int × Value)) (w : World) (h : MI w mb kv) : Calls Tryz.prog 127 #[.map (some mb)] w (fun e w' => ∃ b', e = .returned (.map (some b')) ∧ w.heap.size ≤ b' ∧ Gr w w' ∧ MI w' b' kv) := by
  obtain ⟨o, hcl, hmi⟩ := h.clone (P := Tryz.prog) 133
  have HMI := hid hmi
  have he := eqm133 mb w
  have hcf : (callFunc 84 #[.iface 133 (.map (some mb))]).run Tryz.prog w = .ok (.value (.iface 133 (.map (some w.heap.size)))) (w.alloc o) := by
    rw [run_callFunc_extern Tryz.func84 (by kernel_rfl) (by kernel_rfl) (by kernel_rfl) (e := Extern.MapsClone.clone) (by kernel_rfl), hcl]
    rfl
  have hta : (Instr.typeAssert (.iface 133 (.map (some w.heap.size))) 20 133 false).run Tryz.prog (w.alloc o) = .ok (.map (some w.heap.size)) (w.alloc o) := by
    simp [Instr.typeAssert, run_underlying Tryz.underlying133, Result.andThen]
  clear h hmi hcl
  go_enter Tryz.func127, Tryz.ntmps127
  go_wp2_with fail
  go_ret
  exact ⟨_, rfl, Nat.le_refl _, (Gr.refl w).alloc _, HMI.out⟩
theorem clone76_any (mb : Nat) (kv : List (Int × Value)) (w : World) (h : MI w mb kv) : Calls Tryz.prog 48 #[.map (some mb)] w (fun e w' => ∃ b', e = .returned (.map (some b')) ∧ w.heap.size ≤ b' ∧ Gr w w' ∧ MI w' b' kv) := by
  obtain ⟨o, hcl, hmi⟩ := h.clone (P := Tryz.prog) 76
  have HMI := hid hmi
  have he := eqm76 mb w
  have hcf : (callFunc 84 #[.iface 76 (.map (some mb))]).run Tryz.prog w = .ok (.value (.iface 76 (.map (some w.heap.size)))) (w.alloc o) := by
    rw [run_callFunc_extern Tryz.func84 (by kernel_rfl) (by kernel_rfl) (by kernel_rfl) (e := Extern.MapsClone.clone) (by kernel_rfl), hcl]
    rfl
  have hta : (Instr.typeAssert (.iface 76 (.map (some w.heap.size))) 20 76 false).run Tryz.prog (w.alloc o) = .ok (.map (some w.heap.size)) (w.alloc o) := by
    simp [Instr.typeAssert, run_underlying Tryz.underlying76, Result.andThen]
  clear h hmi hcl
  go_enter Tryz.func48, Tryz.ntmps48
  go_wp2_with fail
  go_ret
  exact ⟨_, rfl, Nat.le_refl _, (Gr.refl w).alloc _, HMI.out⟩
def TwL (w : World) (M : Bl) (m : Rows) (k' mb' : Nat) (w' : World) : Prop :=
  w.heap.size ≤ k' ∧ w.heap.size ≤ mb' ∧ k' < w'.heap.size ∧ mb' < w'.heap.size ∧ k' ≠ mb' ∧ Gr w w' ∧ ∀ M' : Bl, (∀ b, b < w.heap.size → M' b → M b) → ListR w' M' k' mb' m
set_option maxHeartbeats 1000000 in
theorem twinL_any (k mb : Nat) (m : Rows) (M : Bl) (w : World) (h : ListR w M k mb m) :
    Calls Tryz.prog 83 #[.pointer (some ⟨k, 0, none⟩)] w (fun e w' => ∃ k' mb', e = .returned (.pointer (some ⟨k', 0, none⟩)) ∧ TwL w M m k' mb' w') := by
  have H := hid h
  have c0 := h.c0
  have c1 := h.c1
  have hk := h.lt.1
  obtain ⟨kv, h1, h2⟩ := h.map
  have HC := hid (fun W (y : Gr w W) => clone133_any mb kv W (h1.gr y))
  have HR := hid h2
  clear h h1 h2
  go_enter Tryz.func83, Tryz.ntmps83
  go_wp2_with fail
  refine wp_region_planM [(0, false), (1, false), (2, false), (3, false), (4, false), (5, false), (6, false), (7, false), (8, true), (9, false), (10, true), (11, true)] (fun W => Gr w W) (by kernel_rfl) (by kernel_rfl) (fun _ _ d _ _ h => by cases d <;> exact h) (Gr.refl w).drew (fun _ => ?_)
  iterate 8 (refine pm_take (v := ?_) rfl (by rfl) ?_ ?_; rotate_left; (focus (intro W9 hW9; obtain ⟨x9, rfl⟩ : ∃ x : Ext w, W9 = x.val := ⟨⟨W9, hW9⟩, rfl⟩; go_simp; (try with_reducible rfl); done)); (try simp only [AP]))
  refine pm_call rfl (by rfl) (fun K hK => ?_)
  go_simp
  go_at_call 127
  refine (HC.out _ (Gr.refl w).drew).mono ?_
  rintro en w2 ⟨b', rfl, hb', g2, hm2⟩
  have G2 := hid ((Gr.refl w).drew.trans g2)
  have HM2 := hid hm2
  refine hK.out (fun W => Gr w W) _ _ G2.out (fun _ g => g) (fun _ => ?_)
  clear hK K g2 hm2
  (try simp only [AP])
  iterate 1 (refine pm_take (v := ?_) rfl (by rfl) ?_ ?_; rotate_left; (focus (intro W9 hW9; obtain ⟨x9, rfl⟩ : ∃ x : Ext w, W9 = x.val := ⟨⟨W9, hW9⟩, rfl⟩; go_simp; (try with_reducible rfl); done)); (try simp only [AP]))
  refine pm_call rfl (by rfl) (fun K hK => ?_)
  go_simp
  refine hK.out (fun W => Gr w W) _ _ (G2.out.alloc _) (fun _ g => g) (fun _ => ?_)
  clear hK K
  (try simp only [AP])
  refine pm_last rfl (by rfl) (fun K hK => ?_)
  go_simp
  refine hK.out _ _ ?_
  clear hK K
  go_wp2_with fail
  go_ret
  have hlt := HM2.out.lt
  have hsz := G2.out.size
  have hb'' : w.heap.size ≤ b' := by simpa using hb'
  refine ⟨w2.heap.size, b', rfl, hsz, hb'', by simp, by simp; omega, by omega, G2.out.alloc _, fun M' hM => ⟨heap_alloc_new w2 _, kv, HM2.out.gr ((Gr.refl _).alloc _), HR.out.mono fun a v ht => ht.up ⟨(G2.out.alloc _).mod M, hM⟩⟩⟩
set_option maxHeartbeats 1000000 in
theorem cloneI_own (A : Option Addr) (c : Nat) (L : List It) (w : World) (hr : Row w A L) (hn : A = none → c = 0) (hl : L.length ≤ 1000000) :
    Calls Tryz.prog 85 #[.slice A L.length c] w (fun e w' => ∃ v', e = .returned v' ∧ Gr w w' ∧ w'.ownsRow w.heap.size 92 6 v' L.length (cs6 L)) := by
  obtain ⟨i0, hi0, hz0, hz1, hz2⟩ := info_parts info92
  have he := fun (w : World) (n c n' c' : Nat) (a : Option Addr) => Lib.run_eql_slice_nil (P := Tryz.prog) w 115 92 a n c n' c' Tryz.underlying115
  rcases A with _ | ad
  · have hL : L = [] := by
      by_cases h0 : L = []
      · exact h0
      · obtain ⟨_, _, e, _⟩ := hr h0; cases e
    subst hL
    have hc0 := hn rfl
    subst hc0
    go_enter Tryz.func85, Tryz.ntmps85
    go_wp2_with fail
    go_ret
    exact ⟨.slice none 0 0, rfl, Gr.refl _, World.ownsRow_nil _ _ _ _⟩
  · have hnews : ∀ W, Gr w W → ∀ j u, (cs6 L)[j]? = some u → W.cell? (ad.add j) = some u := by
      intro W g j u hu
      have hj := (List.getElem?_eq_some_iff.1 hu).1
      rw [cs6_length] at hj
      obtain ⟨b, off, e, hc⟩ := (hr.gr g) (by rintro rfl; simp at hj)
      injection e with e
      subst e
      have e2 : j = j / 6 * 6 + j % 6 := by omega
      rw [e2, cs6_get L (j / 6) (j % 6) (by omega) (Nat.mod_lt _ (by omega))] at hu
      have := hc (j / 6) (by omega) (j % 6) u hu
      rw [Addr.add_lit, e2, ← Nat.add_assoc]
      exact this
    have HN := hid hnews
    clear hr hn hnews
    go_enter Tryz.func85, Tryz.ntmps85
    go_wp2_with (at_builtin; refine wpList_append_own _ rfl _ _ 115 rfl w.heap.size 92 i0 _ 6 48 Tryz.underlying115 hi0 hz0 hz1 hz2 rfl (by decide) (.slice (some ⟨w.heap.size, 0, none⟩) 0 0) 0 [] rfl (World.ownsRow_made w #[] 0 (Nat.le_refl _) (by decide) rfl) ad L.length c (cs6 L) rfl (cs6_length L) (HN.out _ ((Gr.refl w).alloc _)) (cs6_one L) (by unfold maxLen; omega) (by omega) (by simp) ?_; intro v1 w1 hown1 hg1 _)
    go_ret
    have hgr : Gr w w1 := gr_grown ((Gr.refl w).alloc _) hg1 (by intro k hk; simp [Value.ownBlock] at hk; omega)
    exact ⟨v1, rfl, hgr, by simpa using hown1⟩
def TwH (w : World) (L : List It) (g' : Nat) (v' : Value) (w' : World) : Prop :=
  w.heap.size ≤ g' ∧ (∀ b, v'.ownBlock = some b → w.heap.size ≤ b) ∧ Gr w w' ∧ HB 0 w' g' v' L
theorem twinH_any (g : Nat) (v : Value) (L : List It) (w : World) (h : HB 0 w g v L) (hl : L.length ≤ 1000000) :
    Calls Tryz.prog 49 #[.pointer (some ⟨g, 0, none⟩)] w (fun e w' => ∃ g' v', e = .returned (.pointer (some ⟨g', 0, none⟩)) ∧ TwH w L g' v' w') := by
  obtain ⟨A, cp, rfl⟩ := h.shape
  have c0 := h.c0
  have hlt := h.lt
  have hn : A = none → cp = 0 := by
    rintro rfl
    rcases h.row.2 with ⟨e, _⟩ | ⟨g', cap, cur, e, _⟩
    · injection e with _ _ e
    · cases e
  have HC := hid (cloneI_own A cp L w (h.arow rfl) hn hl)
  clear h
  go_enter Tryz.func49, Tryz.ntmps49
  go_wp2_with (go_at_call 85; refine HC.out.mono ?_; rintro e w2 ⟨v1, rfl, g1, ho⟩; obtain ⟨A', c', rfl, _⟩ := own_shape ho; have HO := hid ho; have G1 := hid g1; clear ho g1)
  go_ret
  refine ⟨w2.heap.size, .slice A' L.length c', rfl, G1.out.size, fun b e => (HO.out.lt b e).1, G1.out.alloc _, Nat.zero_le _, heap_alloc_new w2 _, ?_⟩
  exact (own_gr HO.out ((Gr.refl _).alloc _)).mono (Nat.zero_le _)
theorem addD_srt {L : List It} (h : Srt L) (x : It) : Srt (addD L x) := by
  unfold addD
  split
  · exact h
  · rename_i hx; exact ins_srt h (by simpa using hx)
theorem addD_len (L : List It) (x : It) : (addD L x).length ≤ L.length + 1 := by
  unfold addD
  split
  · omega
  · rw [ins_length]; exact Nat.le_refl _
theorem dropD_len (L : List It) (f r : Int) : (dropD L f r).length ≤ L.length := List.length_filter_le _ _
theorem dropD_srt {L : List It} (h : Srt L) (f r : Int) : Srt (dropD L f r) := List.Pairwise.sublist List.filter_sublist h
structure ROk (m : Rows) : Prop where
  nodup : (m.map (·.1)).Nodup
  len : ∀ x ∈ m, 0 < x.2.length ∧ x.2.length ≤ 1024
theorem rowOf_len {m : Rows} (h : ROk m) (list : Int) : (rowOf m list).length ≤ 1024 := by
  unfold rowOf
  cases hx : lk m list with
  | none => simp
  | some l => exact (h.len _ (lk_mem hx)).2
theorem ROk.push {m m' : Rows} {list : Int} {t : Task} (h : ROk m) (hp : pushR m list t = some m') : ROk m' := by
  unfold pushR at hp
  split at hp
  · cases hp
  · rename_i hl
    injection hp with hp
    subst hp
    refine ⟨up_nodup h.nodup _ _, fun x hx => ?_⟩
    rcases mem_up hx with rfl | hx
    · simp only [List.length_append, List.length_cons, List.length_nil]; omega
    · exact h.len x hx
theorem ROk.pop {m : Rows} {list : Int} (h : ROk m) : ROk (popR m list) := by
  have hl := rowOf_len h list
  unfold popR
  split
  · exact h
  · rename_i t r e
    rw [e] at hl
    unfold setR
    split
    · exact ⟨rm_nodup h.nodup _, fun x hx => h.len x ((rm_sub _ _).subset hx)⟩
    · rename_i hr
      refine ⟨up_nodup h.nodup _ _, fun x hx => ?_⟩
      rcases mem_up hx with rfl | hx
      · simp only [List.length_cons] at hl
        rcases r with _ | ⟨a, r⟩
        · simp at hr
        · simp only [List.length_cons] at hl ⊢; omega
      · exact h.len x hx
structure AOk (m : Rows) : Prop extends ROk m where
  one : ∀ x ∈ m, ∀ t ∈ x.2, t.turn = -1
theorem AOk.row {m : Rows} (h : AOk m) (list : Int) : ∀ t ∈ rowOf m list, t.turn = -1 := by
  unfold rowOf
  cases hx : lk m list with
  | none => simp
  | some l => exact h.one _ (lk_mem hx)
theorem AOk.push {m m' : Rows} {list : Int} {t : Task} (h : AOk m) (ht : t.turn = -1) (hp : pushR m list t = some m') : AOk m' := by
  refine ⟨h.toROk.push hp, ?_⟩
  unfold pushR at hp
  split at hp
  · cases hp
  · injection hp with hp
    subst hp
    intro x hx
    rcases mem_up hx with rfl | hx
    · intro u hu
      rcases List.mem_append.1 hu with hu | hu
      · exact h.row list u hu
      · rw [List.mem_singleton.1 hu]; exact ht
    · exact h.one x hx
theorem AOk.pop {m : Rows} {list : Int} (h : AOk m) : AOk (popR m list) := by
  refine ⟨h.toROk.pop, ?_⟩
  have hr := h.row list
  unfold popR
  split
  · exact h.one
  · rename_i t r e
    rw [e] at hr
    unfold setR
    split
    · exact fun x hx => h.one x ((rm_sub _ _).subset hx)
    · intro x hx
      rcases mem_up hx with rfl | hx
      · exact fun u hu => hr u (List.mem_cons_of_mem _ hu)
      · exact h.one x hx
structure EOk (E : ES) : Prop where
  sh : 0 ≤ E.shard ∧ E.shard < E.groups ∧ E.groups ≤ 8
  now : 0 ≤ E.now ∧ E.now ≤ 1099511627776
  rn : (E.runs.map (·.1)).Nodup
  run : ∀ x ∈ E.runs, FOk x.2.f ∧ x.2.f.id = x.1
  d : ROk E.dec
  a : AOk E.act
  due : Srt E.due
theorem EOk.get {E : ES} (h : EOk E) {id : Int} {r : RunS} (hr : lk E.runs id = some r) : FOk r.f ∧ r.f.id = id := h.run _ (lk_mem hr)
structure Nx (m : Nat) (E E' : ES) : Prop where
  ok : EOk E → EOk E'
  due : E'.due.length ≤ E.due.length + m
  now : E'.now = E.now
  shard : E'.shard = E.shard
  groups : E'.groups = E.groups
theorem Nx.refl (m : Nat) (E : ES) : Nx m E E := ⟨id, by omega, rfl, rfl, rfl⟩
theorem Nx.trans {a b : Nat} {E E' E'' : ES} (h : Nx a E E') (k : Nx b E' E'') : Nx (a + b) E E'' :=
  ⟨fun e => k.ok (h.ok e), by have := h.due; have := k.due; omega, k.now.trans h.now, k.shard.trans h.shard, k.groups.trans h.groups⟩
theorem Nx.mono {a b : Nat} {E E' : ES} (h : Nx a E E') (hab : a ≤ b) : Nx b E E' := ⟨h.ok, by have := h.due; omega, h.now, h.shard, h.groups⟩
theorem nx_run {E : ES} {id : Int} {r : RunS} (h : EOk E → FOk r.f ∧ r.f.id = id) : Nx 0 E { E with runs := up E.runs id r } :=
  ⟨fun e => ⟨e.sh, e.now, up_nodup e.rn _ _, fun x hx => by
    rcases mem_up hx with rfl | hx
    · exact h e
    · exact e.run x hx, e.d, e.a, e.due⟩, by simp, rfl, rfl, rfl⟩
theorem nx_due {E : ES} {L : List It} {m : Nat} (h : Srt E.due → Srt L) (hl : L.length ≤ E.due.length + m) : Nx m E { E with due := L } :=
  ⟨fun e => ⟨e.sh, e.now, e.rn, e.run, e.d, e.a, h e.due⟩, hl, rfl, rfl, rfl⟩
theorem nx_dec {E : ES} {m : Rows} (h : ROk E.dec → ROk m) : Nx 0 E { E with dec := m } := ⟨fun e => ⟨e.sh, e.now, e.rn, e.run, h e.d, e.a, e.due⟩, by simp, rfl, rfl, rfl⟩
theorem nx_act {E : ES} {m : Rows} (h : AOk E.act → AOk m) : Nx 0 E { E with act := m } := ⟨fun e => ⟨e.sh, e.now, e.rn, e.run, e.d, h e.a, e.due⟩, by simp, rfl, rfl, rfl⟩
theorem nx_out0 {E E' : ES} {id n : Int} {o : Out} (h : out0 E id n o = some E') : Nx 1 E E' ∧ E'.runs = E.runs := by
  unfold out0 at h
  split at h
  · obtain ⟨m, hm, rfl⟩ := Option.map_eq_some_iff.1 h
    exact ⟨(nx_dec fun e => e.push hm).mono (by omega), rfl⟩
  split at h
  · obtain ⟨m, hm, rfl⟩ := Option.map_eq_some_iff.1 h
    exact ⟨(nx_act fun e => e.push rfl hm).mono (by omega), rfl⟩
  · injection h with h
    subst h
    exact ⟨nx_due (fun e => addD_srt e _) (addD_len _ _), rfl⟩
theorem nx_outs0 {id n : Int} : ∀ {l : List Out} {E E' : ES}, outs0 E id n l = some E' → Nx l.length E E' ∧ E'.runs = E.runs
  | [], E, E', h => by injection h with h; subst h; exact ⟨Nx.refl _ _, rfl⟩
  | o :: r, E, E', h => by
    obtain ⟨E1, h1, h2⟩ := Option.bind_eq_some_iff.1 h
    obtain ⟨a, b⟩ := nx_out0 h1
    obtain ⟨c, d⟩ := nx_outs0 h2
    exact ⟨(a.trans c).mono (by simp only [List.length_cons]; omega), d.trans b⟩
theorem newF_outs {id run list n now : Int} {data : List UInt8} {F : FS} {os : List Out} (h : newF id run list n data now = some (F, os)) : os = [⟨1, list, 2, 0, 0, 0, 0, []⟩] := by
  unfold newF at h
  split at h
  · injection h with h
    have : os = (scheduleF (putF (f0 id run) ⟨1, now, 0, 0, list, n, data⟩) now).2 := by rw [h]
    rw [this]
    rfl
  · cases h
theorem nx_begin {E E' : ES} {id list n pf pr now k : Int} {data : List UInt8} (h : beginF E id list n data pf pr now = some (E', k)) : Nx 1 E E' := by
  unfold beginF at h
  simp only at h
  split at h
  · cases h
  · rename_i f os hn
    obtain ⟨E1, h1, h2⟩ := Option.map_eq_some_iff.1 h
    injection h2 with h2 _
    subst h2
    have ho := newF_outs hn
    subst ho
    have a := nx_run (E := E) (id := id) (r := ⟨f, pf, pr⟩) (fun _ => ⟨(FOk.new hn).1, (FOk.new hn).2.1⟩)
    exact (a.trans (nx_outs0 h1).1).mono (by simp)
structure GoodF (act : FS → FR) : Prop where
  ok : ∀ F, FOk F → FOk (act F).1 ∧ (act F).1.id = F.id ∧ (act F).1.run = F.run
  outs : ∀ F, (act F).2.1.length ≤ 100
theorem goodF_try {data : List UInt8} {now : Int} {act : FS → FR} (hg : data.length ≤ 4096 → Good act) (ho : ∀ F, (act F).2.1.length ≤ 100) : GoodF (fun F => tryF F data now act) := by
  constructor
  · intro F hF
    by_cases hr : rightF F data now = false
    · unfold tryF; rw [if_pos hr]; exact ⟨hF, rfl, rfl⟩
    · have hd : data.length ≤ 4096 := by
        unfold rightF at hr
        simp only [Bool.not_eq_false, Bool.and_eq_true, decide_eq_true_eq] at hr
        exact hr.1.1.1
      refine ⟨hF.tryF (hg hd), ?_⟩
      obtain ⟨_, _, _, h4, h5⟩ := hg hd F hF
      unfold tryF
      repeat' split
      all_goals first | exact ⟨rfl, rfl⟩ | exact ⟨h4, h5⟩
  · intro F
    unfold tryF
    repeat' split
    all_goals first | exact ho F | simp
theorem wakeF_outs (F : FS) (now : Int) : (wakeF F now).2.length ≤ 1 := by
  unfold wakeF
  split <;> simp [scheduleF]
theorem ends_outs (kind ref : Int) (data : List UInt8) (now : Int) (F : FS) : (endsF kind ref data now F).2.1.length ≤ 100 := by
  unfold endsF
  repeat' split
  all_goals first | (simp; done) | exact Nat.le_trans (wakeF_outs _ _) (by omega)
theorem dones_outs (now : Int) : ∀ (l : List Dec) (x : FS × List Out), (donesF now x l).2.length ≤ x.2.length + l.length
  | [], x => by simp [donesF]
  | d :: r, x => by
    refine Nat.le_trans (dones_outs now r _) ?_
    have : (doneF x.1 d now).2.length ≤ 1 := by
      unfold doneF closeF
      repeat' split
      all_goals simp
    simp only [List.length_append, List.length_cons]
    omega
theorem good_signal (data : List UInt8) (now : Int) : GoodF (fun F => signalF F data now) := goodF_try signal_good fun F => Nat.le_trans (wakeF_outs _ _) (by omega)
theorem good_cancel (now : Int) : GoodF (fun F => cancelF F now) := goodF_try (fun _ => cancel_good) fun F => by
  unfold cancelD
  split
  · simp
  · exact Nat.le_trans (wakeF_outs _ _) (by omega)
theorem good_terminate (data : List UInt8) (now : Int) : GoodF (fun F => terminateF F data now) := goodF_try terminate_good fun F => by
  simp [terminateD, closeF, ok]
theorem good_decides (ref turn now : Int) : GoodF (fun F => decidesF F ref turn now) := goodF_try (fun _ => decides_good) fun F => by
  unfold decidesD
  split <;> simp
theorem good_works (ref now : Int) : GoodF (fun F => worksF F ref now) := goodF_try (fun _ => works_good) fun F => by
  unfold worksD
  repeat' split
  all_goals simp
theorem good_worked (ref : Int) (data : List UInt8) (good : Bool) (now : Int) : GoodF (fun F => workedF F ref data good now) := goodF_try (ends_good (by cases good <;> simp)) fun F => ends_outs _ _ _ _ _
theorem good_childEnds (id status : Int) (data : List UInt8) (now : Int) : GoodF (fun F => childEndsF F id status data now) := by
  have h := goodF_try (data := data) (now := now) (childEnds_good (id := id) (status := status) (now := now)) fun F => by
    unfold childEndsD
    repeat' split
    all_goals first | (simp; done) | exact Nat.le_trans (wakeF_outs _ _) (by omega)
  constructor
  · intro F hF
    unfold childEndsF
    split
    · exact ⟨hF, rfl, rfl⟩
    · exact h.ok F hF
  · intro F
    unfold childEndsF
    split
    · simp
    · exact h.outs F
theorem good_decide (ref turn : Int) (l : List Dec) (now : Int) : GoodF (fun F => decideF F ref turn l now) := goodF_try (fun _ => decide_good) fun F => by
  unfold decideD
  split
  · simp
  split
  · simp [faultyF, scheduleF]
  rename_i hbad
  have hl : l.length ≤ 32 := by
    unfold badF at hbad
    simp only [Bool.or_eq_true, decide_eq_true_eq, not_or, Bool.not_eq_true] at hbad
    omega
  have hd := fun x => dones_outs now l x
  split
  · simp [faultyF, scheduleF]
  split
  · have := hd (putF F ⟨4, now, F.begun, 0, 0, 0, []⟩, [])
    simp only [ok, List.length_append, scheduleF, List.length_cons, List.length_nil] at this ⊢
    omega
  · have := hd (putF F ⟨4, now, F.begun, 0, 0, 0, []⟩, [])
    simp only [ok, List.length_nil] at this ⊢
    omega
theorem good_fire (kind ref turn now : Int) : GoodF (fun F => fireF F kind ref turn now) := by
  have h1 := goodF_try (data := []) (now := now) (fun _ => missed_good (ref := ref) (turn := turn) (now := now)) fun F => by
    unfold missedD
    split <;> simp [ok, scheduleF]
  have h2 := goodF_try (data := []) (now := now) (fun _ => lapsed_good (ref := ref) (turn := turn) (now := now)) fun F => by
    unfold lapsedD
    split
    · simp
    · exact ends_outs _ _ _ _ _
  have h3 := goodF_try (data := []) (now := now) (fun _ => fired_good (ref := ref) (turn := turn) (now := now)) fun F => by
    unfold firedD
    repeat' split
    all_goals first | (simp; done) | exact Nat.le_trans (wakeF_outs _ _) (by omega)
  constructor
  · intro F hF
    unfold fireF
    split
    · exact h1.ok F hF
    split
    · exact h2.ok F hF
    split
    · exact h3.ok F hF
    · exact ⟨hF, rfl, rfl⟩
  · intro F
    unfold fireF
    split
    · exact h1.outs F
    split
    · exact h2.outs F
    split
    · exact h3.outs F
    · simp
theorem childEnds_outs (id status : Int) (data : List UInt8) (now : Int) (F : FS) : (childEndsF F id status data now).2.1.length ≤ 1 := by
  have h : (childEndsD id status data now F).2.1.length ≤ 1 := by
    unfold childEndsD
    repeat' split
    all_goals first | (simp; done) | exact wakeF_outs _ _
  unfold childEndsF tryF
  repeat' split
  all_goals first | exact h | simp
theorem nx_ends {E E' : ES} {id now child status : Int} {data : List UInt8} (h : endsE E id now child status data = some E') : Nx 1 E E' := by
  unfold endsE at h
  split at h
  · injection h with h; subst h; exact Nx.refl _ _
  · rename_i r hr
    simp only at h
    have g := good_childEnds child status data now
    split at h
    · have a := nx_run (E := E) (id := id) (r := { r with f := (childEndsF r.f child status data now).1 }) (fun e => ⟨(g.ok _ (e.get hr).1).1, (g.ok _ (e.get hr).1).2.1.trans (e.get hr).2⟩)
      have b := (nx_outs0 h).1
      exact (a.trans b).mono (Nat.le_trans (Nat.le_of_eq (Nat.zero_add _)) (childEnds_outs child status data now r.f))
    split at h
    · cases h
    · injection h with h; subst h; exact Nx.refl _ _
theorem nx_child {E E' : ES} {id n now : Int} {o : Out} (h : childE E id n now o = some E') : Nx 1 E E' := by
  unfold childE at h
  split at h
  · exact nx_ends h
  · obtain ⟨⟨E1, k⟩, h1, rfl⟩ := Option.map_eq_some_iff.1 h
    exact nx_begin h1
theorem nx_out {E E' : ES} {id n now : Int} {o : Out} (h : outE E id n now o = some E') : Nx 1 E E' := by
  unfold outE at h
  split at h
  · exact (nx_out0 h).1
  split at h
  · exact nx_child h
  have d : Nx 0 E { E with due := dropD E.due id n } := nx_due (fun e => dropD_srt e _ _) (Nat.le_trans (dropD_len _ _ _) (by omega))
  simp only at h
  split at h
  · cases h
  · rename_i r hr
    split at h
    · split at h
      · cases h
      · obtain ⟨⟨E1, k⟩, h1, rfl⟩ := Option.map_eq_some_iff.1 h
        exact (d.trans (nx_begin h1)).mono (by omega)
    · split at h
      · injection h with h; subst h; exact d.mono (by omega)
      · split at h
        · injection h with h; subst h; exact d.mono (by omega)
        · exact (d.trans (nx_ends h)).mono (by omega)
theorem nx_outs {id n now : Int} : ∀ {l : List Out} {E E' : ES}, outsE E id n now l = some E' → Nx l.length E E'
  | [], E, E', h => by injection h with h; subst h; exact Nx.refl _ _
  | o :: r, E, E', h => by
    obtain ⟨E1, h1, h2⟩ := Option.bind_eq_some_iff.1 h
    exact ((nx_out h1).trans (nx_outs h2)).mono (by simp only [List.length_cons]; omega)
theorem nx_change {E E' : ES} {id e : Int} {act : FS → FR} (g : GoodF act) (h : changeE E id act = (e, some E')) : Nx 100 E E' := by
  unfold changeE at h
  split at h
  · cases h
  · rename_i r hr
    simp only at h
    split at h
    · cases h
    · injection h with _ h
      have a := nx_run (E := E) (id := id) (r := { r with f := (act r.f).1 }) (fun e => ⟨(g.ok _ (e.get hr).1).1, (g.ok _ (e.get hr).1).2.1.trans (e.get hr).2⟩)
      exact (a.trans (nx_outs h)).mono (Nat.le_trans (Nat.le_of_eq (Nat.zero_add _)) (g.outs r.f))
theorem nx_pop {E : ES} {d : Bool} {list : Int} : Nx 0 E (popE E d list) := by
  unfold popE setRowsE rowsE
  cases d
  · exact nx_act fun e => e.pop
  · exact nx_dec fun e => e.pop
theorem good_give (d : Bool) (t : Task) (now : Int) : GoodF (giveD d t now) := by
  cases d
  · exact good_works _ _
  · exact good_decides _ _ _
theorem nx_give {E E' : ES} {d : Bool} {t : Task} {a : Ans} (h : giveE E d t = some (a, E')) : Nx 100 E E' := by
  unfold giveE at h
  split at h
  · cases h
  · split at h
    · rename_i e E1 hc
      split at h
      · injection h with h
        injection h with _ h
        subst h
        exact nx_change (good_give _ _ _) hc
      · cases h
    · cases h
theorem nx_pollL {d : Bool} {list : Int} : ∀ (l : List Task) (E : ES), Nx 100 E (pollL d list E l).2
  | [], E => Nx.refl _ _
  | t :: r, E => by
    unfold pollL
    split
    · split
      · exact Nx.refl _ _
      · rename_i a E' h
        exact ((nx_give h).trans nx_pop).mono (by omega)
    · exact (nx_pop.trans (nx_pollL r _)).mono (by omega)
theorem good_ask (sh : Int → Int) (E : ES) (c : Call) : GoodF (askE sh E c) := by
  unfold askE
  constructor
  · intro F hF
    repeat' split
    · exact (good_signal _ _).ok F hF
    · exact (good_cancel _).ok F hF
    · exact (good_terminate _ _).ok F hF
    · exact (good_decide _ _ _ _).ok F hF
    · exact (good_worked _ _ _ _).ok F hF
  · intro F
    repeat' split
    · exact (good_signal _ _).outs F
    · exact (good_cancel _).outs F
    · exact (good_terminate _ _).outs F
    · exact (good_decide _ _ _ _).outs F
    · exact (good_worked _ _ _ _).outs F
theorem nx_do {sh : Int → Int} {E E' : ES} {c : Call} {a : Ans} (h : doE sh E c = (a, some E')) : Nx 100 E E' := by
  unfold doE at h
  split at h
  · unfold startE at h
    split at h
    · injection h with _ h; injection h with h; subst h; exact Nx.refl _ _
    · split at h
      · cases h
      · rename_i E1 n hb
        injection h with _ h; injection h with h; subst h
        exact (nx_begin hb).mono (by omega)
  split at h
  · injection h with _ h; injection h with h; subst h; exact nx_pollL _ _
  split at h
  · injection h with _ h; injection h with h; subst h; exact Nx.refl _ _
  split at h
  · injection h with _ h; injection h with h; subst h; exact Nx.refl _ _
  split at h
  · injection h with _ h; injection h with h; subst h; exact Nx.refl _ _
  split at h
  · injection h with _ h; injection h with h; subst h; exact Nx.refl _ _
  · injection h with h1 h2
    exact nx_change (e := (changeE E (flowOfE c) (askE sh E c)).1) (good_ask sh E c) (Prod.ext rfl h2)
theorem nx_call (sh : Int → Int) (E : ES) (c : Call) : Nx 100 E (callE sh E c).2 := by
  unfold callE
  split
  · exact Nx.refl _ _
  · split
    · rename_i a E' h; exact nx_do h
    · exact Nx.refl _ _
theorem ok_wake_kind (F : FS) (now : Int) : ∀ o ∈ (ok (wakeF F now)).2.1, o.kind = 1 := by
  unfold wakeF
  split <;> simp [scheduleF, ok]
theorem ends_kind (kind ref : Int) (data : List UInt8) (now : Int) (F : FS) : ∀ o ∈ (endsF kind ref data now F).2.1, o.kind = 1 := by
  unfold endsF
  repeat' split
  all_goals first | (simp; done) | exact ok_wake_kind _ _
theorem try_kind {data : List UInt8} {now : Int} {act : FS → FR} {F : FS} (h : ∀ o ∈ (act F).2.1, o.kind = 1) : ∀ o ∈ (tryF F data now act).2.1, o.kind = 1 := by
  unfold tryF
  repeat' split
  all_goals first | exact h | simp
theorem fire_kind (F : FS) (kind ref turn now : Int) : ∀ o ∈ (fireF F kind ref turn now).2.1, o.kind = 1 := by
  unfold fireF
  split
  · refine try_kind ?_
    unfold missedD
    split <;> simp [scheduleF, ok]
  split
  · refine try_kind ?_
    unfold lapsedD
    split
    · simp
    · exact ends_kind _ _ _ _ _
  split
  · refine try_kind ?_
    unfold firedD
    repeat' split
    all_goals first | (simp; done) | exact ok_wake_kind _ _
  · simp
theorem childEnds_kind (F : FS) (id status : Int) (data : List UInt8) (now : Int) : ∀ o ∈ (childEndsF F id status data now).2.1, o.kind = 1 := by
  unfold childEndsF
  split
  · simp
  refine try_kind ?_
  unfold childEndsD
  repeat' split
  all_goals first | (simp; done) | exact ok_wake_kind _ _
theorem outsE_tasks {id n now : Int} : ∀ {l : List Out} {E E' : ES}, (∀ o ∈ l, o.kind = 1) → outsE E id n now l = some E' → E'.due = E.due
  | [], E, E', _, h => by injection h with h; subst h; rfl
  | o :: r, E, E', hk, h => by
    obtain ⟨E1, h1, h2⟩ := Option.bind_eq_some_iff.1 h
    have k := hk o (List.mem_cons_self ..)
    have e2 := outsE_tasks (fun o ho => hk o (List.mem_cons_of_mem _ ho)) h2
    rw [e2]
    unfold outE at h1
    rw [if_pos (.inl k)] at h1
    unfold out0 at h1
    rw [if_pos k] at h1
    obtain ⟨m, hm, rfl⟩ := Option.map_eq_some_iff.1 h1
    rfl
theorem nx_fire {E E' : ES} {i : It} (h : fireE E i = some E') : Nx 0 E E' ∧ E'.due = E.due := by
  unfold fireE at h
  split at h
  · injection h with h; subst h; exact ⟨Nx.refl _ _, rfl⟩
  · rename_i r hr
    split at h
    · injection h with h; subst h; exact ⟨Nx.refl _ _, rfl⟩
    · simp only at h
      have g := good_fire i.2.2.2.2.2 i.2.2.2.1 i.2.2.2.2.1 i.1
      split at h
      · have a := nx_run (E := E) (id := i.2.1) (r := { r with f := (fireF r.f i.2.2.2.2.2 i.2.2.2.1 i.2.2.2.2.1 i.1).1 }) (fun e => ⟨(g.ok _ (e.get hr).1).1, (g.ok _ (e.get hr).1).2.1.trans (e.get hr).2⟩)
        have hd := outsE_tasks (fire_kind _ _ _ _ _) h
        obtain ⟨k1, k2, k3, k4, k5⟩ := a.trans (nx_outs h)
        exact ⟨⟨k1, by rw [hd]; simp, k3, k4, k5⟩, hd⟩
      split at h
      · cases h
      · injection h with h; subst h; exact ⟨Nx.refl _ _, rfl⟩
theorem nx_tick (end_ : Int) : ∀ (n : Nat) (E : ES), Nx 0 E (tickL end_ n E)
  | 0, E => Nx.refl _ _
  | n + 1, E => by
    unfold tickL
    split
    · exact Nx.refl _ _
    · rename_i i r hd
      split
      · exact Nx.refl _ _
      · have a : Nx 0 E { E with due := r } := nx_due (fun e => by rw [hd] at e; exact (List.pairwise_cons.1 e).2) (by rw [hd]; simp only [List.length_cons]; omega)
        split
        · rename_i E1 h
          exact ((a.trans (nx_fire h).1).trans (nx_tick end_ n E1)).mono (by omega)
        · have b : Nx 0 E { E with due := addD r (end_ + 1, i.2) } := nx_due (fun e => by rw [hd] at e; exact addD_srt (List.pairwise_cons.1 e).2 _) (by have := addD_len r (end_ + 1, i.2); rw [hd]; simp only [List.length_cons]; omega)
          exact (b.trans (nx_tick end_ n _)).mono (by omega)
end Go.Proofs.YtniknicnnaiilaaGreat
end
