import Derived.Test.YthiahnpijdkboaaP2
import Derived.Test.YthiahnpijdkboaaC
namespace Go.Proofs.Ythiahnpijdkboaa
open Go.RowKit Go.Ext Go.BigFrame
attribute [local go_sem] Ext.cell Ext.frozen Ext.lt Ext.le s1 s2 s3 s4 s5 s6 t1 t2 t3 t4 t5 t6
attribute [local go_sem ↓] Go.wp_at_zero Go.wp_at_succ

/-- Place and term ahead, and the entries, are others. -/
theorem RefAt.put3 {base g B : Nat} {idx term idx' term' : Int} {L M : List Ent} {v v' : Value} {w w2 : World} {xs : List Value} (h : RefAt base w g idx term L v) (hb : w2.heap[g]? = w.heap[g]?) (hB : base ≤ B) (hBw : w.heap.size ≤ B) (hm : M.length ≤ 4398046511103)
    (hi0 : 0 ≤ idx') (hi1 : idx' ≤ 1125899906842624) (ho : w2.ownsRow B 68 2 v' M.length xs) (he : Ents base w2 xs M) :
    RefAt base (((w2.setCell ⟨g, 2, none⟩ v').setCell ⟨g, 0, none⟩ (.int .i64 idx')).setCell ⟨g, 1, none⟩ (.int .i64 term')) g idx' term' M v' := by
  have hlt := h.lt
  have hg : w2.heap[g]? = Option.some (.cells #[.int .i64 idx, .int .i64 term, v] 60 (0, 0)) := hb.trans h.blk
  have h1 := heap_set _ _ 2 _ _ _ v' hg
  have h2 := heap_set _ _ 0 _ _ _ (.int .i64 idx') h1
  have h3 := heap_set _ _ 1 _ _ _ (.int .i64 term') h2
  have no : ∀ (w : World) cs, w.heap[g]? = Option.some (.cells cs 60 (0, 0)) → ¬ Imm TB base w g := by
    rintro w cs hh ⟨_, h1 | ⟨cs', t, fz, h1, h2⟩⟩
    · have := h.lo; omega
    · rw [hh] at h1
      injection h1 with h1
      injection h1 with _ ht _
      subst ht
      cases h2
  have hk : Kp TB base w2 (((w2.setCell ⟨g, 2, none⟩ v').setCell ⟨g, 0, none⟩ (.int .i64 idx')).setCell ⟨g, 1, none⟩ (.int .i64 term')) :=
    Kp.set (Kp.set (Kp.set (Kp.refl _ _ _) (no _ _ hg) _) (no _ _ h1) _) (no _ _ h2) _
  refine ⟨by rw [h3]; rfl, h.lo, ⟨xs, own_base ?_ hB, he.kp hk⟩, hi0, hi1, hm⟩
  refine ⟨ho.1, ?_⟩
  rcases ho.2 with h2 | ⟨g', cap, cur, hv, hb', hh, r⟩
  · exact .inl h2
  · have hne : g' ≠ g := fun e => by omega
    refine .inr ⟨g', cap, cur, hv, hb', ?_, r⟩
    rw [← hh]
    exact (Below.heap_setCell _ _ _ _ hne).trans ((Below.heap_setCell _ _ _ _ hne).trans (Below.heap_setCell _ _ _ _ hne))

/-- It has struck the entries up to a place. -/
def RetCR (base g : Nat) (idx term : Int) (L : List Ent) (w : World) (e : Ending) (w' : World) : Prop :=
  ∃ v, e = .returned (.int .i64 0) ∧ RefAt base w' g idx term L v ∧ Mod (fun b => b = g) w w'

set_option maxHeartbeats 2000000 in
theorem compactR_bad (base g : Nat) (idx term i : Int) (L : List Ent) (v : Value) (w : World) (h : RefAt base w g idx term L v) (hi : i < idx + 1 ∨ idx + L.length < i) :
    Calls Try.prog 36 #[.pointer (some ⟨g, 0, none⟩), .int .i64 i] w (RetE (.int .i64 1) w) := by
  refine retE ?_
  obtain ⟨A, c, rfl, hs, hlc⟩ := h.row.shape
  have g0 := h.cell 0
  have g2 := h.cell 2
  have hi0 := h.i0
  have hi1 := h.i1
  have hl := h.len
  have hlt := h.lt
  simp at g0 g2
  clear h hs
  by_cases e1 : i ≤ idx
  · have b1 : decide (i ≤ idx) = true := decide_eq_true e1
    clear hi
    go_enter Try.func36, Try.ntmps36
    go_wp2_with fail
    refine wp_region_ext (by kernel_rfl) (by kernel_rfl) ?_
    repeat (go_big_quiet_step (fail))
    refine wpQuiet_nil ?_
    rintro _ ⟨x, rfl⟩
    go_wp2_with fail
    go_ret
    exact ⟨rfl, x.gr⟩
  · have b1 : decide (i ≤ idx) = false := decide_eq_false e1
    have b2 : decide (idx + (L.length : Int) < i) = true := decide_eq_true (by omega)
    clear hi
    go_enter Try.func36, Try.ntmps36
    go_wp2_with fail
    refine wp_region_ext (by kernel_rfl) (by kernel_rfl) ?_
    repeat (go_big_quiet_step (fail))
    refine wpQuiet_nil ?_
    rintro _ ⟨x, rfl⟩
    go_wp2_with fail
    go_ret
    exact ⟨rfl, x.gr⟩

theorem copied_n (base n : Nat) (A : Option Addr) (c : Nat) (L : List Ent) (w : World) (hn : n = L.length) (hs : Sl base w A L) (hl : L.length ≤ 4398046511103) (hbase : base ≤ w.heap.size) :
    Calls Try.prog 30 #[.slice A n c] w (RetP (fun w' v => OwnR base w.heap.size w' v L) w) := by
  subst hn
  exact copied_any base A c L w hs hl hbase

theorem calls_grPR {P : Program} {f : FuncId} {args : Array Value} {w0 w : World} {base : Nat} {L : List Ent} (hg : Gr w0 w)
    (h : Calls P f args w (RetP (fun w' v => OwnR base w.heap.size w' v L) w)) :
    Calls P f args w (fun e w' => ∃ v, ∃ y : Ext w0, e = .returned v ∧ w' = y.val ∧ ∃ B, w0.heap.size ≤ B ∧ OwnR base B y.val v L) :=
  h.mono (by rintro e _ ⟨v, y, rfl, rfl, hp⟩; exact ⟨v, ⟨y.val, hg.trans y.gr⟩, rfl, rfl, _, hg.size, hp⟩)

set_option maxRecDepth 100000 in
set_option maxHeartbeats 4000000 in
theorem compactR_any (base g k : Nat) (idx term i : Int) (L : List Ent) (v : Value) (w : World) (h : RefAt base w g idx term L v) (hk0 : 0 < k) (hk : k ≤ L.length) (hi : i = idx + k) (him : i ≤ 1125899906842624) (hbase : base ≤ w.heap.size) :
    Calls Try.prog 36 #[.pointer (some ⟨g, 0, none⟩), .int .i64 i] w (RetCR base g i (tmT idx term L i) (L.drop k) w) := by
  have b2 := h.i0
  have b3 := h.i1
  have b4 := h.len
  have b6 := h.lt
  have H := hid h
  clear h
  obtain ⟨Av, cv, rfl, hsv, hcv⟩ := H.out.row.shape
  have HSV := hid hsv
  clear hsv
  obtain ⟨xs, h1, h2⟩ := HSV.out
  obtain ⟨blk, off, rfl, hc⟩ := h1 (by rintro rfl; have := h2.1; simp at this; omega)
  clear h1 h2 hc
  have g0 : w.cell? ⟨g, 0, none⟩ = some (.int .i64 idx) := by have := H.out.cell 0; simpa using this
  have g1 : w.cell? ⟨g, 1, none⟩ = some (.int .i64 term) := by have := H.out.cell 1; simpa using this
  have g2 : w.cell? ⟨g, 2, none⟩ = some (.slice (some ⟨blk, off, none⟩) L.length cv) := by have := H.out.cell 2; simpa using this
  have f0 : w.frozen? ⟨g, 0, none⟩ = false := H.out.frozen 0
  have f1 : w.frozen? ⟨g, 1, none⟩ = false := H.out.frozen 1
  have f2 : w.frozen? ⟨g, 2, none⟩ = false := H.out.frozen 2
  obtain ⟨T, hT⟩ : ∃ T, tmT idx term L i = T := ⟨_, rfl⟩
  have CT := fun (w' : World) (hg : Gr w w') => hid ((termR_any base g idx term i L _ w' (H.out.gr hg) (by omega)).mono (R' := RetE (.tuple #[.int .i64 T, .bool true]) w') (fun _ _ h => by rwa [hT, show tmB idx L.length i = true from decide_eq_true (by omega)] at h))
  rw [hT]
  clear hT
  have hdl : (L.drop k).length = L.length - k := by simp
  obtain ⟨ad, had, hsk⟩ : ∃ ad : Addr, (if cv = k then some ⟨blk, off, none⟩ else some ⟨blk, off + k * 2, none⟩) = some ad ∧ Sl base w (some ad) (L.drop k) := by
    by_cases e : cv = k
    · rw [if_pos e]
      refine ⟨_, rfl, ?_⟩
      rw [List.drop_eq_nil_of_le (by omega)]
      exact ⟨[], Rd.nil _ _, ents_nil _ _⟩
    · rw [if_neg e]
      exact ⟨_, rfl, HSV.out.drop k⟩
  have HSK := hid hsk
  clear hsk
  have ew : IntKind.i64.wrap (k : Int) = (k : Int) := IntWalk.i64_in _ (by omega)
  have e3 : i - idx = (k : Int) := by omega
  have hi1 : idx + k ≤ i := by omega
  have hi2 : i ≤ idx + k := by omega
  have d1 : decide (i ≤ idx) = false := decide_eq_false (by omega)
  have d2 : decide (idx + (L.length : Int) < i) = false := decide_eq_false (by omega)
  clear hi
  go_enter Try.func36, Try.ntmps36
  go_wp2_with fail
  refine wp_region_ext (by kernel_rfl) (by kernel_rfl) ?_
  repeat (go_big_quiet_step (fail))
  refine wpQuiet_nil ?_
  rintro _ ⟨x, rfl⟩
  go_wp2_with (first | (go_at_call 15; (with_reducible refine (calls_ext x (CT x.val x.gr).out).mono ?_); rintro e _ ⟨rfl, y3, rfl⟩))
  have GY := hid y3.gr
  have hkw : w.heap.size ≤ y3.val.heap.size := GY.out.size
  go_region_law (first
    | (go_simp; go_at_call 30
       refine (calls_grPR (w0 := y3.val) ?_ (copied_n base (L.length - k) _ _ (L.drop k) _ hdl.symm (HSK.out.gr (GY.out.trans ?_)) (by omega) (Nat.le_trans hbase (Nat.le_trans hkw (Gr.size ?_))))).mono ?_
       · repeat (first | exact Gr.refl _ | refine Gr.ext ?_ _ | refine Gr.alloc ?_ _ | refine Gr.drew ?_)
       · repeat (first | exact Gr.refl _ | refine Gr.ext ?_ _ | refine Gr.alloc ?_ _ | refine Gr.drew ?_)
       · repeat (first | exact Gr.refl _ | refine Gr.ext ?_ _ | refine Gr.alloc ?_ _ | refine Gr.drew ?_)
       rintro e _ ⟨v6, y6, rfl, rfl, B6, hB6, ho6⟩
       obtain ⟨A6, c6, rfl, _, _⟩ := ho6.shape
       have HO6 := hid ho6
       clear ho6))
  all_goals (
    go_wp2_with fail
    go_ret
    have G6 : Gr w y6.val := GY.out.trans y6.gr
    obtain ⟨zs, o1, o2⟩ := HO6.out
    refine ⟨.slice A6 (L.length - k) c6, rfl, ?_, ?_⟩
    · rw [← hdl]
      exact H.out.put3 (w2 := y6.val) (B := B6) (xs := zs) (G6.block g b6) (Nat.le_trans hbase (Nat.le_trans hkw hB6)) (Nat.le_trans hkw hB6) (by rw [hdl]; omega) (by omega) him o1 o2
    exact (((G6.mod (fun b => b = g)).set (fun _ => rfl) _).set (fun _ => rfl) _).set (fun _ => rfl) _)
end Go.Proofs.Ythiahnpijdkboaa
