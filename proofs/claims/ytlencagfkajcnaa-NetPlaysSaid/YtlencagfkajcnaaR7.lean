import Derived.Test.YtlencagfkajcnaaR4
import Derived.Test.YtlencagfkajcnaaR6
import Derived.Test.YtlencagfkajcnaaM7
namespace Go.Proofs.Ytlencagfkajcnaa
open Go.RowKit Go.Ext Go.BigFrame Go.Maps
attribute [local go_sem] Ext.cell Ext.frozen Ext.lt Ext.le s1 s2 s3 s4 s5 s6 t1 t2 t3 t4 t5 t6
attribute [local go_sem ↓] Go.wp_at_zero Go.wp_at_succ

section
variable {base g : Nat} {w w' : World} {nodes sent : Int} {v vc : Value} {L : List It} {C : List (Int × Int)} {P : List Pk}
theorem RB.mrg (h : RB base w g nodes sent v vc L C P) (m : Mod (fun k => k = g) w w') : MR base w w' := h.mr (m.mono fun _ _ e => .inl e)
theorem RB.putC8 {C8 : List (Int × Int)} {v8 v9 : Value} (lo : base ≤ g) (hn : 1 ≤ nodes ∧ nodes ≤ 9) (hc : w.heap[g]? = some (.cells #[.int .i64 nodes, .int .i64 sent, v, v9] 53 (0, 0))) (hrow : w.ownsRow base 71 4 v L.length (cs6 L))
    (hr : w.ownsRow base 66 2 v8 C8.length (cs2 C8)) (hd : Dat base w L P) : RB base (w.setCell ⟨g, 3, none⟩ v8) g nodes sent v v8 L C8 P := by
  have m := ((Gr.refl w).mod (fun b => b = g)).set (p := ⟨g, 3, none⟩) (fun _ => rfl) v8
  refine ⟨lo, ?_, own_mod hrow m ?_, own_mod hr m ?_, hn, Dat.mod m (not5 hc (by decide)) hd⟩
  · have := set1_heap hc (j := 3) v8
    simpa using this
  · rintro k e rfl; exact own_no hrow hc (by decide) e
  · rintro k e rfl; exact own_no hr hc (by decide) e
end

/-- What the document's Take leaves. -/
def RetTakeR (base g : Nat) (nodes sent : Int) (C : List (Int × Int)) (P : List Pk) (k : Int) (w : World) (e : Ending) (w' : World) : Prop :=
  (okN P k = false ∧ e = .returned (.tuple #[.agg #[.int .i64 0, .int .i64 0, .int .i64 0, .slice none 0 0], .int .i64 2]) ∧ Rt base w' g nodes sent C P ∧ MR base w w') ∨
  (okN P k = true ∧ ∃ (i : Nat) (x : It), k = i ∧ i < P.length ∧ e = .returned (.tuple #[iv x, .int .i64 0]) ∧ One base w' x (P.getD i p0) ∧ Rt base w' g nodes sent C (outF P i) ∧ MR base w w')

set_option maxRecDepth 100000 in
set_option maxHeartbeats 2000000 in
theorem takeR_any (base g : Nat) (nodes sent k : Int) (C : List (Int × Int)) (P : List Pk) (w : World) (h : Rt base w g nodes sent C P) (hl : P.length ≤ 1000000) (hbase : base ≤ w.heap.size) :
    Calls Try.prog 34 #[.pointer (some ⟨g, 0, none⟩), .int .i64 k] w (RetTakeR base g nodes sent C P k w) := by
  obtain ⟨v, vc, L, h⟩ := h
  have hlen := h.dat.len
  have H := hid h
  have hlt := h.lt
  obtain ⟨A, cp, rfl⟩ := h.shape
  obtain ⟨_, _, c2, _, _, _, _⟩ := h.cs
  have hoe : okN P k = okN L k := by unfold okN; rw [hlen]
  cases hok : okN L k
  · have HOK := hid (hoe.trans hok)
    have hq : ∀ e w', (e = .returned (.tuple #[.agg #[.int .i64 0, .int .i64 0, .int .i64 0, .slice none 0 0], .int .i64 2]) ∧ Gr w w') → RetTakeR base g nodes sent C P k w e w' := fun e w' h => .inl ⟨HOK.out, h.1, ⟨_, _, L, H.out.gr h.2⟩, MR.of_gr h.2⟩
    refine Calls.mono ?_ hq
    clear hq hoe h
    by_cases h1 : k < 0
    · clear hok
      go_enter Try.func34, Try.ntmps34
      go_wp2_with fail
      refine bodyPost_ret (v := .tuple #[.agg #[.int .i64 0, .int .i64 0, .int .i64 0, .slice none 0 0], .int .i64 2]) (by simp [results, Try.results34, go_sem]) rfl ⟨rfl, ?_⟩
      repeat (first | exact Gr.refl _ | refine Gr.set ?_ (by simp <;> omega) _ | refine Gr.alloc ?_ _)
    · have h2 : ¬ k < (L.length : Int) := by
        intro h
        unfold okN at hok
        simp at hok
        omega
      have h3 : (L.length : Int) ≤ k := by omega
      clear hok
      go_enter Try.func34, Try.ntmps34
      go_wp2_with fail
      refine bodyPost_ret (v := .tuple #[.agg #[.int .i64 0, .int .i64 0, .int .i64 0, .slice none 0 0], .int .i64 2]) (by simp [results, Try.results34, go_sem]) rfl ⟨rfl, ?_⟩
      repeat (first | exact Gr.refl _ | refine Gr.set ?_ (by simp <;> omega) _ | refine Gr.alloc ?_ _)
  · obtain ⟨i, rfl, hi⟩ := okN_yes hok
    have HOK := hid (hoe.trans hok)
    have hone := h.dat.get i hi
    obtain ⟨r, cap, e, hcap, hm, hb, hr, hc⟩ := own_open h.row (by omega)
    injection e with e1 _ e3
    subst e1 e3
    have d0 := hc _ _ (cs6_get L i 0 hi (by omega))
    have d1 := hc _ _ (cs6_get L i 1 hi (by omega))
    have d2 := hc _ _ (cs6_get L i 2 hi (by omega))
    have d3 := hc _ _ (cs6_get L i 3 hi (by omega))
    obtain ⟨⟨f, t, q, A', l', c'⟩, hy⟩ : ∃ y, L.getD i z0 = y := ⟨_, rfl⟩
    rw [hy] at d0 d1 d2 d3 hone
    simp only [Nat.add_zero] at d0 d1 d2 d3
    have CW := hid (fun W (y : Gr w W) => without_any base g i nodes sent _ vc L C P W (h.gr y) hi (by omega) (Nat.le_trans hbase y.size))
    have HONE := hid hone
    have HI := hid hi
    clear hok hoe h hy hone hc
    have hq : ∀ e w', (e = .returned (.tuple #[iv (f, t, q, A', l', c'), .int .i64 0]) ∧ One base w' (f, t, q, A', l', c') (P.getD i p0) ∧ Rt base w' g nodes sent C (outF P i) ∧ MR base w w') → RetTakeR base g nodes sent C P i w e w' := fun e w' h => .inr ⟨HOK.out, i, _, rfl, by rw [← hlen]; exact HI.out, h.1, h.2⟩
    refine Calls.mono ?_ hq
    clear hq
    simp only [iv]
    have H2M := hid (two_made w (.cells #[.int .i64 0, .int .i64 0, .int .i64 0, .slice none 0 0] 71) (.cells #[.int .i64 f, .int .i64 t, .int .i64 q, .slice A' l' c'] 71))
    have G2 := hid (((Gr.refl w).alloc (.cells #[.int .i64 0, .int .i64 0, .int .i64 0, .slice none 0 0] 71)).alloc (.cells #[.int .i64 f, .int .i64 t, .int .i64 q, .slice A' l' c'] 71))
    go_enter Try.func34, Try.ntmps34
    go_wp2_with (go_at_call 44
                 refine (CW.out _ G2.out).mono ?_
                 rintro en w7 ⟨rfl, h7a, h7c⟩
                 have H7A := hid h7a
                 have M7 := hid h7c
                 have HB6 := hid ((h7c.block (w.heap.size + 1) (by simp) (by omega)).trans H2M.out.2)
                 have HB4 := hid ((h7c.block w.heap.size (by simp; omega) (by omega)).trans H2M.out.1)
                 obtain ⟨r0, r1, r2, r3, _⟩ := heap4 HB6.out
                 obtain ⟨u0, u1, u2, u3, s0, s1, s2, s3⟩ := heap4 HB4.out
                 have hl7 : w.heap.size < w7.heap.size := (Array.getElem?_eq_some_iff.1 HB4.out).1
                 have hl8 : w.heap.size + 1 < w7.heap.size := (Array.getElem?_eq_some_iff.1 HB6.out).1
                 clear h7a h7c)
    obtain ⟨v', hnb, hvb⟩ := H7A.out
    have HB7 := HB4.out
    have M9 := set4 w7 w.heap.size (.int .i64 f) (.int .i64 t) (.int .i64 q) (.slice A' l' c')
    have n5 := not5 HB7 (by decide)
    have hgb : ¬ g = w.heap.size := by omega
    obtain ⟨t0, t1, t2, t3, _⟩ := heap4 (set4_heap HB7 (.int .i64 f) (.int .i64 t) (.int .i64 q) (.slice A' l' c'))
    refine bodyPost_ret (v := .tuple #[.agg #[.int .i64 f, .int .i64 t, .int .i64 q, .slice A' l' c'], .int .i64 0]) (by simp [results, Try.results34, go_sem, t0, t1, t2, t3]) rfl ⟨rfl, ?_, ⟨v', vc, _, hnb.mod M9 hgb (fun k e e2 => ?_) (fun k e e2 => ?_) n5⟩, ?_⟩
    · refine One.mod (One.mod (One.mod HONE.out (G2.out.mod fun _ => False) (fun _ _ e => e)) M7.out ?_) M9 n5
      intro k hk
      rintro rfl
      exact not5 (H.out.gr G2.out).cell (by decide) _ hk rfl
    · have := hvb k e
      simp at this
      omega
    · subst e2
      exact own_no hnb.cuts HB7 (by decide) e
    · have m1 : MR base w w7 := (MR.of_gr G2.out).trans ((H.out.gr G2.out).mrg M7.out)
      refine m1.trans (Mod.mono M9 fun k _ hk => ?_)
      subst hk
      exact ⟨hbase, .inr (.inl ⟨_, _, HB7⟩)⟩

/-- What is for a node is lost. -/
def clrF (nodes a : Int) (P : List Pk) : List Pk := if isN nodes a then P.filter fun p => !qK a p else P
set_option maxHeartbeats 1000000 in
theorem clearR_any (base g : Nat) (nodes sent a : Int) (C : List (Int × Int)) (P : List Pk) (w : World) (h : Rt base w g nodes sent C P) (hnn : ∀ p ∈ P, 0 ≤ p.1 ∧ 0 ≤ p.2.1) (hl : P.length ≤ 1000000) (hbase : base ≤ w.heap.size) :
    Calls Try.prog 39 #[.pointer (some ⟨g, 0, none⟩), .int .i64 a] w (RetR base g nodes sent C (clrF nodes a P) (.int .i64 (P.length - (clrF nodes a P).length)) w) := by
  obtain ⟨v, vc, L, h⟩ := h
  have hlen := h.dat.len
  have hlt := h.lt
  have HF := hid (fun W (y : Gr w W) => is_any g nodes a W ((y.cell (p := ⟨g, 0, none⟩) hlt).trans h.cs.1))
  have HL := hid (fun W (y : Gr w W) => loseR_K base g nodes sent a v vc L C P W (h.gr y) hnn (by omega) (Nat.le_trans hbase y.size))
  have H := hid h
  clear h
  unfold clrF
  cases hf : isN nodes a
  · rw [hf] at HF
    clear hf
    simp only [Bool.false_eq_true, if_false]
    go_enter Try.func39, Try.ntmps39
    go_wp2_with (go_at_call 40; (with_reducible refine (HF.out _ (Gr.refl _)).mono ?_); rintro en _ ⟨rfl, y1, rfl⟩)
    go_ret
    exact ⟨by rw [Int.sub_self]; rfl, ⟨v, vc, L, H.out.gr y1.gr⟩, MR.of_gr y1.gr⟩
  · rw [hf] at HF
    clear hf
    simp only [if_true]
    go_enter Try.func39, Try.ntmps39
    go_wp2_with (first
      | (go_at_call 40; (with_reducible refine (HF.out _ (Gr.refl _)).mono ?_); rintro en _ ⟨rfl, y1, rfl⟩)
      | (go_at_call 45; refine (HL.out _ y1.gr).mono ?_; rintro en w7 ⟨rfl, h7, m7⟩; have H7 := hid h7; have M7 := hid m7; clear h7 m7))
    go_ret
    obtain ⟨v', L', h7⟩ := H7.out
    exact ⟨rfl, ⟨v', vc, L', h7⟩, (MR.of_gr y1.gr).trans ((H.out.gr y1.gr).mrg M7.out)⟩
end Go.Proofs.Ytlencagfkajcnaa
