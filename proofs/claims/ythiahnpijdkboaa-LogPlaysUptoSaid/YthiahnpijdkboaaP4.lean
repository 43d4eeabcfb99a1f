import Derived.Test.YthiahnpijdkboaaP3
namespace Go.Proofs.Ythiahnpijdkboaa
open Go.RowKit Go.Ext Go.BigFrame
attribute [local go_sem] Ext.cell Ext.frozen Ext.lt Ext.le s1 s2 s3 s4 s5 s6 t1 t2 t3 t4 t5 t6
attribute [local go_sem ↓] Go.wp_at_zero Go.wp_at_succ

/-- What the log keeps where it is to begin behind a place ahead. -/
def restL (idx term i t : Int) (L : List Ent) : List Ent := if mtB idx term L i t then L.drop (i - idx).toNat else []

theorem RefAt.clear {base g : Nat} {idx term i t : Int} {L : List Ent} {v : Value} {w : World} (h : RefAt base w g idx term L v) (h0 : 0 ≤ i) (h1 : i ≤ 1125899906842624) :
    RefAt base (((w.setCell ⟨g, 0, none⟩ (.int .i64 i)).setCell ⟨g, 1, none⟩ (.int .i64 t)).setCell ⟨g, 2, none⟩ (.slice none 0 0)) g i t [] (.slice none 0 0) := by
  have e1 := heap_set _ _ 0 _ _ _ (.int .i64 i) h.blk
  have e2 := heap_set _ _ 1 _ _ _ (.int .i64 t) e1
  have e3 := heap_set _ _ 2 _ _ _ (.slice none 0 0) e2
  exact ⟨by rw [e3]; rfl, h.lo, ⟨[], World.ownsRow_nil _ _ _ _, ents_nil _ _⟩, h0, h1, by simp⟩

def RetRR (base g : Nat) (idx term : Int) (L : List Ent) (w : World) (e : Ending) (w' : World) : Prop :=
  ∃ v, e = .returned (.tuple #[]) ∧ RefAt base w' g idx term L v ∧ Mod (fun b => b = g) w w'

theorem mod_gr {S : Nat → Prop} {w w1 w2 : World} (h : Gr w w1) (m : Mod S w1 w2) : Mod S w w2 := (h.mod S).trans m (fun _ _ h => h)

set_option maxHeartbeats 2000000 in
theorem restoreR_any (base g : Nat) (idx term i t : Int) (L : List Ent) (v : Value) (w : World) (h : RefAt base w g idx term L v) (hi : idx < i) (him : i ≤ 1125899906842624) (hbase : base ≤ w.heap.size) :
    Calls Try.prog 38 #[.pointer (some ⟨g, 0, none⟩), .int .i64 i, .int .i64 t] w (RetRR base g i t (restL idx term i t L) w) := by
  have b2 := h.i0
  have b3 := h.i1
  have b4 := h.len
  have b6 := h.lt
  have H := hid h
  clear h
  cases hb : mtB idx term L i t
  · have hr : restL idx term i t L = [] := by unfold restL; rw [hb]; rfl
    rw [hr]
    have HM := hid ((matchR_any base g idx term i t L v w H.out (by omega)).mono (R' := RetE (.bool false) w) (fun _ _ h => by rwa [hb] at h))
    clear hb hr
    have g0 : w.cell? ⟨g, 0, none⟩ = some (.int .i64 idx) := by have := H.out.cell 0; simpa using this
    have g1 : w.cell? ⟨g, 1, none⟩ = some (.int .i64 term) := by have := H.out.cell 1; simpa using this
    have g2 : w.cell? ⟨g, 2, none⟩ = some v := by have := H.out.cell 2; simpa using this
    have f0 : w.frozen? ⟨g, 0, none⟩ = false := H.out.frozen 0
    have f1 : w.frozen? ⟨g, 1, none⟩ = false := H.out.frozen 1
    have f2 : w.frozen? ⟨g, 2, none⟩ = false := H.out.frozen 2
    go_enter Try.func38, Try.ntmps38
    go_wp2_with (go_at_call 41; (with_reducible refine HM.out.mono ?_); rintro e _ ⟨rfl, y, rfl⟩)
    refine bodyPost_ret (results_none rfl _ _ _) rfl ?_
    refine ⟨.slice none 0 0, rfl, ?_, ?_⟩
    · exact (H.out.gr y.gr).clear (by omega) him
    · exact (((y.gr.mod (fun b => b = g)).set (fun _ => rfl) _).set (fun _ => rfl) _).set (fun _ => rfl) _
  · have hr : restL idx term i t L = L.drop (i - idx).toNat := by unfold restL; rw [hb]; rfl
    rw [hr]
    have hb2 := tm_lo (mt_tm hb)
    have ht : tmT idx term L i = t := by
      unfold mtB at hb
      simp only [Bool.and_eq_true, beq_iff_eq] at hb
      exact hb.2
    obtain ⟨k, hk⟩ : ∃ k : Nat, i = idx + k := ⟨(i - idx).toNat, by omega⟩
    have HM := hid ((matchR_any base g idx term i t L v w H.out (by omega)).mono (R' := RetE (.bool true) w) (fun _ _ h => by rwa [hb] at h))
    have HC := fun (y : Ext w) => hid ((compactR_any base g k idx term i L v y.val (H.out.gr y.gr) (by omega) (by omega) hk him (Nat.le_trans hbase y.gr.size)))
    rw [ht] at HC
    have hkk : (i - idx).toNat = k := by omega
    rw [hkk]
    clear hb hr ht hkk hk
    go_enter Try.func38, Try.ntmps38
    go_wp2_with (first | (go_at_call 41; (with_reducible refine HM.out.mono ?_); rintro e _ ⟨rfl, y, rfl⟩) | (go_at_call 36; (with_reducible refine (HC y).out.mono ?_); rintro e w2 ⟨v2, rfl, hR, hm⟩))
    refine bodyPost_ret (results_none rfl _ _ _) rfl ?_
    exact ⟨v2, rfl, hR, mod_gr y.gr hm⟩

set_option maxHeartbeats 2000000 in
theorem hintR_any (base g : Nat) (idx term i : Int) (L : List Ent) (v : Value) (w : World) (h : RefAt base w g idx term L v) (hm : i ≤ 9223372036854775807) (hpos : idx + 1 ≤ i → i ≤ idx + L.length → 0 < tmT idx term L i) :
    Calls Try.prog 42 #[.pointer (some ⟨g, 0, none⟩), .int .i64 i] w (RetE (.tuple #[.int .i64 (hintT idx term L i), .int .i64 (hintK idx term L i)]) w) := by
  refine retE ?_
  have hi0 := h.i0
  have hi1 := h.i1
  have hl := h.len
  have hlt := h.lt
  have H := hid h
  have HL := hid (lastR_any base g idx term L v w h)
  obtain ⟨A, c, rfl, hs, hlc⟩ := h.row.shape
  have g0 := h.cell 0
  have g2 := h.cell 2
  simp at g0 g2
  have HS := hid hs
  clear h hs
  obtain ⟨lt, hlt'⟩ : ∃ lt, lastT term L = lt := ⟨_, rfl⟩
  rw [hlt'] at HL
  clear hlt'
  by_cases e2 : idx + (L.length : Int) < i
  · have HT := hid (show hintT idx term L i = 0 by unfold hintT; rw [if_neg (by omega), if_pos e2])
    have HK := hid (show hintK idx term L i = idx + L.length + 1 by unfold hintK; rw [if_neg (by omega), if_pos e2])
    clear hpos
    go_enter Try.func42, Try.ntmps42
    go_wp2_with (first | (go_at_call 32; (with_reducible refine HL.out.mono ?_); rintro e _ ⟨rfl, y1, rfl⟩))
    go_ret2
    exact ⟨by rw [HT.out, HK.out]; rfl, Ext.gr _⟩
  obtain ⟨t, ht⟩ : ∃ t, tmT idx term L i = t := ⟨_, rfl⟩
  by_cases e1 : i < idx + 1
  · have HT := hid (show hintT idx term L i = 0 by unfold hintT; rw [if_pos e1])
    have HK := hid (show hintK idx term L i = idx + 1 by unfold hintK; rw [if_pos e1])
    clear hpos
    cases hb : tmB idx L.length i
    · have HM := fun (y : Ext w) => hid ((termR_any base g idx term i L _ y.val (H.out.gr y.gr) hm).mono (R' := RetE (.tuple #[.int .i64 t, .bool false]) y.val) (fun _ _ h => by rwa [ht, hb] at h))
      clear ht hb
      go_enter Try.func42, Try.ntmps42
      go_wp2_with (first | (go_at_call 32; (with_reducible refine HL.out.mono ?_); rintro e _ ⟨rfl, y1, rfl⟩) | (go_at_call 15; (with_reducible refine (calls_ext _ (HM y1).out).mono ?_); rintro e _ ⟨rfl, y2, rfl⟩))
      refine wp_region_ext (by kernel_rfl) (by kernel_rfl) ?_
      repeat (go_big_quiet_step (fail))
      refine wpQuiet_nil ?_
      rintro _ ⟨x, rfl⟩
      go_wp2_with fail
      go_ret2
      exact ⟨by rw [HT.out, HK.out]; rfl, (Ext.gr _).trans x.gr⟩
    · have HM := fun (y : Ext w) => hid ((termR_any base g idx term i L _ y.val (H.out.gr y.gr) hm).mono (R' := RetE (.tuple #[.int .i64 t, .bool true]) y.val) (fun _ _ h => by rwa [ht, hb] at h))
      clear ht hb
      go_enter Try.func42, Try.ntmps42
      go_wp2_with (first | (go_at_call 32; (with_reducible refine HL.out.mono ?_); rintro e _ ⟨rfl, y1, rfl⟩) | (go_at_call 15; (with_reducible refine (calls_ext _ (HM y1).out).mono ?_); rintro e _ ⟨rfl, y2, rfl⟩))
      refine wp_region_ext (by kernel_rfl) (by kernel_rfl) ?_
      repeat (go_big_quiet_step (fail))
      refine wpQuiet_nil ?_
      rintro _ ⟨x, rfl⟩
      go_wp2_with fail
      go_ret2
      exact ⟨by rw [HT.out, HK.out]; rfl, (Ext.gr _).trans x.gr⟩
  have h0 := hpos (by omega) (by omega)
  rw [ht] at h0
  clear hpos
  obtain ⟨d0, hd0⟩ : ∃ d0 : Nat, i = idx + 1 + d0 := ⟨(i - (idx + 1)).toNat, by omega⟩
  have hdl : d0 < L.length := by omega
  have HK := hid (show hintK idx term L i = down idx term L t d0 by unfold hintK; rw [if_neg e1, if_neg e2, ht, if_pos h0]; congr 1; omega)
  have HT := hid (show hintT idx term L i = t by unfold hintT; rw [if_neg e1, if_neg e2, ht])
  have HM := fun (y : Ext w) => hid ((termR_any base g idx term i L _ y.val (H.out.gr y.gr) hm).mono (R' := RetE (.tuple #[.int .i64 t, .bool true]) y.val) (fun _ _ h => by rwa [ht, show tmB idx L.length i = true from decide_eq_true (by omega)] at h))
  have HD0 := hid hd0
  have q1 : idx + 1 ≤ i := by omega
  have q2 : i ≤ idx + (L.length : Int) := by omega
  have q3 : decide (i ≤ idx) = false := decide_eq_false (by omega)
  clear ht hd0 e1
  go_enter Try.func42, Try.ntmps42
  go_wp2_with (first | (go_at_call 32; (with_reducible refine HL.out.mono ?_); rintro e _ ⟨rfl, y1, rfl⟩) | (go_at_call 15; (with_reducible refine (calls_ext _ (HM y1).out).mono ?_); rintro e _ ⟨rfl, y2, rfl⟩))
  go_loopw [10] (fun k wr => ∃ d : Nat, d ≤ d0 ∧ k = .int .i64 (idx + 1 + d) ∧ down idx term L t d = down idx term L t d0 ∧ Gr w wr) (fun k _ => (intOf k - idx).toNat)
  case atStart => exact ⟨d0, Nat.le_refl _, by rw [HD0.out], rfl, Ext.gr _⟩
  case round =>
    obtain ⟨d, hd, rfl, hdn, hg⟩ := hrel
    have HG := hid hg
    have HN := hid hdn
    have g0r := (H.out.gr hg).cell 0
    have g2r := (H.out.gr hg).cell 2
    simp at g0r g2r
    have hgr : g < wr.heap.size := Nat.lt_of_lt_of_le hlt hg.size
    clear hg hdn
    cases d with
    | zero =>
      have k1 : decide (idx < idx + 1 + ((0 : Nat) : Int) - 1) = false := decide_eq_false (by omega)
      obtain ⟨K, hK⟩ : ∃ K, idx + 1 + ((0 : Nat) : Int) = K := ⟨_, rfl⟩
      have k0 : 0 ≤ K := by omega
      have k2 : K ≤ 1125899906842625 := by omega
      rw [hK] at k1 ⊢
      have HKK := hid hK
      clear hK
      go_wp2_with fail
      refine wp_region_ext (by kernel_rfl) (by kernel_rfl) ?_
      repeat (go_big_quiet_step (fail))
      refine wpQuiet_nil ?_
      rintro _ ⟨x, rfl⟩
      go_wp2_with fail
      go_ret2
      exact ⟨by rw [HT.out, HK.out, ← HN.out, ← HKK.out]; simp [down], HG.out.trans x.gr⟩
    | succ d =>
      obtain ⟨b, off, D, c', rfl, c1, c2, c3, c4⟩ := (HS.out.gr HG.out).at_ (i := d) (by omega)
      clear c2 c3
      have k1 : decide (idx < idx + 1 + ((d + 1 : Nat) : Int) - 1) = true := decide_eq_true (by omega)
      have k3 : idx + 1 + ((d + 1 : Nat) : Int) - 2 - idx = (d : Int) := by omega
      have k4 : idx + 1 + ((d + 1 : Nat) : Int) - 1 = idx + 1 + (d : Int) := by omega
      have k5 : (d : Int) < (L.length : Int) := by omega
      have hmt : mtB idx term L (idx + 1 + d) t = ((L.getD d (0, [])).1 == t) := by
        unfold mtB
        rw [show tmB idx L.length (idx + 1 + d) = true from decide_eq_true (by omega), Bool.true_and]
        unfold tmT
        rw [if_neg (by omega), if_pos (by omega), show (idx + 1 + (d : Int) - idx - 1).toNat = d by omega]
      obtain ⟨K, hK⟩ : ∃ K, idx + 1 + ((d + 1 : Nat) : Int) = K := ⟨_, rfl⟩
      have k0 : 1 ≤ K := by omega
      have k2 : K ≤ 4399246511103 + 1125899906842625 := by omega
      rw [hK] at k1 k3 k4 ⊢
      have HKK := hid hK
      have HK4 := hid k4
      clear hK k4
      by_cases he : (L.getD d (0, [])).1 = t
      · have HY := hid (down_yes idx term L t d (by rw [hmt]; simpa using he))
        rw [he] at c1
        clear hmt he
        go_wp2_with fail
        refine wp_region_ext (by kernel_rfl) (by kernel_rfl) ?_
        repeat (go_big_quiet_step (fail))
        refine wpQuiet_nil ?_
        rintro _ ⟨x, rfl⟩
        go_wp2_with fail
        go_roundw
        case rel => exact ⟨d, by omega, by rw [HK4.out], by rw [← HN.out, HY.out], HG.out.trans x.gr⟩
        case measure => simp [intOf]; omega
      · have HY := hid (down_no idx term L t d (by rw [hmt]; simpa using he))
        have heb : ((L.getD d (0, [])).1 == t) = false := by simpa using he
        clear hmt he
        generalize (L.getD d (0, [])).1 = ed at *
        go_wp2_with fail
        refine wp_region_ext (by kernel_rfl) (by kernel_rfl) ?_
        repeat (go_big_quiet_step (fail))
        refine wpQuiet_nil ?_
        rintro _ ⟨x, rfl⟩
        go_wp2_with fail
        go_ret2
        exact ⟨by rw [HT.out, HK.out, ← HN.out, HY.out, HKK.out]; rfl, HG.out.trans x.gr⟩
end Go.Proofs.Ythiahnpijdkboaa
