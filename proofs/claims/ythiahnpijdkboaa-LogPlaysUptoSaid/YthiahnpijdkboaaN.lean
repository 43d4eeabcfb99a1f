import Derived.Test.YthiahnpijdkboaaW9
namespace Go.Proofs.Ythiahnpijdkboaa
open Go.RowKit Go.Ext Go.BigFrame
attribute [local go_sem] Ext.cell Ext.frozen Ext.lt Ext.le s1 s2 s3 s4 s5 s6 t1 t2 t3 t4 t5 t6
attribute [local go_sem ↓] Go.wp_at_zero Go.wp_at_succ

/-- A log was made, told of an earlier world. -/
def RetLG (base : Nat) (idx term : Int) (L : List Ent) (w0 : World) (e : Ending) (w' : World) : Prop :=
  ∃ g v, ∃ y : Ext w0, e = .returned (.tuple #[.pointer (some ⟨g, 0, none⟩), .int .i64 0]) ∧ w' = y.val ∧ Hid (LogAt base y.val g idx term L v)
theorem calls_grL {P : Program} {f : FuncId} {args : Array Value} {w0 w : World} {base : Nat} {idx term : Int} {L : List Ent} (hg : Gr w0 w)
    (h : Calls P f args w (RetL base idx term L w)) : Calls P f args w (RetLG base idx term L w0) :=
  h.mono fun _ _ ⟨g, v, y, he, hw, hl, _⟩ => ⟨g, v, ⟨y.val, hg.trans y.gr⟩, he, hw, hid hl⟩

/-- What LogNewer asks of two ends. -/
def newerLaw (i t j u : Int) : Prop := ∀ p q : Bool, p = (decide (t < u) || (u == t && decide (i ≤ j))) → q = (decide (u < t) || (t == u && decide (j ≤ i))) →
  (p = true ∧ q = true ∧ (i == j) = true ∧ (t == u) = true) ∨ (p = true ∧ q = false ∧ ((i == j) = true ∧ (t == u) = false ∨ (i == j) = false)) ∨ (p = false ∧ q = true ∧ ((i == j) = true ∧ (t == u) = false ∨ (i == j) = false))
theorem newer_law (i t j u : Int) : newerLaw i t j u := by
  rintro p q rfl rfl
  have e1 : (i == j) = decide (i = j) := rfl
  have e2 : (t == u) = decide (t = u) := rfl
  have e3 : (u == t) = decide (u = t) := rfl
  rw [e1, e2, e3]
  rcases Int.lt_trichotomy t u with h | h | h
  · have h1 : ¬ u < t := by omega
    have h2 : ¬ t = u := by omega
    have h3 : ¬ u = t := by omega
    by_cases h4 : i = j <;> simp [h, h1, h2, h3, h4]
  · subst h
    rcases Int.lt_trichotomy i j with k | k | k
    · have h1 : ¬ j ≤ i := by omega
      have h2 : ¬ i = j := by omega
      have h3 : i ≤ j := by omega
      simp [h1, h2, h3]
    · subst k; simp
    · have h1 : ¬ i ≤ j := by omega
      have h2 : ¬ i = j := by omega
      have h3 : j ≤ i := by omega
      simp [h1, h2, h3]
  · have h1 : ¬ t < u := by omega
    have h2 : ¬ t = u := by omega
    have h3 : ¬ u = t := by omega
    by_cases h4 : i = j <;> simp [h, h1, h2, h3, h4]

set_option maxHeartbeats 4000000 in
theorem newer_true (base : Nat) (A B : Option Addr) (c d : Nat) (L M : List Ent) (w : World) (hbase : base ≤ w.heap.size) (hs : Sl base w A L) (ht : Sl base w B M) (hl : L.length ≤ 4398046511103) (hm : M.length ≤ 4398046511103) :
    Calls Try.prog 3 #[.slice A L.length c, .slice B M.length d] w (RetE (.bool true) w) := by
  refine retE ?_
  have HL := hid hs
  have HM := hid ht
  clear hs ht
  go_enter Try.func3, Try.ntmps3
  go_wp2_with (go_at_call 8; (with_reducible refine (known_any w).mono ?_); rintro e _ ⟨rfl, y0, rfl⟩)
  go_at_call 9
  refine (few_nil base A c L y0.val (HL.out.gr y0.gr) hl).mono ?_
  rintro e _ ⟨b1, rfl, rfl⟩
  cases b1
  · go_wp2_with fail
    go_ret
    exact ⟨rfl, y0.gr⟩
  · go_wp2_with fail
    go_at_call 9
    refine (few_nil base B d M y0.val (HM.out.gr y0.gr) hm).mono ?_
    rintro e _ ⟨b2, rfl, rfl⟩
    cases b2
    · go_wp2_with fail
      go_ret
      exact ⟨rfl, y0.gr⟩
    · have hb0 : base ≤ y0.val.heap.size := Nat.le_trans hbase y0.gr.size
      by_cases h1 : NewOk 0 0 L
      · go_wp2_with (go_at_call 10; (with_reducible refine (calls_grL (w0 := y0.val) (Gr.refl _) (new_ok base 0 0 A c L y0.val (HL.out.gr y0.gr) hl h1 (by decide) hb0)).mono ?_); rintro e _ ⟨g1, v1, y1, rfl, rfl, HG1⟩)
        by_cases h2 : NewOk 0 0 M
        · have hn := newer_law (0 + L.length) (lastT 0 L) (0 + M.length) (lastT 0 M)
          have C1 := fun (w : World) (h : LogAt base w g1 0 0 L v1) => hid (last_any base g1 0 0 L v1 w h)
          have C3 := fun (w : World) (h : LogAt base w g1 0 0 L v1) => hid (newer_any base g1 0 0 (0 + M.length) (lastT 0 M) L v1 w h)
          have C2 := fun (g2 : Nat) (v2 : Value) (w : World) (h : LogAt base w g2 0 0 M v2) => hid (last_any base g2 0 0 M v2 w h)
          have C4 := fun (g2 : Nat) (v2 : Value) (w : World) (h : LogAt base w g2 0 0 M v2) => hid (newer_any base g2 0 0 (0 + L.length) (lastT 0 L) M v2 w h)
          have HN := hid (hn (nwB 0 0 L (0 + M.length) (lastT 0 M)) (nwB 0 0 M (0 + L.length) (lastT 0 L)) rfl rfl)
          clear hn
          have HO := hid (fun (w : World) (hg : Gr y0.val w) => new_ok base 0 0 B d M w ((HM.out.gr y0.gr).gr hg) hm h2 (by decide) (Nat.le_trans hb0 hg.size))
          generalize nwB 0 0 L (0 + M.length) (lastT 0 M) = p at *
          generalize nwB 0 0 M (0 + L.length) (lastT 0 L) = q at *
          generalize (0 : Int) + L.length = i at *
          generalize (0 : Int) + M.length = j at *
          generalize lastT 0 L = t at *
          generalize lastT 0 M = u at *
          have hn := HN.out
          clear HN h1 h2
          rcases hn with ⟨rfl, rfl, e1, e2⟩ | ⟨rfl, rfl, ⟨e1, e2⟩ | e1⟩ | ⟨rfl, rfl, ⟨e1, e2⟩ | e1⟩
          all_goals (
            go_wp2_with (first | (go_at_call 10; (with_reducible refine (calls_grL (w0 := y1.val) (Gr.refl _) (HO.out y1.val y1.gr)).mono ?_); rintro e _ ⟨g2, v2, y2, rfl, rfl, HG2⟩) | (go_at_call 11; (with_reducible refine (C1 y2.val (HG1.out.gr y2.gr)).out.mono ?_); rintro e _ ⟨rfl, y3, rfl⟩) | (go_at_call 11; (with_reducible refine (calls_gr y3.gr (C2 g2 v2 y3.val (HG2.out.gr y3.gr)).out).mono ?_); rintro e _ ⟨rfl, y4, rfl⟩) | (go_at_call 12; (with_reducible refine (calls_gr y4.gr (C3 y4.val (HG1.out.gr (y2.gr.trans y4.gr))).out).mono ?_); rintro e _ ⟨rfl, y5, rfl⟩) | (go_at_call 12; (with_reducible refine (calls_gr y5.gr (C4 g2 v2 y5.val (HG2.out.gr y5.gr)).out).mono ?_); rintro e _ ⟨rfl, y6, rfl⟩))
            go_ret
            exact ⟨rfl, y0.gr.trans (y1.gr.trans (y2.gr.trans y6.gr))⟩)
        · go_wp2_with (go_at_call 10; (with_reducible refine (new_bad base 0 0 B d M y1.val ((HM.out.gr y0.gr).gr y1.gr) hm h2).mono ?_); rintro e _ ⟨rfl, y2, rfl⟩)
          go_ret
          exact ⟨rfl, y0.gr.trans (y1.gr.trans y2.gr)⟩
      · go_wp2_with (go_at_call 10; (with_reducible refine (new_bad base 0 0 A c L y0.val (HL.out.gr y0.gr) hl h1).mono ?_); rintro e _ ⟨rfl, y1, rfl⟩)
        by_cases h2 : NewOk 0 0 M
        · go_wp2_with (go_at_call 10; (with_reducible refine (calls_grL (w0 := y1.val) (Gr.refl _) (new_ok base 0 0 B d M y1.val ((HM.out.gr y0.gr).gr y1.gr) hm h2 (by decide) (Nat.le_trans hb0 y1.gr.size))).mono ?_); rintro e _ ⟨g2, v2, y2, rfl, rfl, HG2⟩)
          go_ret
          exact ⟨rfl, y0.gr.trans (y1.gr.trans y2.gr)⟩
        · go_wp2_with (go_at_call 10; (with_reducible refine (new_bad base 0 0 B d M y1.val ((HM.out.gr y0.gr).gr y1.gr) hm h2).mono ?_); rintro e _ ⟨rfl, y2, rfl⟩)
          go_ret
          exact ⟨rfl, y0.gr.trans (y1.gr.trans y2.gr)⟩
end Go.Proofs.Ythiahnpijdkboaa
