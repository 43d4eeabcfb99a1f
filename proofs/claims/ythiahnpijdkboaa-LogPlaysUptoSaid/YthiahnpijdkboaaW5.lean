import Derived.Test.YthiahnpijdkboaaW4
namespace Go.Proofs.Ythiahnpijdkboaa
open Go.RowKit Go.Ext Go.BigFrame
attribute [local go_sem] Ext.cell Ext.frozen Ext.lt Ext.le s1 s2 s3 s4 s5 s6 t1 t2 t3 t4 t5 t6
attribute [local go_sem ↓] Go.wp_at_zero Go.wp_at_succ

/-- What may be a log. -/
def NewOk (idx term : Int) (L : List Ent) : Prop := 0 ≤ idx ∧ 0 ≤ term ∧ (idx = 0 ↔ term = 0) ∧ rs term L = true

set_option maxHeartbeats 2000000 in
theorem new_bad (base : Nat) (idx term : Int) (A : Option Addr) (c : Nat) (L : List Ent) (w : World) (hs : Sl base w A L) (hl : L.length ≤ 4398046511103) (h : ¬ NewOk idx term L) :
    Calls Try.prog 10 #[.int .i64 idx, .int .i64 term, .slice A L.length c] w (RetE (.tuple #[.pointer none, .int .i64 1]) w) := by
  refine retE ?_
  have HS := hid hs
  clear hs
  have HN := hid h
  clear h
  by_cases h1 : idx < 0
  · go_enter Try.func10, Try.ntmps10
    go_wp2_with fail
    go_ret2
    exact ⟨rfl, Gr.refl _⟩
  by_cases h2 : term < 0
  · go_enter Try.func10, Try.ntmps10
    go_wp2_with fail
    go_ret2
    exact ⟨rfl, Gr.refl _⟩
  by_cases h3 : idx = 0
  · by_cases h4 : term = 0
    · have hr := hid (show rs term L = false by
        cases hr : rs term L
        · rfl
        · exact absurd ⟨by omega, by omega, by omega, hr⟩ HN.out)
      have HC := hid ((rises_any base term A c L w HS.out hl).mono (R' := RetE (.bool false) w) (fun _ _ h => by rwa [hr.out] at h))
      subst h3 h4
      go_enter Try.func10, Try.ntmps10
      go_wp2_with (go_at_call 27; (with_reducible refine HC.out.mono ?_); rintro e _ ⟨rfl, y, rfl⟩)
      go_ret2
      exact ⟨rfl, y.gr⟩
    · subst h3
      have h4' : (term == 0) = false := by simpa using h4
      go_enter Try.func10, Try.ntmps10
      go_wp2_with fail
      go_ret2
      exact ⟨rfl, Gr.refl _⟩
  · have h3' : (idx == 0) = false := by simpa using h3
    by_cases h4 : term = 0
    · subst h4
      go_enter Try.func10, Try.ntmps10
      go_wp2_with fail
      go_ret2
      exact ⟨rfl, Gr.refl _⟩
    · have h4' : (term == 0) = false := by simpa using h4
      have hr := hid (show rs term L = false by
        cases hr : rs term L
        · rfl
        · exact absurd ⟨by omega, by omega, by omega, hr⟩ HN.out)
      have HC := hid ((rises_any base term A c L w HS.out hl).mono (R' := RetE (.bool false) w) (fun _ _ h => by rwa [hr.out] at h))
      go_enter Try.func10, Try.ntmps10
      go_wp2_with (go_at_call 27; (with_reducible refine HC.out.mono ?_); rintro e _ ⟨rfl, y, rfl⟩)
      go_ret2
      exact ⟨rfl, y.gr⟩

theorem OwnE.shape {base B : Nat} {w : World} {v : Value} {L : List Ent} (h : OwnE base B w v L) : ∃ A c, v = .slice A L.length c := by
  obtain ⟨ys, h1, _⟩ := h
  rcases h1.2 with ⟨rfl, h0⟩ | ⟨g, cap, cur, rfl, _⟩
  · exact ⟨none, 0, by rw [h0]⟩
  · exact ⟨_, _, rfl⟩
theorem own_base {w : World} {B B' e size n : Nat} {v : Value} {xs : List Value} (h : w.ownsRow B e size v n xs) (hB : B' ≤ B) : w.ownsRow B' e size v n xs := by
  refine ⟨h.1, ?_⟩
  rcases h.2 with h2 | ⟨g', cap, cur, hv, hb, r⟩
  · exact .inl h2
  · exact .inr ⟨g', cap, cur, hv, by omega, r⟩
/-- It returned a new log. -/
def RetL (base : Nat) (idx term : Int) (L : List Ent) (w : World) (e : Ending) (w' : World) : Prop :=
  ∃ g v, ∃ y : Ext w, e = .returned (.tuple #[.pointer (some ⟨g, 0, none⟩), .int .i64 0]) ∧ w' = y.val ∧ LogAt base y.val g idx term L v ∧ w.heap.size ≤ g

set_option maxHeartbeats 2000000 in
theorem new_ok (base : Nat) (idx term : Int) (A : Option Addr) (c : Nat) (L : List Ent) (w : World) (hs : Sl base w A L) (hl : L.length ≤ 4398046511103) (h : NewOk idx term L) (hi : idx ≤ 1125899906842624) (hb : base ≤ w.heap.size) :
    Calls Try.prog 10 #[.int .i64 idx, .int .i64 term, .slice A L.length c] w (RetL base idx term L w) := by
  obtain ⟨h1, h2, h3, h4⟩ := h
  have HS := hid hs
  clear hs
  have HC := hid ((rises_any base term A c L w HS.out hl).mono (R' := RetE (.bool true) w) (fun _ _ h => by rwa [h4] at h))
  have H3 := hid h3
  clear h4 h3
  have fin : ∀ (y : Ext w) (y2 : Ext y.val) (A1 : Option Addr) (n1 : Nat), OwnE base y.val.heap.size y2.val (.slice A1 L.length n1) L →
      RetL base idx term L w (.returned (.tuple #[.pointer (some ⟨y2.val.heap.size, 0, none⟩), .int .i64 0])) (y2.val.alloc (.cells #[.int .i64 idx, .int .i64 term, .slice A1 L.length n1] 65)) := by
    intro y y2 A1 n1 ho
    refine ⟨_, _, ⟨_, ((y.gr.trans y2.gr).alloc _)⟩, rfl, rfl, ⟨heap_alloc_new _ _, Nat.le_trans hb (y.gr.trans y2.gr).size, ?_, h1, hi, hl⟩, (y.gr.trans y2.gr).size⟩
    obtain ⟨ys, o1, o2⟩ := ho.gr ((Gr.refl _).alloc (.cells #[.int .i64 idx, .int .i64 term, .slice A1 L.length n1] 65))
    exact ⟨ys, own_base o1 (Nat.le_trans hb y.gr.size), o2⟩
  by_cases h5 : idx = 0
  · have h6 : term = 0 := H3.out.1 h5
    subst h5 h6
    go_enter Try.func10, Try.ntmps10
    go_wp2_with (first | (go_at_call 27; (with_reducible refine HC.out.mono ?_); rintro e _ ⟨rfl, y, rfl⟩) | (go_at_call 28; (with_reducible refine (twins_any base A c L _ (HS.out.gr (Ext.gr _)) hl (Nat.le_trans hb (Ext.gr _).size)).mono ?_); rintro e _ ⟨v, y2, rfl, rfl, ho⟩; obtain ⟨A1, n1, rfl⟩ := ho.shape))
    go_ret2
    exact fin _ _ _ _ ho
  · have h6 : term ≠ 0 := fun e => h5 (H3.out.2 e)
    have h5' : (idx == 0) = false := by simpa using h5
    have h6' : (term == 0) = false := by simpa using h6
    clear h5 h6
    go_enter Try.func10, Try.ntmps10
    go_wp2_with (first | (go_at_call 27; (with_reducible refine HC.out.mono ?_); rintro e _ ⟨rfl, y, rfl⟩) | (go_at_call 28; (with_reducible refine (twins_any base A c L _ (HS.out.gr (Ext.gr _)) hl (Nat.le_trans hb (Ext.gr _).size)).mono ?_); rintro e _ ⟨v, y2, rfl, rfl, ho⟩; obtain ⟨A1, n1, rfl⟩ := ho.shape))
    go_ret2
    exact fin _ _ _ _ ho
end Go.Proofs.Ythiahnpijdkboaa
