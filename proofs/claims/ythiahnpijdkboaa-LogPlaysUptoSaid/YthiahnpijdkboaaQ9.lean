import Derived.Test.YthiahnpijdkboaaQ5
import Derived.Test.YthiahnpijdkboaaM1
namespace Go.Proofs.Ythiahnpijdkboaa
open Go.RowKit Go.Ext Go.BigFrame
attribute [local go_sem] Ext.cell Ext.frozen Ext.lt Ext.le s1 s2 s3 s4 s5 s6 t1 t2 t3 t4 t5 t6
attribute [local go_sem ↓] Go.wp_at_zero Go.wp_at_succ

def RetX (Z : Nat → Bool) (T : Nat) (base : Nat) (S : World → Prop) (p code : Int) (rest : List Ent) (w : World) (e : Ending) (w' : World) : Prop :=
  ∃ A2 c2, e = .returned (.tuple #[.int .i64 p, .slice A2 rest.length c2, .int .i64 code]) ∧ Sl base w' A2 rest ∧ (∀ b off, A2 = some ⟨b, off, none⟩ → IsT w' T b) ∧ S w' ∧ MY Z base w w'
theorem sl_nil (base : Nat) (w : World) : Sl base w none [] := ⟨[], Rd.nil _ _, ents_nil _ _⟩
theorem ownE_sl {base B : Nat} {w : World} {v : Value} {L : List Ent} (h : OwnE base B w v L) : ∃ A c, v = .slice A L.length c ∧ Sl base w A L ∧ ∀ b off, A = some ⟨b, off, none⟩ → IsT w 46 b := by
  obtain ⟨ys, o1, o2⟩ := h
  obtain ⟨A, c, rfl⟩ : ∃ A c, v = .slice A L.length c := by
    rcases o1.2 with ⟨rfl, h0⟩ | ⟨_, _, _, rfl, _⟩
    · exact ⟨none, 0, by rw [h0]⟩
    · exact ⟨_, _, rfl⟩
  refine ⟨A, c, rfl, ⟨ys, Rd.of_own o1, o2⟩, fun b off e => ?_⟩
  subst e
  rcases o1.2 with ⟨e, _⟩ | ⟨g', cap, cur, e, hb, hh, _⟩
  · injection e with e; cases e
  · injection e with e; injection e with e; injection e with e; subst e; exact ⟨_, _, hh⟩
theorem ownR_sl {base B : Nat} {w : World} {v : Value} {L : List Ent} (h : OwnR base B w v L) : ∃ A c, v = .slice A L.length c ∧ Sl base w A L ∧ L.length ≤ c ∧ (∀ b off, A = some ⟨b, off, none⟩ → IsT w 68 b) ∧ ∀ b off, A = some ⟨b, off, none⟩ → B ≤ b := by
  obtain ⟨ys, o1, o2⟩ := h
  obtain ⟨A, c, rfl⟩ : ∃ A c, v = .slice A L.length c := by
    rcases o1.2 with ⟨rfl, h0⟩ | ⟨_, _, _, rfl, _⟩
    · exact ⟨none, 0, by rw [h0]⟩
    · exact ⟨_, _, rfl⟩
  refine ⟨A, c, rfl, ⟨ys, Rd.of_own o1, o2⟩, ?_, fun b off e => ?_, fun b off e => ?_⟩
  · rcases o1.2 with ⟨e, h0⟩ | ⟨_, _, _, e, _, _, hc, _⟩
    · omega
    · injection e with _ _ e; omega
  · subst e
    rcases o1.2 with ⟨e, _⟩ | ⟨g', cap, cur, e, hb, hh, _⟩
    · injection e with e; cases e
    · injection e with e; injection e with e; injection e with e; subst e; exact ⟨_, _, hh⟩
  · subst e
    rcases o1.2 with ⟨e, _⟩ | ⟨g', cap, cur, e, hb, hh, _⟩
    · injection e with e; cases e
    · injection e with e; injection e with e; injection e with e; subst e; exact hb
/-- Entries that lie in a block that is not turned stay. -/
theorem Sl.myT {Z : Nat → Bool} {T base : Nat} {w w' : World} {A : Option Addr} {L : List Ent} (h : Sl base w A L) (m : MY Z base w w') (hZ : Z 5 = false) (hT : Z T = false) (hA : ∀ b off, A = some ⟨b, off, none⟩ → IsT w T b) : Sl base w' A L := by
  obtain ⟨xs, h1, h2⟩ := h
  refine ⟨xs, h1.keep (fun b ⟨off, e⟩ hb => m.block b hb (fun hs => ?_)), h2.kp (m.kp hZ)⟩
  obtain ⟨_, t, h3, h4⟩ := hs
  have := h4.ne (hA b off e)
  subst this
  rw [hT] at h3; cases h3
theorem risesF_ge : ∀ (L : List Ent) (t : Int), risesF t L = true → ∀ k, k < L.length → t ≤ (L.getD k (0, [])).1
  | [], _, _, k, hk => by simp at hk
  | x :: L, t, h, k, hk => by
    unfold risesF at h
    split at h
    · cases h
    · rename_i hx
      cases k with
      | zero => simp only [List.getD_cons_zero]; omega
      | succ k =>
        simp only [List.getD_cons_succ]
        have := risesF_ge L _ h k (by simpa using hk)
        omega
theorem rs_pos {t : Int} {L : List Ent} (h : rs t L = true) : ∀ k, k < L.length → 1 ≤ (L.getD k (0, [])).1 := fun k hk => by
  have := risesF_ge L _ h k hk
  split at this <;> omega

/-- Both merge alike. -/
theorem merge_two (idx term I : Int) (L l : List Ent) (hI : I ≤ 9223372036854775807) (hl : l.length ≤ 1048576) (hLl : L.length + l.length ≤ 4398046511103) :
    ∃ (p code : Int) (rest L' : List Ent),
      (∀ base g w A c, O base w g idx term L → In base w A c l → base ≤ w.heap.size → Calls Try.prog 17 #[.pointer (some ⟨g, 0, none⟩), .int .i64 I, .slice A l.length c] w (RetX ZO 46 base (fun w' => O base w' g idx term L') p code rest w)) ∧
      (∀ base g w A c, R base w g idx term L → Sl base w A l → l.length ≤ c → (∀ b off, A = some ⟨b, off, none⟩ → b ≠ g) → base ≤ w.heap.size → Calls Try.prog 35 #[.pointer (some ⟨g, 0, none⟩), .int .i64 I, .slice A l.length c] w (RetX ZT 68 base (fun w' => R base w' g idx term L') p code rest w)) ∧
      rest.length ≤ 1048576 ∧ L'.length ≤ L.length + l.length ∧ ((∀ k, k < L.length → 1 ≤ (L.getD k (0, [])).1) → ∀ k, k < L'.length → 1 ≤ (L'.getD k (0, [])).1) := by
  by_cases hbad : tmB idx L.length I = false ∨ rs (tmT idx term L I) l = false
  · refine ⟨0, 6, [], L, fun base g w A c ⟨v, h⟩ hi hb => ?_, fun base g w A c ⟨v, h⟩ hs hc hA hb => ?_, by simp, by omega, fun h => h⟩
    · refine (merge_bad base g idx term I L v A c l w h hI hi.1 (by omega) hbad).mono ?_
      rintro e _ ⟨rfl, y, rfl⟩
      exact ⟨none, 0, rfl, sl_nil _ _, (fun _ _ e => by cases e), ⟨v, h.gr y.gr⟩, MY.of_gr y.gr⟩
    · refine (mergeR_bad base g idx term I L v A c l w h hI hs (by omega) hbad).mono ?_
      rintro e _ ⟨rfl, y, rfl⟩
      exact ⟨none, 0, rfl, sl_nil _ _, (fun _ _ e => by cases e), ⟨v, h.gr y.gr⟩, MY.of_gr y.gr⟩
  · have hb : tmB idx L.length I = true := by
      cases h : tmB idx L.length I
      · exact absurd (.inl h) hbad
      · rfl
    have hr : rs (tmT idx term L I) l = true := by
      cases h : rs (tmT idx term L I) l
      · exact absurd (.inr h) hbad
      · rfl
    rcases first_miss (fun j => mtB idx term L (I + 1 + j) (l.getD j (0, [])).1) l.length with hall | ⟨k, hk, hall, hmiss⟩
    · refine ⟨0, 0, [], L, fun base g w A c ⟨v, h⟩ hi hb' => ?_, fun base g w A c ⟨v, h⟩ hs hc hA hb' => ?_, by simp, by omega, fun h => h⟩
      · refine (merge_all base g idx term I L v A c l w h hi.1 (by omega) hb hr hall).mono ?_
        rintro e _ ⟨rfl, y, rfl⟩
        exact ⟨none, 0, rfl, sl_nil _ _, (fun _ _ e => by cases e), ⟨v, h.gr y.gr⟩, MY.of_gr y.gr⟩
      · refine (mergeR_all base g idx term I L v A c l w h hs (by omega) hb hr hall).mono ?_
        rintro e _ ⟨rfl, y, rfl⟩
        exact ⟨none, 0, rfl, sl_nil _ _, (fun _ _ e => by cases e), ⟨v, h.gr y.gr⟩, MY.of_gr y.gr⟩
    · have h1 := tm_lo hb
      have h2 : I + k ≤ idx + L.length := by
        rcases Nat.eq_zero_or_pos k with h0 | h0
        · subst h0; omega
        · have := tm_lo (mt_tm (hall (k - 1) (by omega)))
          omega
      obtain ⟨p, hp⟩ : ∃ p : Nat, I + k = idx + p := ⟨(I + k - idx).toNat, by omega⟩
      have hpL : p ≤ L.length := by omega
      refine ⟨I + 1 + k, 0, l.drop k, L.take p ++ l.drop k, fun base g w A c ⟨v, h⟩ hi hb' => ?_, fun base g w A c ⟨v, h⟩ hs hc hA hb' => ?_, ?_, ?_, ?_⟩
      · refine (merge_miss base g k p idx term I L v A c l w h hi.1 (by omega) hb hr hk hall hmiss hp hpL (by omega) (fun b off e => ?_) hi.2.1 hb').mono ?_
        · have := hi.2.2.2.1 (by rintro rfl; simp at hk) b off e; have := h.lo; omega
        · rintro e w' ⟨v', v2, rfl, h3, h4, m⟩
          obtain ⟨A2, c2, rfl, hs2, ht2⟩ := ownE_sl h4
          exact ⟨A2, c2, rfl, hs2, ht2, ⟨v', h3⟩, h.myg m⟩
      · refine (mergeR_miss base g k p idx term I L v A c l w h hs (by omega) hb hr hk hall hmiss hp hpL (by omega) hA hc hb').mono ?_
        rintro e w' ⟨v', v2, rfl, h3, h4, m⟩
        obtain ⟨A2, c2, rfl, hs2, _, ht2, _⟩ := ownR_sl h4
        exact ⟨A2, c2, rfl, hs2, ht2, ⟨v', h3⟩, h.myg m⟩
      · rw [List.length_drop]; omega
      · rw [List.length_append, List.length_take, List.length_drop]; omega
      · intro hpos j hj
        have hlt : (L.take p).length = p := by rw [List.length_take]; omega
        by_cases e : j < p
        · rw [getD_app1 (by omega), getD_take e]
          exact hpos j (by omega)
        · rw [getD_app2 (by omega), getD_drop]
          rw [List.length_append, hlt, List.length_drop] at hj
          exact rs_pos hr _ (by omega)
end Go.Proofs.Ythiahnpijdkboaa
