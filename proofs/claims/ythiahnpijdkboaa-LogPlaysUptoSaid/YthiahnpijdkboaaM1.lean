import Derived.Test.YthiahnpijdkboaaR3
import Derived.Test.YthiahnpijdkboaaCL
import Derived.Test.YthiahnpijdkboaaH
namespace Go.Proofs.Ythiahnpijdkboaa
open Go.RowKit Go.Ext Go.BigFrame

/-- The entries are mine, or theirs, each at its place. -/
def Mixed (M T G : List Ent) : Prop := ∀ k, k < G.length → (k < M.length ∧ G.getD k (0, []) = M.getD k (0, [])) ∨ (k < T.length ∧ G.getD k (0, []) = T.getD k (0, []))
/-- From a place on, up to another, the terms are theirs. -/
def Took (T G : List Ent) (a b : Nat) : Prop := ∀ k, a ≤ k → k < b → k < G.length ∧ (G.getD k (0, [])).1 = (T.getD k (0, [])).1

theorem first_miss (P : Nat → Bool) : ∀ n, (∀ j, j < n → P j = true) ∨ ∃ k, k < n ∧ (∀ j, j < k → P j = true) ∧ P k = false
  | 0 => .inl fun j hj => absurd hj (by omega)
  | n + 1 => by
    rcases first_miss P n with h | ⟨k, h1, h2, h3⟩
    · cases hp : P n
      · exact .inr ⟨n, by omega, h, hp⟩
      · exact .inl fun j hj => by
          rcases Nat.lt_or_ge j n with h' | h'
          · exact h j h'
          · rw [show j = n by omega]; exact hp
    · exact .inr ⟨k, by omega, h2, h3⟩

theorem risesF_take : ∀ (L : List Ent) (t : Int) (n : Nat), risesF t L = true → risesF t (L.take n) = true
  | [], _, n, _ => by simp [risesF]
  | e :: r, t, 0, _ => by simp [risesF]
  | e :: r, t, n + 1, h => by
    simp only [risesF] at h
    split at h
    · cases h
    · rename_i hlt
      simp only [List.take_succ_cons, risesF]
      rw [if_neg hlt]
      exact risesF_take r e.1 n h
theorem risesF_drop : ∀ (L : List Ent) (t : Int) (n : Nat), n < L.length → risesF t L = true → risesF (L.getD n (0, [])).1 (L.drop (n + 1)) = true
  | [], _, n, hn, _ => absurd hn (by simp)
  | e :: r, t, 0, _, h => by
    simp only [risesF] at h
    split at h
    · cases h
    · simpa using h
  | e :: r, t, n + 1, hn, h => by
    simp only [risesF] at h
    split at h
    · cases h
    · have := risesF_drop r e.1 n (by simpa using hn) h
      simpa using this
theorem rs_mid {T : List Ent} (h : NewOk 0 0 T) (q m : Nat) (hq : q ≤ T.length) : rs (tmT 0 0 T q) ((T.drop q).take m) = true := by
  unfold rs
  refine risesF_take _ _ _ ?_
  cases q with
  | zero => exact h.2.2.2
  | succ n =>
    have h1 := h.2.2.2
    unfold rs at h1
    have h2 := risesF_drop T _ n (by omega) h1
    have h3 := tm_pos h (i := ((n + 1 : Nat) : Int)) (by omega) (by omega)
    have e1 : tmT 0 0 T ((n + 1 : Nat) : Int) = (T.getD n (0, [])).1 := by
      unfold tmT
      rw [if_neg (by omega), if_pos (by omega)]
      congr 2
      omega
    rw [e1] at h3 ⊢
    rw [if_neg (by omega)]
    exact h2

theorem mt_get {G : List Ent} {k : Nat} {t : Int} (h : mtB 0 0 G ((k : Int) + 1) t = true) : k < G.length ∧ (G.getD k (0, [])).1 = t := by
  unfold mtB tmB at h
  rw [Bool.and_eq_true] at h
  have h1 := of_decide_eq_true h.1
  have h2 : k < G.length := by omega
  refine ⟨h2, ?_⟩
  have h3 : tmT 0 0 G ((k : Int) + 1) = t := by simpa using h.2
  rw [← h3]
  unfold tmT
  rw [if_neg (by omega), if_pos (by omega)]
  congr 2
  omega
theorem getD_take {l : List Ent} {n k : Nat} (h : k < n) : (l.take n).getD k (0, []) = l.getD k (0, []) := by simp only [List.getD, List.getElem?_take]; rw [if_pos h]
theorem getD_app1 {a b : List Ent} {k : Nat} (h : k < a.length) : (a ++ b).getD k (0, []) = a.getD k (0, []) := by simp [List.getD, List.getElem?_append_left h]
theorem getD_app2 {a b : List Ent} {k : Nat} (h : a.length ≤ k) : (a ++ b).getD k (0, []) = b.getD (k - a.length) (0, []) := by simp [List.getD, List.getElem?_append_right h]

/-- All matched. -/
theorem took_all {T G : List Ent} {q m : Nat} (hall : ∀ j, j < m → mtB 0 0 G ((q : Int) + 1 + j) (((T.drop q).take m).getD j (0, [])).1 = true) : Took T G q (q + m) := by
  intro k h1 h2
  have := hall (k - q) (by omega)
  rw [getD_take (by omega), getD_drop, show q + (k - q) = k by omega, show (q : Int) + 1 + ((k - q : Nat) : Int) = (k : Int) + 1 by omega] at this
  exact mt_get this
/-- From a place on they are theirs. -/
theorem took_miss {M T G : List Ent} {q m k : Nat} (hk : k < m) (hm : q + m ≤ T.length) (hp : q + k ≤ G.length) (hI : Mixed M T G) (hall : ∀ j, j < k → mtB 0 0 G ((q : Int) + 1 + j) (((T.drop q).take m).getD j (0, [])).1 = true) :
    Took T (G.take (q + k) ++ ((T.drop q).take m).drop k) q (q + m) ∧ Mixed M T (G.take (q + k) ++ ((T.drop q).take m).drop k) ∧ (G.take (q + k) ++ ((T.drop q).take m).drop k).length = q + m := by
  have hl : (G.take (q + k)).length = q + k := by simp; omega
  have hl2 : (((T.drop q).take m).drop k).length = m - k := by simp; omega
  have hlen : (G.take (q + k) ++ ((T.drop q).take m).drop k).length = q + m := by rw [List.length_append, hl, hl2]; omega
  have hi : ∀ i, q + k ≤ i → i < q + m → (G.take (q + k) ++ ((T.drop q).take m).drop k).getD i (0, []) = T.getD i (0, []) := by
    intro i h1 h2
    rw [getD_app2 (by omega), hl, getD_drop, getD_take (by omega), getD_drop]
    congr 1
    omega
  refine ⟨fun i h1 h2 => ⟨by omega, ?_⟩, fun i hi' => ?_, hlen⟩
  · rcases Nat.lt_or_ge i (q + k) with h | h
    · rw [getD_app1 (by omega), getD_take h]
      have := hall (i - q) (by omega)
      rw [getD_take (by omega), getD_drop, show q + (i - q) = i by omega, show (q : Int) + 1 + ((i - q : Nat) : Int) = (i : Int) + 1 by omega] at this
      exact (mt_get this).2
    · rw [hi i h h2]
  · rw [hlen] at hi'
    rcases Nat.lt_or_ge i (q + k) with h | h
    · rw [getD_app1 (by omega), getD_take h]
      exact hI i (by omega)
    · rw [hi i h hi']
      exact .inr ⟨by omega, rfl⟩

/-- A merge of a piece of theirs. -/
def RetG (base g : Nat) (M T : List Ent) (q m : Nat) (w : World) (e : Ending) (w' : World) : Prop :=
  ∃ (f : Int) (more : Value) (G : List Ent) (v : Value), e = .returned (.tuple #[.int .i64 f, more, .int .i64 0]) ∧ LogAt base w' g 0 0 G v ∧ Mixed M T G ∧ Took T G q (q + m) ∧ Mod (fun b => b = g) w w'

theorem merge_mix (base g q m n : Nat) (M T G : List Ent) (v : Value) (A : Option Addr) (c : Nat) (w : World) (h : LogAt base w g 0 0 G v) (hI : Mixed M T G) (hT : NewOk 0 0 T) (hTl : T.length ≤ 4398046511000) (hq : q + m ≤ T.length)
    (hmt : mtB 0 0 G q (tmT 0 0 T q) = true) (hs : Sl base w A ((T.drop q).take m)) (hA : 0 < m → ∀ b off, A = some ⟨b, off, none⟩ → b ≠ g) (hn : n = m) (hc : m ≤ c) (hbase : base ≤ w.heap.size) :
    Calls Try.prog 17 #[.pointer (some ⟨g, 0, none⟩), .int .i64 q, .slice A n c] w (RetG base g M T q m w) := by
  subst hn
  have hln : ((T.drop q).take n).length = n := by simp; omega
  have hb := mt_tm hmt
  have ht : tmT 0 0 G q = tmT 0 0 T q := by
    unfold mtB at hmt
    rw [hb] at hmt
    simpa using hmt
  have hr : rs (tmT 0 0 G q) ((T.drop q).take n) = true := by rw [ht]; exact rs_mid hT q n (by omega)
  have hlo := tm_lo hb
  rcases first_miss (fun j => mtB 0 0 G ((q : Int) + 1 + j) (((T.drop q).take n).getD j (0, [])).1) n with ha | ⟨k, h1, h2, h3⟩
  · have := merge_all base g 0 0 q G v A c _ w h hs (by omega) hb hr (fun j hj => ha j (by omega))
    rw [hln] at this
    refine this.mono ?_
    rintro e _ ⟨rfl, y, rfl⟩
    exact ⟨_, _, G, v, rfl, h.gr y.gr, hI, took_all ha, y.gr.mod _⟩
  · have := merge_miss base g k (q + k) 0 0 q G v A c _ w h hs (by omega) hb hr (by omega) h2 h3 (by omega) (by
      cases k with
      | zero => omega
      | succ k =>
        have := h2 k (by omega)
        have := mt_get (G := G) (k := q + k) (t := _) (by rw [show ((q + k : Nat) : Int) + 1 = (q : Int) + 1 + (k : Int) by omega]; exact this)
        omega) (by omega) (hA (by omega)) (by omega) hbase
    rw [hln] at this
    refine this.mono ?_
    rintro e w' ⟨v', v2, rfl, h5, h6, h7⟩
    obtain ⟨t1, t2, t3⟩ := took_miss (M := M) h1 hq (by
      cases k with
      | zero => omega
      | succ k =>
        have := h2 k (by omega)
        have := mt_get (G := G) (k := q + k) (t := _) (by rw [show ((q + k : Nat) : Int) + 1 = (q : Int) + 1 + (k : Int) by omega]; exact this)
        omega) hI h2
    exact ⟨_, _, _, v', rfl, h5, t2, t1, h7⟩
end Go.Proofs.Ythiahnpijdkboaa
