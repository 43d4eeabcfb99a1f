import Derived.Test.YtkgmienjioplaaaD3
namespace Go.Proofs.Ytkgmienjioplaaa
open Go.RowKit Go.Ext

/-! What the sectors hold behind a cut: plain law. -/

/-- A sector's bytes. -/
def sec (sz : Nat) (K : List UInt8) (i : Nat) : List UInt8 := (K.drop (i * sz)).take sz
theorem sector_nil (sz : Nat) (K : List UInt8) (i : Nat) : sector sz K [] i = sec sz K i := rfl
theorem sector_eq (sz : Nat) (K : List UInt8) (P : List Ent) (i : Nat) : sector sz K P i = (seek P i P.length).getD (sec sz K i) := rfl

theorem splice_at (L : List UInt8) (o : Nat) (b : List UInt8) (h : o + b.length ≤ L.length) (k : Nat) : (splice L o b)[k]? = if k < o then L[k]? else if k < o + b.length then b[k - o]? else L[k]? := by
  unfold splice
  have ho : (L.take o).length = o := by simp; omega
  by_cases h1 : k < o
  · rw [if_pos h1, List.getElem?_append_left (by omega), List.getElem?_take, if_pos h1]
  · rw [if_neg h1, List.getElem?_append_right (by omega), ho]
    by_cases h2 : k < o + b.length
    · rw [if_pos h2, List.getElem?_append_left (by omega)]
    · rw [if_neg h2, List.getElem?_append_right (by omega), List.getElem?_drop]
      congr 1
      omega
theorem sec_at (sz : Nat) (K : List UInt8) (i k : Nat) : (sec sz K i)[k]? = if k < sz then K[i * sz + k]? else none := by
  unfold sec
  rw [List.getElem?_take, List.getElem?_drop]
theorem far {i e sz : Nat} (h : i ≠ e) {k : Nat} (hk : k < sz) : i * sz + k < e * sz ∨ e * sz + sz ≤ i * sz + k := by
  rcases Nat.lt_or_ge i e with h1 | h1
  · left
    have : (i + 1) * sz ≤ e * sz := Nat.mul_le_mul_right _ h1
    rw [Nat.succ_mul] at this
    omega
  · right
    have : (e + 1) * sz ≤ i * sz := Nat.mul_le_mul_right _ (by omega)
    rw [Nat.succ_mul] at this
    omega
theorem sec_put1 (sz S : Nat) (K : List UInt8) (e : Ent) (i : Nat) (hK : K.length = S * sz) (h0 : 0 ≤ e.1) (h1 : e.1 < S) (hb : e.2.length = sz) :
    sec sz (put1 sz K e) i = if e.1 = i then e.2 else sec sz K i := by
  obtain ⟨n, b⟩ := e
  obtain ⟨q, rfl⟩ : ∃ q : Nat, n = q := ⟨n.toNat, by simp at h0; omega⟩
  simp only at h1 hb ⊢
  have hfit : q * sz + b.length ≤ K.length := by
    rw [hK, hb, ← Nat.succ_mul]
    exact Nat.mul_le_mul_right _ (by omega)
  apply List.ext_getElem?
  intro k
  unfold put1
  simp only [Int.toNat_natCast]
  rw [sec_at, splice_at _ _ _ hfit]
  by_cases hi : (q : Int) = i
  · have hqi : i = q := by omega
    subst hqi
    rw [if_pos hi]
    by_cases hk : k < sz
    · rw [if_pos hk, if_neg (by omega), if_pos (by omega)]
      congr 1
      omega
    · rw [if_neg hk, List.getElem?_eq_none (by omega)]
  · rw [if_neg hi, sec_at]
    by_cases hk : k < sz
    · rw [if_pos hk, if_pos hk]
      rcases far (i := i) (e := q) (by omega) hk with h2 | h2
      · rw [if_pos h2]
      · rw [if_neg (by omega), if_neg (by omega)]
    · rw [if_neg hk, if_neg hk]

/-- Of the first m pending writes that are kept the last one of the sector. -/
def seekK (kp : Nat → Bool) (P : List Ent) (i : Int) : Nat → Option (List UInt8)
  | 0 => none
  | m + 1 => if kp m = true ∧ (P.getD m (0, [])).1 = i then some (P.getD m (0, [])).2 else seekK kp P i m
theorem sec_layF (sz S : Nat) (kp : Nat → Bool) (K : List UInt8) (P : List Ent) (i : Nat) (hK : K.length = S * sz) (hP : ∀ j, j < P.length → 0 ≤ (P.getD j (0, [])).1 ∧ (P.getD j (0, [])).1 < S ∧ (P.getD j (0, [])).2.length = sz) :
    ∀ j, j ≤ P.length → sec sz (layF sz kp K P j) i = (seekK kp P i j).getD (sec sz K i)
  | 0, _ => rfl
  | j + 1, hj => by
    have ih := sec_layF sz S kp K P i hK hP j (by omega)
    have hl := layF_length (sz := sz) kp K P S hK hP j (by omega)
    obtain ⟨h1, h2, h3⟩ := hP j (by omega)
    rw [layF_succ]
    unfold seekK
    by_cases hk : kp j = true
    · rw [if_pos hk, sec_put1 sz S _ _ i hl h1 h2 h3]
      by_cases he : (P.getD j (0, [])).1 = i
      · rw [if_pos he, if_pos ⟨hk, he⟩]
        rfl
      · rw [if_neg he, if_neg (fun h => he h.2)]
        exact ih
    · rw [if_neg hk, if_neg (fun h => hk h.1)]
      exact ih
theorem seekK_found (kp : Nat → Bool) (P : List Ent) (i : Int) (m : Nat) (hm : (P.getD m (0, [])).1 = i) (hk : kp m = true) : ∀ n, m < n → (∀ j, m < j → j < n → (P.getD j (0, [])).1 ≠ i) → seekK kp P i n = some (P.getD m (0, [])).2
  | 0, h, _ => absurd h (by omega)
  | n + 1, h, hno => by
    unfold seekK
    by_cases e : n = m
    · subst e; rw [if_pos ⟨hk, hm⟩]
    · rw [if_neg (fun h2 => hno n (by omega) (by omega) h2.2)]
      exact seekK_found kp P i m hm hk n (by omega) (fun j h1 h2 => hno j h1 (by omega))
theorem seekK_none (kp : Nat → Bool) (P : List Ent) (i : Int) : ∀ n, (∀ j, j < n → kp j = true → (P.getD j (0, [])).1 ≠ i) → seekK kp P i n = none
  | 0, _ => rfl
  | n + 1, hno => by
    unfold seekK
    rw [if_neg (fun h => hno n (by omega) h.1 h.2)]
    exact seekK_none kp P i n (fun j h => hno j (by omega))
/-- What is found is one of the writes. -/
theorem seekK_some (kp : Nat → Bool) (P : List Ent) (i : Int) : ∀ n bs, seekK kp P i n = some bs → ∃ j, j < n ∧ (P.getD j (0, [])).1 = i ∧ (P.getD j (0, [])).2 = bs
  | 0, _, h => by cases h
  | n + 1, bs, h => by
    unfold seekK at h
    split at h
    · rename_i hc
      exact ⟨n, by omega, hc.2, by injection h⟩
    · obtain ⟨j, h1, h2⟩ := seekK_some kp P i n bs h
      exact ⟨j, by omega, h2⟩
theorem sec_zero (n sz i : Nat) (h : i * sz + sz ≤ n) : sec sz (List.replicate n 0) i = List.replicate sz 0 := by
  unfold sec
  rw [List.drop_replicate, List.take_replicate]
  congr 1
  omega
end Go.Proofs.Ytkgmienjioplaaa
