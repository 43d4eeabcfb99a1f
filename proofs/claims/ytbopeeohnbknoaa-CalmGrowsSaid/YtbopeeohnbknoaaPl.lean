namespace Go.Proofs.Ytbopeeohnbknoaa

/-- a load's number as it counts -/
def clp (v : Int) : Int := if v < 0 then 0 else if 1048576 < v then 1048576 else v
theorem clp_bd (v : Int) : 0 ≤ clp v ∧ clp v ≤ 1048576 := by unfold clp; split <;> (try split) <;> omega
theorem clp_mono (v k : Int) (h : 0 ≤ k) : clp v ≤ clp (v + k) := by unfold clp; repeat' split <;> omega
theorem clp_eq (v : Int) : (if 1048576 < (if v < 0 then 0 else v) then 1048576 else if v < 0 then 0 else v) = clp v := by
  unfold clp
  by_cases h : v < 0
  · simp [h]
  · simp only [if_neg h]

/-- in how many rounds there is a leader; all is done -/
def elc (n : Int) : Int := 20 * n + 10
def bnd (n g a b c : Int) : Int := 20 * n + 10 + 10 * g + 2 * (clp a + clp b + clp c) + 20
theorem elc_known : elc 6 = 130 := by decide
theorem bnd_known : bnd 6 1 2 0 0 = 164 := by decide
theorem bnd_grows (n m g k a b c x y : Int) (hm : 0 ≤ m) (hk : 0 ≤ k) (hx : 0 ≤ x) (hy : 0 ≤ y) : bnd n g a b c ≤ bnd (n + m) (g + k) (a + x) (b + y) c := by
  have := clp_mono a x hx
  have := clp_mono b y hy
  unfold bnd; omega
theorem bnd_elc (n g a b c : Int) (hg : 0 ≤ g) : elc n ≤ bnd n g a b c := by
  have := clp_bd a
  have := clp_bd b
  have := clp_bd c
  unfold bnd elc; omega
theorem elc_grows (n m : Int) (hm : 0 ≤ m) : elc n ≤ elc (n + m) := by unfold elc; omega
theorem elc_least (n : Int) (hn : 0 ≤ n) : 10 ≤ elc n := by unfold elc; omega

/-- The greatest of the first k, as the text makes it. -/
def mx (zs : List Int) : Nat → Int
  | 0 => 0
  | k + 1 => if k = 0 ∨ mx zs k < zs.getD k 0 then zs.getD k 0 else mx zs k

theorem mx_first (zs : List Int) : mx zs 1 = zs.getD 0 0 := by simp [mx]
theorem mx_more (zs : List Int) (k : Nat) (h : mx zs k < zs.getD k 0) : mx zs (k + 1) = zs.getD k 0 := by simp only [mx]; rw [if_pos (.inr h)]
theorem mx_keep (zs : List Int) (k : Nat) (hk : k ≠ 0) (h : ¬ mx zs k < zs.getD k 0) : mx zs (k + 1) = mx zs k := by simp only [mx]; rw [if_neg (fun e => e.elim hk h)]
theorem mx_ge (zs : List Int) : ∀ k j, j < k → zs.getD j 0 ≤ mx zs k
  | 0, j, h => absurd h (by omega)
  | k + 1, j, h => by
    by_cases hc : k = 0 ∨ mx zs k < zs.getD k 0
    · have e : mx zs (k + 1) = zs.getD k 0 := by simp only [mx]; rw [if_pos hc]
      rw [e]
      rcases Nat.lt_succ_iff_lt_or_eq.1 h with h1 | h1
      · have := mx_ge zs k j h1
        rcases hc with hc | hc
        · omega
        · omega
      · subst h1; omega
    · have e : mx zs (k + 1) = mx zs k := by simp only [mx]; rw [if_neg hc]
      rw [e]
      rcases Nat.lt_succ_iff_lt_or_eq.1 h with h1 | h1
      · exact mx_ge zs k j h1
      · subst h1
        rw [not_or] at hc
        omega
theorem mx_mem (zs : List Int) : ∀ k, 0 < k → ∃ j, j < k ∧ zs.getD j 0 = mx zs k
  | 0, h => absurd h (by omega)
  | k + 1, _ => by
    by_cases hc : k = 0 ∨ mx zs k < zs.getD k 0
    · exact ⟨k, by omega, by simp only [mx]; rw [if_pos hc]⟩
    · have e : mx zs (k + 1) = mx zs k := by simp only [mx]; rw [if_neg hc]
      rw [not_or] at hc
      obtain ⟨j, hj, he⟩ := mx_mem zs k (by omega)
      exact ⟨j, by omega, by rw [e, he]⟩

/-- Is a number among the first k? -/
def hasB (zs : List Int) (x : Int) : Nat → Bool
  | 0 => false
  | k + 1 => hasB zs x k || (zs.getD k 0 == x)
theorem hasB_of (zs : List Int) (x : Int) : ∀ k j, j < k → zs.getD j 0 = x → hasB zs x k = true
  | 0, j, h, _ => absurd h (by omega)
  | k + 1, j, h, e => by
    simp only [hasB, Bool.or_eq_true, beq_iff_eq]
    rcases Nat.lt_succ_iff_lt_or_eq.1 h with h1 | h1
    · exact .inl (hasB_of zs x k j h1 e)
    · subst h1; exact .inr e
theorem hasB_all (zs : List Int) (n : Nat) : hasB zs (mx zs n) n = decide (0 < (n : Int)) := by
  cases n with
  | zero => rfl
  | succ n =>
    obtain ⟨j, hj, e⟩ := mx_mem zs (n + 1) (by omega)
    rw [hasB_of zs _ _ j hj e]
    exact (decide_eq_true (by omega)).symm
end Go.Proofs.Ytbopeeohnbknoaa
