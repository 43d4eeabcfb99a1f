import Derived.Test.YtikmniokbliolaaW1
namespace Go.Proofs.Ytikmniokbliolaa
open Go.RowKit Go.Ext

/-! The order of items. -/
theorem cmpL_self : ∀ xs : List Int, cmpL xs xs = 0
  | [] => rfl
  | x :: r => by simp [cmpL, cmpL_self r]
theorem cmpL_eq : ∀ xs ys : List Int, cmpL xs ys = 0 → xs = ys
  | [], [], _ => rfl
  | [], _ :: _, h => by simp [cmpL] at h
  | _ :: _, [], h => by simp [cmpL] at h
  | x :: r, y :: s, h => by
    simp only [cmpL] at h
    split at h
    · omega
    · split at h
      · omega
      · rw [show x = y by omega, cmpL_eq r s h]
theorem cmpL_neg : ∀ xs ys : List Int, cmpL ys xs = - cmpL xs ys
  | [], [] => rfl
  | [], _ :: _ => rfl
  | _ :: _, [] => rfl
  | x :: r, y :: s => by
    simp only [cmpL]
    rcases Int.lt_trichotomy x y with h | h | h
    · rw [if_neg (by omega), if_pos h, if_pos h]; rfl
    · rw [if_neg (by omega), if_neg (by omega), if_neg (by omega), if_neg (by omega), cmpL_neg r s]
    · rw [if_pos h, if_neg (by omega), if_pos h]
theorem cmpL_trans : ∀ xs ys zs : List Int, cmpL xs ys < 0 → cmpL ys zs < 0 → cmpL xs zs < 0
  | [], [], _, h, _ => by simp [cmpL] at h
  | [], _ :: _, [], _, h => by simp [cmpL] at h
  | [], _ :: _, _ :: _, _, _ => by simp [cmpL]
  | _ :: _, [], _, h, _ => by simp [cmpL] at h
  | _ :: _, _ :: _, [], _, h => by simp [cmpL] at h
  | x :: r, y :: s, z :: t, h, k => by
    simp only [cmpL] at h k ⊢
    rcases Int.lt_trichotomy x y with e | e | e
    · rcases Int.lt_trichotomy y z with f | f | f
      · rw [if_pos (by omega)]; omega
      · rw [if_pos (by omega)]; omega
      · rw [if_neg (by omega), if_pos f] at k; omega
    · subst e
      rw [if_neg (by omega), if_neg (by omega)] at h
      rcases Int.lt_trichotomy x z with f | f | f
      · rw [if_pos f]; omega
      · subst f
        rw [if_neg (by omega), if_neg (by omega)] at k ⊢
        exact cmpL_trans r s t h k
      · rw [if_neg (by omega), if_pos f] at k; omega
    · rw [if_neg (by omega), if_pos e] at h; omega

def cmpI (x y : It) : Int := cmpL (il x) (il y)
theorem cmpI_self (x : It) : cmpI x x = 0 := cmpL_self _
theorem cmpI_eq {x y : It} (h : cmpI x y = 0) : x = y := by
  have := cmpL_eq _ _ h
  obtain ⟨a, b, c, d, e, f⟩ := x
  obtain ⟨a', b', c', d', e', f'⟩ := y
  simp only [il, List.cons.injEq] at this
  obtain ⟨rfl, rfl, rfl, rfl, rfl, rfl, _⟩ := this
  rfl
theorem cmpI_neg (x y : It) : cmpI y x = - cmpI x y := cmpL_neg _ _
theorem cmpI_trans {x y z : It} (h : cmpI x y < 0) (k : cmpI y z < 0) : cmpI x z < 0 := cmpL_trans _ _ _ h k

abbrev z0 : It := (0, 0, 0, 0, 0, 0)
/-- Rising. -/
def Srt (L : List It) : Prop := L.Pairwise fun a b => cmpI a b < 0
theorem Srt.lt {L : List It} (h : Srt L) {i j : Nat} (hij : i < j) (hj : j < L.length) : cmpI (L.getD i z0) (L.getD j z0) < 0 := by
  have := List.pairwise_iff_getElem.1 h i j (by omega) hj hij
  simpa [List.getD, hj, show i < L.length by omega] using this
theorem Srt.mono {L : List It} (h : Srt L) {x : It} {i j : Nat} (hij : i ≤ j) (hj : j < L.length) (hx : cmpI (L.getD j z0) x < 0) : cmpI (L.getD i z0) x < 0 := by
  rcases Nat.lt_or_ge i j with h1 | h1
  · exact cmpI_trans (h.lt h1 hj) hx
  · rwa [show i = j by omega]

/-- Where an item stands, or would. -/
def pos (L : List It) (x : It) : Nat := (L.takeWhile fun y => decide (cmpI y x < 0)).length
theorem pos_le (L : List It) (x : It) : pos L x ≤ L.length := (List.takeWhile_sublist _).length_le
theorem pos_eq : ∀ (L : List It) (x : It) (i : Nat), i ≤ L.length → (∀ t, t < i → cmpI (L.getD t z0) x < 0) → (i < L.length → ¬ cmpI (L.getD i z0) x < 0) → pos L x = i
  | [], x, i, h, _, _ => by simp at h; simp [pos, h]
  | y :: r, x, 0, _, _, h => by
    have := h (by simp)
    simp only [List.getD_cons_zero] at this
    simp [pos, this]
  | y :: r, x, i + 1, h, h1, h2 => by
    have e := h1 0 (by omega)
    simp only [List.getD_cons_zero] at e
    have := pos_eq r x i (by simpa using h) (fun t ht => by simpa using h1 (t + 1) (by omega)) (fun hi => by simpa using h2 (by simpa using hi))
    unfold pos at this ⊢
    rw [List.takeWhile_cons, if_pos (by simpa using e)]
    simp [this]
theorem pos_lt : ∀ (L : List It) (x : It) (t : Nat), t < pos L x → cmpI (L.getD t z0) x < 0
  | [], x, t, h => by simp [pos] at h
  | y :: r, x, t, h => by
    unfold pos at h
    rw [List.takeWhile_cons] at h
    split at h
    · rename_i e
      cases t with
      | zero => simpa using e
      | succ t => simpa using pos_lt r x t (by simpa [pos] using h)
    · simp at h
theorem pos_ge : ∀ (L : List It) (x : It), pos L x < L.length → ¬ cmpI (L.getD (pos L x) z0) x < 0
  | [], x, h => by simp at h
  | y :: r, x, h => by
    by_cases e : cmpI y x < 0
    · have : pos (y :: r) x = pos r x + 1 := by simp [pos, e]
      rw [this] at h ⊢
      simpa using pos_ge r x (by simpa using h)
    · have : pos (y :: r) x = 0 := by simp [pos, e]
      rw [this]
      simpa using e

/-- Is it there? -/
def has (L : List It) (x : It) : Bool := decide (pos L x < L.length) && decide (L.getD (pos L x) z0 = x)
theorem has_iff {L : List It} (h : Srt L) (x : It) : has L x = true ↔ x ∈ L := by
  unfold has
  constructor
  · intro e
    simp only [Bool.and_eq_true, decide_eq_true_eq] at e
    rw [← e.2]
    simp [List.getD, e.1]
  · intro e
    obtain ⟨i, hi, rfl⟩ := List.getElem_of_mem e
    have hg : L.getD i z0 = L[i] := by simp [List.getD, hi]
    have : pos L L[i] = i := pos_eq _ _ _ (by omega) (fun t ht => by rw [← hg]; exact h.lt ht hi) (fun _ => by rw [hg, cmpI_self]; omega)
    rw [this]
    simp [hi]

/-- With an item more. -/
def ins (L : List It) (x : It) : List It := L.take (pos L x) ++ x :: L.drop (pos L x)
theorem ins_srt {L : List It} (h : Srt L) {x : It} (hx : has L x = false) : Srt (ins L x) := by
  have hp := pos_le L x
  unfold ins Srt
  rw [List.pairwise_append, List.pairwise_cons]
  have hgt : ∀ y ∈ L.drop (pos L x), cmpI x y < 0 := by
    intro y hy
    obtain ⟨j, hj, rfl⟩ := List.getElem_of_mem hy
    simp only [List.length_drop] at hj
    rw [List.getElem_drop]
    have h1 := pos_ge L x (by omega)
    have h2 : cmpI (L.getD (pos L x + j) z0) x ≥ 0 := by
      by_cases e : cmpI (L.getD (pos L x + j) z0) x < 0
      · exact absurd (h.mono (Nat.le_add_right _ _) (by omega) e) h1
      · omega
    have h3 : L.getD (pos L x + j) z0 = L[pos L x + j] := by simp [List.getD, show pos L x + j < L.length by omega]
    rw [h3] at h2
    have h4 : cmpI L[pos L x + j] x ≠ 0 := fun e => by
      have := cmpI_eq e
      have hm : x ∈ L := by rw [← this]; exact List.getElem_mem _
      rw [(has_iff h x).2 hm] at hx
      cases hx
    have := cmpI_neg x L[pos L x + j]
    omega
  refine ⟨List.Pairwise.sublist (List.take_sublist _ _) h, ⟨hgt, List.Pairwise.sublist (List.drop_sublist _ _) h⟩, ?_⟩
  intro a ha b hb
  have hax : cmpI a x < 0 := by
    obtain ⟨i, hi, rfl⟩ := List.getElem_of_mem ha
    simp only [List.length_take] at hi
    have := pos_lt L x i (by omega)
    rw [List.getElem_take]
    simpa [List.getD, show i < L.length by omega] using this
  rcases List.mem_cons.1 hb with rfl | hb
  · exact hax
  · exact cmpI_trans hax (hgt b hb)
theorem ins_length (L : List It) (x : It) : (ins L x).length = L.length + 1 := by
  have := pos_le L x
  simp [ins]
  omega
theorem mem_ins {L : List It} {x y : It} : y ∈ ins L x ↔ y = x ∨ y ∈ L := by
  unfold ins
  have : y ∈ L ↔ y ∈ L.take (pos L x) ∨ y ∈ L.drop (pos L x) := by rw [← List.mem_append, List.take_append_drop]
  rw [List.mem_append, List.mem_cons, this]
  constructor
  · rintro (h | h | h) <;> simp [h]
  · rintro (h | h | h) <;> simp [h]

/-- The cells of items. -/
def cs6 (L : List It) : List Value := L.flatMap ic
theorem ic_length (x : It) : (ic x).length = 6 := rfl
theorem cs6_length : ∀ L : List It, (cs6 L).length = L.length * 6
  | [] => rfl
  | x :: r => by
    have := cs6_length r
    unfold cs6 at this ⊢
    simp only [List.flatMap_cons, List.length_append, ic_length, List.length_cons, this]
    omega
theorem cs6_one (L : List It) : ∀ u ∈ cs6 L, u.oneCell' = true := by
  intro u hu
  obtain ⟨x, _, h⟩ := List.mem_flatMap.1 hu
  simp only [ic, List.mem_cons, List.not_mem_nil, or_false] at h
  rcases h with rfl | rfl | rfl | rfl | rfl | rfl <;> rfl
theorem cs6_get : ∀ (L : List It) (i j : Nat), i < L.length → j < 6 → (cs6 L)[i * 6 + j]? = (ic (L.getD i z0))[j]?
  | [], i, _, h, _ => by simp at h
  | x :: r, 0, j, _, hj => by
    simp only [cs6, List.flatMap_cons, List.getD_cons_zero, Nat.zero_mul, Nat.zero_add]
    rw [List.getElem?_append_left (by rw [ic_length]; exact hj)]
  | x :: r, i + 1, j, h, hj => by
    have := cs6_get r i j (by simpa using h) hj
    simp only [cs6, List.flatMap_cons, List.getD_cons_succ] at this ⊢
    rw [List.getElem?_append_right (by rw [ic_length]; omega), ic_length, show (i + 1) * 6 + j - 6 = i * 6 + j by omega]
    exact this
theorem cs6_app (L M : List It) : cs6 (L ++ M) = cs6 L ++ cs6 M := by simp [cs6]
theorem cs6_take : ∀ (L : List It) (k : Nat), cs6 (L.take k) = (cs6 L).take (k * 6)
  | [], k => by simp [cs6]
  | x :: r, 0 => by simp [cs6]
  | x :: r, k + 1 => by
    have := cs6_take r k
    simp only [cs6, List.take_succ_cons, List.flatMap_cons] at this ⊢
    rw [List.take_append, ic_length, this, show (k + 1) * 6 - 6 = k * 6 by omega, List.take_of_length_le (l := ic x) (by rw [ic_length]; omega)]
theorem cs6_drop : ∀ (L : List It) (k : Nat), cs6 (L.drop k) = (cs6 L).drop (k * 6)
  | [], k => by simp [cs6]
  | x :: r, 0 => by simp [cs6]
  | x :: r, k + 1 => by
    have := cs6_drop r k
    simp only [cs6, List.drop_succ_cons, List.flatMap_cons] at this ⊢
    rw [List.drop_append, ic_length, this, show (k + 1) * 6 - 6 = k * 6 by omega, (List.drop_eq_nil_of_le (by rw [ic_length]; omega) : (ic x).drop ((k + 1) * 6) = []), List.nil_append]

/-- The slice at A reads as items. -/
def Row (w : World) (A : Option Addr) (L : List It) : Prop :=
  L ≠ [] → ∃ b off, A = some ⟨b, off, none⟩ ∧ ∀ i, i < L.length → ∀ j u, (ic (L.getD i z0))[j]? = some u → w.cell? ⟨b, off + i * 6 + j, none⟩ = some u
theorem Row.keep {w w' : World} {A : Option Addr} {L : List It} (h : Row w A L) (hk : ∀ b, (∃ off, A = some ⟨b, off, none⟩) → b < w.heap.size → w'.heap[b]? = w.heap[b]?) : Row w' A L := fun hn => by
  obtain ⟨b, off, rfl, hc⟩ := h hn
  refine ⟨b, off, rfl, fun i hi j u hu => ?_⟩
  have h1 := hc i hi j u hu
  exact (World.cell?_of_block (hk b ⟨off, rfl⟩ (World.block_lt_of_cell? w _ h1))).trans h1
theorem Row.gr {w w' : World} {A : Option Addr} {L : List It} (h : Row w A L) (g : Gr w w') : Row w' A L := h.keep fun b _ hb => g.block b hb
theorem Row.at_ {w : World} {A : Option Addr} {L : List It} (h : Row w A L) {i : Nat} (hi : i < L.length) : ∃ b off, A = some ⟨b, off, none⟩ ∧ b < w.heap.size ∧
    w.cell? ⟨b, off + i * 6, none⟩ = some (.int .i64 (L.getD i z0).1) ∧ w.cell? ⟨b, off + i * 6 + 1, none⟩ = some (.int .i64 (L.getD i z0).2.1) ∧ w.cell? ⟨b, off + i * 6 + 2, none⟩ = some (.int .i64 (L.getD i z0).2.2.1) ∧
    w.cell? ⟨b, off + i * 6 + 3, none⟩ = some (.int .i64 (L.getD i z0).2.2.2.1) ∧ w.cell? ⟨b, off + i * 6 + 4, none⟩ = some (.int .i64 (L.getD i z0).2.2.2.2.1) ∧ w.cell? ⟨b, off + i * 6 + 5, none⟩ = some (.int .i64 (L.getD i z0).2.2.2.2.2) := by
  obtain ⟨b, off, rfl, hc⟩ := h (by rintro rfl; simp at hi)
  refine ⟨b, off, rfl, World.block_lt_of_cell? w _ (hc i hi 0 _ rfl), hc i hi 0 _ rfl, hc i hi 1 _ rfl, hc i hi 2 _ rfl, hc i hi 3 _ rfl, hc i hi 4 _ rfl, hc i hi 5 _ rfl⟩
theorem Row.of_own {w : World} {A : Option Addr} {L : List It} {B c : Nat} (h : w.ownsRow B 33 6 (.slice A L.length c) L.length (cs6 L)) : Row w A L := fun hn => by
  obtain ⟨b, off, rfl, hc⟩ := Rd.of_own h (by intro e; have := cs6_length L; rw [show cs6 L = [] from e] at this; exact hn (List.eq_nil_of_length_eq_zero (by simp at this; omega)))
  refine ⟨b, off, rfl, fun i hi j u hu => ?_⟩
  rw [Nat.add_assoc]
  refine hc _ _ ?_
  rw [cs6_get L i j hi (by have := (List.getElem?_eq_some_iff.1 hu).1; rwa [ic_length] at this)]
  exact hu
end Go.Proofs.Ytikmniokbliolaa
