import Derived.Test.YtkgmienjioplaaaB1
import Derived.Test.YtkgmienjioplaaaW11
namespace Go.Proofs.Ytkgmienjioplaaa
open Go.RowKit Go.Ext

/-- Of the first m pending writes the last one of the sector. -/
def seek (P : List Ent) (i : Int) : Nat → Option (List UInt8)
  | 0 => none
  | m + 1 => if (P.getD m (0, [])).1 = i then some (P.getD m (0, [])).2 else seek P i m
/-- What a sector reads as. -/
def sector (sz : Nat) (K : List UInt8) (P : List Ent) (i : Nat) : List UInt8 := (seek P i P.length).getD ((K.drop (i * sz)).take sz)

theorem seek_found (P : List Ent) (i : Int) (m : Nat) (hm : (P.getD m (0, [])).1 = i) : ∀ n, m < n → (∀ j, m < j → j < n → (P.getD j (0, [])).1 ≠ i) → seek P i n = some (P.getD m (0, [])).2
  | 0, h, _ => absurd h (by omega)
  | n + 1, h, hno => by
    unfold seek
    by_cases e : n = m
    · subst e; rw [if_pos hm]
    · rw [if_neg (hno n (by omega) (by omega))]
      exact seek_found P i m hm n (by omega) (fun j h1 h2 => hno j h1 (by omega))
theorem seek_none (P : List Ent) (i : Int) : ∀ n, (∀ j, j < n → (P.getD j (0, [])).1 ≠ i) → seek P i n = none
  | 0, _ => rfl
  | n + 1, hno => by
    unfold seek
    rw [if_neg (hno n (by omega))]
    exact seek_none P i n (fun j h => hno j (by omega))
theorem mem_back {len k j : Nat} (hk : k ≤ len) : j ∈ back len k ↔ len - k ≤ j ∧ j < len := by
  simp only [back, List.mem_map, List.mem_range]
  constructor
  · rintro ⟨q, h1, h2⟩
    omega
  · rintro ⟨h1, h2⟩
    exact ⟨len - 1 - j, by omega, by omega⟩

/-- Bytes stay behind a turn of a block that is no cells. -/
theorem Byt.turn {kb base : Nat} {A B : World} {d : Value} {bs : List UInt8} {row : Option Nat} (h : Byt (TK kb) base A d bs) (hg : A.grownBy B row) (hr : ∀ r, row = some r → base ≤ r ∧ ∃ o : Obj, A.heap[r]? = some o ∧ o.isCells = false) : Byt (TK kb) base B d bs :=
  h.kp (Kp.grown (Kp.refl _ _ _) hg (fun k hk => by
    obtain ⟨h1, o, h2, h3⟩ := hr k hk
    rintro ⟨_, h4 | ⟨cs, t, fz, h4, _⟩⟩
    · omega
    · rw [h2] at h4
      injection h4 with h4
      subst h4
      cases h3))
end Go.Proofs.Ytkgmienjioplaaa
