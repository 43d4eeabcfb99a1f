import Derived.Test.YtlencagfkajcnaaRows
import Derived.Test.YtlencagfkajcnaaMem
namespace Go.Proofs.Ytlencagfkajcnaa
open Go.RowKit Go.Ext Go.BigFrame
attribute [local go_sem] Ext.cell Ext.frozen Ext.lt Ext.le s1 s2 s3 s4 s5 s6 t1 t2 t3 t4 t5 t6
attribute [local go_sem ↓] Go.wp_at_zero Go.wp_at_succ

/-- It returned a value of which p holds, in a grown world. -/
def RetP (p : World → Value → Prop) (w : World) (e : Ending) (w' : World) : Prop := ∃ v, ∃ y : Ext w, e = .returned v ∧ w' = y.val ∧ p y.val v

/-- A packet as it lies in memory: its three numbers, its slice. -/
abbrev It := Int × Int × Int × (Option Addr × Nat × Nat)
def ic (x : It) : List Value := [.int .i64 x.1, .int .i64 x.2.1, .int .i64 x.2.2.1, .slice x.2.2.2.1 x.2.2.2.2.1 x.2.2.2.2.2]
def iv (x : It) : Value := .agg #[.int .i64 x.1, .int .i64 x.2.1, .int .i64 x.2.2.1, .slice x.2.2.2.1 x.2.2.2.2.1 x.2.2.2.2.2]
abbrev z0 : It := (0, 0, 0, none, 0, 0)

/-- The cells of items. -/
def cs6 (L : List It) : List Value := L.flatMap ic
theorem ic_length (x : It) : (ic x).length = 4 := rfl
theorem cs6_length : ∀ L : List It, (cs6 L).length = L.length * 4
  | [] => rfl
  | x :: r => by
    have := cs6_length r
    unfold cs6 at this ⊢
    simp only [List.flatMap_cons, List.length_append, ic_length, List.length_cons, this]
    omega
theorem cs6_one (L : List It) : ∀ u ∈ cs6 L, u.oneCell' = true := by
  intro u hu
  obtain ⟨x, _, h⟩ := List.mem_flatMap.1 hu
  simp only [ic, List.mem_cons, List.not_mem_nil, or_false] at h
  rcases h with rfl | rfl | rfl | rfl <;> rfl
theorem cs6_get : ∀ (L : List It) (i j : Nat), i < L.length → j < 4 → (cs6 L)[i * 4 + j]? = (ic (L.getD i z0))[j]?
  | [], i, _, h, _ => by simp at h
  | x :: r, 0, j, _, hj => by
    simp only [cs6, List.flatMap_cons, List.getD_cons_zero, Nat.zero_mul, Nat.zero_add]
    rw [List.getElem?_append_left (by rw [ic_length]; exact hj)]
  | x :: r, i + 1, j, h, hj => by
    have := cs6_get r i j (by simpa using h) hj
    simp only [cs6, List.flatMap_cons, List.getD_cons_succ] at this ⊢
    rw [List.getElem?_append_right (by rw [ic_length]; omega), ic_length, show (i + 1) * 4 + j - 4 = i * 4 + j by omega]
    exact this
theorem cs6_app (L M : List It) : cs6 (L ++ M) = cs6 L ++ cs6 M := by simp [cs6]
theorem cs6_take : ∀ (L : List It) (k : Nat), cs6 (L.take k) = (cs6 L).take (k * 4)
  | [], k => by simp [cs6]
  | x :: r, 0 => by simp [cs6]
  | x :: r, k + 1 => by
    have := cs6_take r k
    simp only [cs6, List.take_succ_cons, List.flatMap_cons] at this ⊢
    rw [List.take_append, ic_length, this, show (k + 1) * 4 - 4 = k * 4 by omega, List.take_of_length_le (l := ic x) (by rw [ic_length]; omega)]
theorem cs6_drop : ∀ (L : List It) (k : Nat), cs6 (L.drop k) = (cs6 L).drop (k * 4)
  | [], k => by simp [cs6]
  | x :: r, 0 => by simp [cs6]
  | x :: r, k + 1 => by
    have := cs6_drop r k
    simp only [cs6, List.drop_succ_cons, List.flatMap_cons] at this ⊢
    rw [List.drop_append, ic_length, this, show (k + 1) * 4 - 4 = k * 4 by omega, (List.drop_eq_nil_of_le (by rw [ic_length]; omega) : (ic x).drop ((k + 1) * 4) = []), List.nil_append]

/-- The slice at A reads as items. -/
def Row (w : World) (A : Option Addr) (L : List It) : Prop :=
  L ≠ [] → ∃ b off, A = some ⟨b, off, none⟩ ∧ ∀ i, i < L.length → ∀ j u, (ic (L.getD i z0))[j]? = some u → w.cell? ⟨b, off + i * 4 + j, none⟩ = some u
theorem Row.keep {w w' : World} {A : Option Addr} {L : List It} (h : Row w A L) (hk : ∀ b, (∃ off, A = some ⟨b, off, none⟩) → b < w.heap.size → w'.heap[b]? = w.heap[b]?) : Row w' A L := fun hn => by
  obtain ⟨b, off, rfl, hc⟩ := h hn
  refine ⟨b, off, rfl, fun i hi j u hu => ?_⟩
  have h1 := hc i hi j u hu
  exact (World.cell?_of_block (hk b ⟨off, rfl⟩ (World.block_lt_of_cell? w _ h1))).trans h1
theorem Row.gr {w w' : World} {A : Option Addr} {L : List It} (h : Row w A L) (g : Gr w w') : Row w' A L := h.keep fun b _ hb => g.block b hb
theorem Row.at_ {w : World} {A : Option Addr} {L : List It} (h : Row w A L) {i : Nat} (hi : i < L.length) : ∃ b off, A = some ⟨b, off, none⟩ ∧ b < w.heap.size ∧
    w.cell? ⟨b, off + i * 4, none⟩ = some (.int .i64 (L.getD i z0).1) ∧ w.cell? ⟨b, off + i * 4 + 1, none⟩ = some (.int .i64 (L.getD i z0).2.1) ∧ w.cell? ⟨b, off + i * 4 + 2, none⟩ = some (.int .i64 (L.getD i z0).2.2.1) ∧
    w.cell? ⟨b, off + i * 4 + 3, none⟩ = some (.slice (L.getD i z0).2.2.2.1 (L.getD i z0).2.2.2.2.1 (L.getD i z0).2.2.2.2.2) := by
  obtain ⟨b, off, rfl, hc⟩ := h (by rintro rfl; simp at hi)
  refine ⟨b, off, rfl, World.block_lt_of_cell? w _ (hc i hi 0 _ rfl), hc i hi 0 _ rfl, hc i hi 1 _ rfl, hc i hi 2 _ rfl, hc i hi 3 _ rfl⟩
theorem Row.of_own {w : World} {A : Option Addr} {L : List It} {B c : Nat} (h : w.ownsRow B 33 4 (.slice A L.length c) L.length (cs6 L)) : Row w A L := fun hn => by
  obtain ⟨b, off, rfl, hc⟩ := Rd.of_own h (by intro e; have := cs6_length L; rw [show cs6 L = [] from e] at this; exact hn (List.eq_nil_of_length_eq_zero (by simp at this; omega)))
  refine ⟨b, off, rfl, fun i hi j u hu => ?_⟩
  rw [Nat.add_assoc]
  refine hc _ _ ?_
  rw [cs6_get L i j hi (by have := (List.getElem?_eq_some_iff.1 hu).1; rwa [ic_length] at this)]
  exact hu
end Go.Proofs.Ytlencagfkajcnaa
