import Derived.Test.YtlencagfkajcnaaM2
namespace Go.Proofs.Ytlencagfkajcnaa
open Go.RowKit Go.Ext Go.BigFrame

theorem list_set4 (v0 v1 v2 v3 : Value) : ∀ (o : Nat) (C : List Value), o + 4 ≤ C.length → (((C.set o v0).set (o + 1) v1).set (o + 2) v2).set (o + 3) v3 = splice C o [v0, v1, v2, v3]
  | 0, c0 :: c1 :: c2 :: c3 :: r, _ => by simp [splice]
  | 0, [], h | 0, [_], h | 0, [_, _], h | 0, [_, _, _], h => by simp at h
  | o + 1, [], h => by simp at h
  | o + 1, c :: r, h => by
    have := list_set4 v0 v1 v2 v3 o r (by simpa using h)
    rw [show o + 1 + 1 = (o + 1) + 1 from rfl, show o + 1 + 2 = (o + 2) + 1 from rfl, show o + 1 + 3 = (o + 3) + 1 from rfl]
    simp only [List.set_cons_succ]
    rw [this]
    simp only [splice, List.take_succ_cons, List.cons_append]
    rw [show o + 1 + [v0, v1, v2, v3].length = (o + [v0, v1, v2, v3].length) + 1 by simp, List.drop_succ_cons]
theorem row_set4 {w : World} {g o : Nat} {C : List Value} {t : TypeId} (h : w.heap[g]? = some (.cells C.toArray t (0, 0))) (ho : o + 4 ≤ C.length) (v0 v1 v2 v3 : Value) :
    ((((w.setCell ⟨g, o, none⟩ v0).setCell ⟨g, o + 1, none⟩ v1).setCell ⟨g, o + 2, none⟩ v2).setCell ⟨g, o + 3, none⟩ v3).heap[g]? = some (.cells (splice C o [v0, v1, v2, v3]).toArray t (0, 0)) := by
  have step : ∀ (w : World) (cs : List Value) (j : Nat) (v : Value), w.heap[g]? = some (.cells cs.toArray t (0, 0)) → (w.setCell ⟨g, j, none⟩ v).heap[g]? = some (.cells (cs.set j v).toArray t (0, 0)) := fun w cs j v hw => by
    rw [setCell_eq_setRow w g j cs.toArray t (0, 0) v hw, setRow_heap w g _ _ t _ hw]
    simp
  have h3 := step _ _ (o + 3) v3 (step _ _ (o + 2) v2 (step _ _ (o + 1) v1 (step _ _ o v0 h)))
  rw [list_set4 v0 v1 v2 v3 o C ho] at h3
  exact h3
theorem mod4 (w : World) (g o : Nat) (u0 u1 u2 u3 : Value) : Mod (fun k => k = g) w ((((w.setCell ⟨g, o, none⟩ u0).setCell ⟨g, o + 1, none⟩ u1).setCell ⟨g, o + 2, none⟩ u2).setCell ⟨g, o + 3, none⟩ u3) :=
  (((((Gr.refl w).mod (fun k => k = g)).set (p := ⟨g, o, none⟩) (fun _ => rfl) u0).set (p := ⟨g, o + 1, none⟩) (fun _ => rfl) u1).set (p := ⟨g, o + 2, none⟩) (fun _ => rfl) u2).set (p := ⟨g, o + 3, none⟩) (fun _ => rfl) u3

/-- What stays of the first ones. -/
def keepF (p : It → Bool) (L : List It) : List It := L.filter fun x => !p x
theorem keepF_succ (p : It → Bool) (L : List It) (j : Nat) (hj : j < L.length) : keepF p (L.take (j + 1)) = if p (L.getD j z0) then keepF p (L.take j) else keepF p (L.take j) ++ [L.getD j z0] := by
  unfold keepF
  rw [List.take_succ_eq_append_getElem hj, List.filter_append]
  have : L.getD j z0 = L[j] := by simp [List.getD, hj]
  rw [this]
  cases e : p L[j] <;> simp [e]
theorem keepF_none (p : It → Bool) (L : List It) (h : ∀ x ∈ L, p x = false) : keepF p L = L := by
  unfold keepF
  rw [List.filter_eq_self]
  intro x hx
  simp [h x hx]

/-- The row's cells while it is thinned out: K is kept, what stands from j on has not been looked at. -/
structure Thin (C : List Value) (cap : Nat) (L K : List It) (j : Nat) : Prop where
  len : C.length = cap * 4
  kept : C.take (K.length * 4) = cs6 K
  rest : (C.drop (j * 4)).take ((L.length - j) * 4) = cs6 (L.drop j)
  lt : K.length < j
theorem Thin.at_ {C : List Value} {cap : Nat} {L K : List It} {j : Nat} (h : Thin C cap L K j) (hj : j < L.length) : ∀ t u, (ic (L.getD j z0))[t]? = some u → C[j * 4 + t]? = some u := by
  intro t u hu
  have ht := (List.getElem?_eq_some_iff.1 hu).1
  rw [ic_length] at ht
  have e : (cs6 (L.drop j))[0 * 4 + t]? = (ic ((L.drop j).getD 0 z0))[t]? := cs6_get (L.drop j) 0 t (by rw [List.length_drop]; omega) ht
  rw [← h.rest, Nat.zero_mul, Nat.zero_add, List.getElem?_take, if_pos (by omega), List.getElem?_drop] at e
  rw [e, ← hu]
  simp [List.getD]
theorem Thin.skip {C : List Value} {cap : Nat} {L K : List It} {j : Nat} (h : Thin C cap L K j) (hj : j < L.length) : Thin C cap L K (j + 1) := by
  refine ⟨h.len, h.kept, ?_, by have := h.lt; omega⟩
  have : (C.drop ((j + 1) * 4)).take ((L.length - (j + 1)) * 4) = ((C.drop (j * 4)).take ((L.length - j) * 4)).drop 4 := by
    rw [List.drop_take, List.drop_drop]
    congr 1
    · omega
    · congr 1; omega
  rw [this, h.rest, show (4 : Nat) = 1 * 4 from rfl, ← cs6_drop, List.drop_drop]
theorem Thin.take {C : List Value} {cap : Nat} {L K : List It} {j : Nat} (h : Thin C cap L K j) (hj : j < L.length) (hcap : L.length ≤ cap) (x : It) : Thin (splice C (K.length * 4) (ic x)) cap L (K ++ [x]) (j + 1) := by
  have h1 := h.skip hj
  have hlt := h.lt
  have hl := h.len
  refine ⟨by rw [length_splice _ _ _ (by rw [ic_length]; omega)]; exact hl, ?_, ?_, by simp; omega⟩
  · rw [cs6_app, List.length_append, List.length_singleton]
    unfold splice
    rw [h.kept, ← List.append_assoc, List.take_left' (by rw [List.length_append, cs6_length, ic_length]; omega)]
    simp [cs6]
  · have : (splice C (K.length * 4) (ic x)).drop ((j + 1) * 4) = C.drop ((j + 1) * 4) := by
      unfold splice
      rw [← List.append_assoc, List.drop_append, List.drop_eq_nil_of_le (by rw [List.length_append, List.length_take, ic_length]; omega), List.nil_append, List.drop_drop, List.length_append, List.length_take, ic_length]
      congr 1
      omega
    rw [this]
    exact h1.rest

end Go.Proofs.Ytlencagfkajcnaa
