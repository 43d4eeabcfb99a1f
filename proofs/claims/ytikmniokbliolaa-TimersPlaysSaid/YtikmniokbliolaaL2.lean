import Derived.Test.YtikmniokbliolaaD4
import Derived.Test.YtikmniokbliolaaL1
namespace Go.Proofs.Ytikmniokbliolaa
open Go.RowKit Go.Ext

/-- Two rising rows with the same items are one. -/
theorem srt_ext : ∀ (A B : List It), Srt A → Srt B → (∀ x, x ∈ A ↔ x ∈ B) → A = B
  | [], [], _, _, _ => rfl
  | [], b :: B, _, _, h => absurd ((h b).2 (by simp)) (by simp)
  | a :: A, [], _, _, h => absurd ((h a).1 (by simp)) (by simp)
  | a :: A, b :: B, hA, hB, h => by
    have hA' := List.pairwise_cons.1 hA
    have hB' := List.pairwise_cons.1 hB
    have hab : a = b := by
      rcases List.mem_cons.1 ((h a).1 (by simp)) with e | e
      · exact e
      · rcases List.mem_cons.1 ((h b).2 (by simp)) with e2 | e2
        · exact e2.symm
        · have h1 := hB'.1 a e
          have h2 := hA'.1 b e2
          have := cmpI_neg a b
          omega
    subst hab
    congr 1
    refine srt_ext A B hA'.2 hB'.2 fun x => ⟨fun hx => ?_, fun hx => ?_⟩
    · rcases List.mem_cons.1 ((h x).1 (by simp [hx])) with rfl | e
      · have := hA'.1 x hx
        rw [cmpI_self] at this
        omega
      · exact e
    · rcases List.mem_cons.1 ((h x).2 (by simp [hx])) with rfl | e
      · have := hB'.1 x hx
        rw [cmpI_self] at this
        omega
      · exact e

theorem dropF_srt {L : List It} (h : Srt L) (flow run : Int) : Srt (dropF L flow run) := List.Pairwise.sublist List.filter_sublist h
theorem mem_dropF {L : List It} {flow run : Int} {x : It} : x ∈ dropF L flow run ↔ x ∈ L ∧ gone flow run x = false := by unfold dropF keepF; rw [List.mem_filter]; simp
theorem mem_addF {L : List It} (h : Srt L) {x y : It} : y ∈ addF L x ↔ y = x ∨ y ∈ L := by
  unfold addF
  split
  · rename_i e
    have := (has_iff h x).1 e
    constructor
    · exact .inr
    · rintro (rfl | h)
      · exact this
      · exact h
  · exact mem_ins
theorem drop_add_gone {L : List It} (h : Srt L) {flow run : Int} {x : It} (hx : gone flow run x = true) : dropF (addF L x) flow run = dropF L flow run := by
  refine srt_ext _ _ (dropF_srt (addF_srt h x) _ _) (dropF_srt h _ _) fun y => ?_
  rw [mem_dropF, mem_dropF, mem_addF h]
  constructor
  · rintro ⟨rfl | h1, h2⟩
    · rw [hx] at h2; cases h2
    · exact ⟨h1, h2⟩
  · rintro ⟨h1, h2⟩
    exact ⟨.inr h1, h2⟩
theorem drop_add_stay {L : List It} (h : Srt L) {flow run : Int} {x : It} (hx : gone flow run x = false) : dropF (addF L x) flow run = addF (dropF L flow run) x := by
  refine srt_ext _ _ (dropF_srt (addF_srt h x) _ _) (addF_srt (dropF_srt h _ _) x) fun y => ?_
  rw [mem_dropF, mem_addF h, mem_addF (dropF_srt h _ _), mem_dropF]
  constructor
  · rintro ⟨rfl | h1, h2⟩
    · exact .inl rfl
    · exact .inr ⟨h1, h2⟩
  · rintro (rfl | ⟨h1, h2⟩)
    · exact ⟨.inl rfl, hx⟩
    · exact ⟨.inr h1, h2⟩
theorem has_drop {L : List It} (h : Srt L) {flow run : Int} {x : It} (hx : gone flow run x = false) : has (dropF L flow run) x = has L x := by
  rw [Bool.eq_iff_iff, has_iff (dropF_srt h _ _), has_iff h, mem_dropF]
  exact ⟨fun h => h.1, fun h => ⟨h, hx⟩⟩
theorem drop_drop (L : List It) (flow run : Int) : dropF (dropF L flow run) flow run = dropF L flow run := by
  unfold dropF keepF
  rw [List.filter_filter]
  congr 1
  funext x
  simp
theorem drop_le (L : List It) (flow run : Int) : (dropF L flow run).length ≤ L.length := List.length_filter_le _ _

/-- Two heaps in one memory. -/
def Apart (v v' : Value) : Prop := ∀ k, v.ownBlock = some k → v'.ownBlock ≠ some k
theorem HB.other {base g g' : Nat} {v v' : Value} {L L' : List It} {w w' : World} (h : HB base w g' v' L') (h0 : HB base w g v L) (hne : g ≠ g') (ha : Apart v v') (m : Mod (fun k => k = g ∨ some k = v.ownBlock) w w') : HB base w' g' v' L' := by
  refine h.mod m ?_ ?_
  · rintro (e | e)
    · exact hne e.symm
    · rcases h0.row.2 with ⟨rfl, _⟩ | ⟨g1, cap, cur, rfl, _, hh, _⟩
      · simp [Value.ownBlock] at e
      · simp [Value.ownBlock] at e; subst e; rw [h.cell] at hh; injection hh with hh; injection hh with _ ht _; cases ht
  · rintro k e (rfl | e2)
    · rcases h.row.2 with ⟨rfl, _⟩ | ⟨g1, cap, cur, rfl, _, hh, _⟩
      · simp [Value.ownBlock] at e
      · simp [Value.ownBlock] at e; subst e; rw [h0.cell] at hh; injection hh with hh; injection hh with _ ht _; cases ht
    · exact ha k e2.symm e
theorem Apart.act {base g' : Nat} {v v' v2 : Value} {L' : List It} {w : World} (ha : Apart v v') (h : HB base w g' v' L') (ho : v2.ownBlock = v.ownBlock ∨ ∃ k, v2.ownBlock = some k ∧ w.heap.size ≤ k) : Apart v2 v' := by
  intro k hk e
  rcases ho with h1 | ⟨q, h1, h2⟩
  · exact ha k (h1.symm.trans hk) e
  · have := (h.row.lt k e).2
    rw [h1] at hk
    injection hk with hk
    omega
theorem Apart.symm {v v' : Value} (h : Apart v v') : Apart v' v := fun k e e2 => h k e2 e
end Go.Proofs.Ytikmniokbliolaa
