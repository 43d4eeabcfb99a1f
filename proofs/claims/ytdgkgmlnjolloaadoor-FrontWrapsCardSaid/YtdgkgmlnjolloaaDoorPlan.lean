/- A region that draws its order, walked in one order of our choice: the operations that leave the world alone are taken where they yield in every world that meets S; the others come up alone, and behind each S may be said anew. -/
import Derived.Test.YtdgkgmlnjolloaaDoorKit
import Derived.OrdersHeld
import Derived.Deep.RegionHeld3
namespace Go.Ext

section
variable {P : Program} {ops : Array Oper} {Q : Exit → Act → World → Prop} {md : Region.Mode}

/-- S may be said more narrowly. -/
theorem wpAnyH_narrow {S S' : World → Prop} (hs : ∀ W, S' W → S W) : ∀ (fuel : Nat) (listed : Array Bool) (a : Act) (w : World), wpAnyH P md ops Q S' fuel listed a w → wpAnyH P md ops Q S fuel listed a w
  | 0, _, _, _, h => h
  | fuel + 1, _, _, _, h => ⟨h.1, fun i hi => wpOp_mono (fun a' w' h' => ⟨hs w' h'.1, wpAnyH_narrow hs fuel _ a' w' h'.2⟩) (h.2 i hi)⟩

/-- The walk by a plan: (i, false): number i is taken; (i, true): number i comes up alone. -/
def wpPl (P : Program) (ops : Array Oper) (Q : Exit → Act → World → Prop) : List (Nat × Bool) → (World → Prop) → Act → World → Prop
  | [], _, a, w => Q .normal a w
  | (i, false) :: r, S, a, w => ∃ o v, ops[i]? = some o ∧ YieldsIf P ops S o v a ∧ wpPl P ops Q r S (a.put o.dst v) w
  | (i, true) :: r, S, a, w => ∃ o, ops[i]? = some o ∧ if Region.wanted o (yielded ops a.tmps) = true then Oper.wp P o a w (fun a' w' => ∃ S' : World → Prop, S' w' ∧ (∀ W, S' W → S W) ∧ wpPl P ops Q r S' a' w') Q else wpPl P ops Q r S (a.put o.dst undef) w

/-- Does the plan fit the region? -/
def planB (md : Region.Mode) (ops : Array Oper) : List (Nat × Bool) → Array Bool → Bool
  | [], listed => (Region.ready md ops listed).isEmpty
  | (i, false) :: r, listed => Region.free md ops listed i && (Region.ready md ops listed).contains i && planB md ops r (listed.setIfInBounds i true)
  | (i, true) :: r, listed => Region.ready md ops listed == [i] && planB md ops r (listed.setIfInBounds i true)

theorem wpAnyH_of_plan (hsel : Region.noSelect ops = true) (hQ : ∀ c a d v w, Q (.panic c) (Act.put a d v) w → Q (.panic c) a w) :
    ∀ (plan : List (Nat × Bool)) (listed : Array Bool) (S : World → Prop) (a : Act) (w : World), planB md ops plan listed = true → S w → wpPl P ops Q plan S a w → wpAnyH P md ops Q S plan.length listed a w
  | [], _, _, _, _, hB, _, h => ⟨by simpa [planB] using hB, h⟩
  | (i, false) :: r, listed, S, a, w, hB, hS, h => by
    simp only [planB, Bool.and_eq_true] at hB
    obtain ⟨⟨hf, hr⟩, hB'⟩ := hB
    obtain ⟨o, v, ho, hy, h'⟩ := h
    exact wpAnyH_take ho hsel hf hr (fun c a w => hQ c a _ _ w) hy hS (wpAnyH_of_plan hsel hQ r _ S _ w hB' hS h')
  | (i, true) :: r, listed, S, a, w, hB, hS, h => by
    simp only [planB, Bool.and_eq_true, beq_iff_eq] at hB
    obtain ⟨hr, hB'⟩ := hB
    obtain ⟨o, ho, h'⟩ := h
    refine wpAnyH_all (rs := [i]) hr (by simp) (fun j hj => ?_)
    obtain rfl : j = i := by simpa using hj
    unfold wpOp
    simp only [ho]
    split
    · rename_i hw
      rw [if_pos hw] at h'
      exact .inl (Oper.wp_mono (fun a' w' ⟨S', h1, h2, h3⟩ => ⟨h2 w' h1, wpAnyH_narrow h2 _ _ _ _ (wpAnyH_of_plan hsel hQ r _ S' a' w' hB' h1 h3)⟩) h')
    · rename_i hw
      rw [if_neg hw] at h'
      exact ⟨hS, wpAnyH_of_plan hsel hQ r _ S _ w hB' hS h'⟩

/-- THE BEGINNING. -/
theorem wp_region_plan {id : Nat} {a : Act} {w : World} {l : List Oper} (plan : List (Nat × Bool)) (S : World → Prop) (hm : P.follows .mixedOrders = true)
    (hB : (Region.noSelect l.toArray && (plan.length == l.length) && planB .any l.toArray plan (Array.replicate l.length false)) = true)
    (hQ : ∀ c a d v w, Q (.panic c) (Act.put a d v) w → Q (.panic c) a w) (hS : S w.drew) (h : S w.drew → wpPl P l.toArray Q plan S a w.drew) : (Code.region id l.toArray true).wp P Q a w := by
  simp only [Bool.and_eq_true, beq_iff_eq] at hB
  refine wp_region_held_drew (S := S) hm hS (fun _ => ?_)
  have := wpAnyH_of_plan (P := P) (Q := Q) hB.1.1 hQ plan _ S a w.drew hB.2 hS (h hS)
  rw [hB.1.2] at this
  simpa using this

theorem pl_take {l : List Oper} {i : Nat} {o : Oper} {v : Value} {r : List (Nat × Bool)} {S : World → Prop} {a : Act} {w : World} (ho : l[i]? = some o) (hw : Region.wanted o (yielded l.toArray a.tmps) = true)
    (hy : ∀ w, S w → (execOp a.eval o).run P w = .ok (.value v) w) (h : wpPl P l.toArray Q r S (a.put o.dst v) w) : wpPl P l.toArray Q ((i, false) :: r) S a w := ⟨o, v, (List.getElem?_toArray ..).trans ho, .inl ⟨hw, hy⟩, h⟩
theorem pl_skip {l : List Oper} {i : Nat} {o : Oper} {r : List (Nat × Bool)} {S : World → Prop} {a : Act} {w : World} (ho : l[i]? = some o) (hw : Region.wanted o (yielded l.toArray a.tmps) = false)
    (h : wpPl P l.toArray Q r S (a.put o.dst undef) w) : wpPl P l.toArray Q ((i, false) :: r) S a w := ⟨o, undef, (List.getElem?_toArray ..).trans ho, .inr ⟨hw, rfl⟩, h⟩
/-- The step is handed over behind a 'K'. -/
theorem pl_call {l : List Oper} {i : Nat} {o : Oper} {r : List (Nat × Bool)} {S : World → Prop} {a : Act} {w : World} (ho : l[i]? = some o) (hw : Region.wanted o (yielded l.toArray a.tmps) = true)
    (h : ∀ K' : Act → World → Prop, Shut (∀ (S' : World → Prop) a w, S' w → (∀ W, S' W → S W) → (S' w → wpPl P l.toArray Q r S' a w) → K' a w) → Oper.wp P o a w K' Q) : wpPl P l.toArray Q ((i, true) :: r) S a w := by
  refine ⟨o, (List.getElem?_toArray ..).trans ho, ?_⟩
  rw [if_pos hw]
  exact h _ (fun S' a w h1 h2 h3 => ⟨S', h1, h2, h3 h1⟩)
/-- .. in the form of the step laws (append). -/
theorem pl_law {l : List Oper} {i : Nat} {o : Oper} {r : List (Nat × Bool)} {S : World → Prop} {a : Act} {w : World} (ho : l[i]? = some o) (hw : Region.wanted o (yielded l.toArray a.tmps) = true)
    (h : ∀ K' : Act → World → Prop, Shut (∀ (S' : World → Prop) a w, S' w → (∀ W, S' W → S W) → (S' w → wpPl P l.toArray Q r S' a w) → K' a w) → if Region.wanted o (yielded l.toArray a.tmps) = true then Oper.wp P o a w K' Q else False) : wpPl P l.toArray Q ((i, true) :: r) S a w :=
  pl_call ho hw (fun K' hK => by have := h K' hK; rwa [if_pos hw] at this)
theorem pl_skipc {l : List Oper} {i : Nat} {o : Oper} {r : List (Nat × Bool)} {S : World → Prop} {a : Act} {w : World} (ho : l[i]? = some o) (hw : Region.wanted o (yielded l.toArray a.tmps) = false)
    (h : wpPl P l.toArray Q r S (a.put o.dst undef) w) : wpPl P l.toArray Q ((i, true) :: r) S a w := by
  refine ⟨o, (List.getElem?_toArray ..).trans ho, ?_⟩
  rw [if_neg (by rw [hw]; exact Bool.false_ne_true)]
  exact h
theorem pl_done {S : World → Prop} {a : Act} {w : World} (h : Q .normal a w) : wpPl P ops Q [] S a w := h
end
end Go.Ext
