/- Plan2 with a fork: some are taken; then two that write may come up in either order. -/
import Derived.Test.YthiahnpijdkboaaPlan2
namespace Go.Ext

section
variable {P : Program} {ops : Array Oper} {Q : Exit → Act → World → Prop} {md : Region.Mode} {S : World → Prop}

def wpPre (P : Program) (ops : Array Oper) (S : World → Prop) (T : Act → World → Prop) : List Nat → Act → World → Prop
  | [], a, w => T a w
  | i :: r, a, w => ∃ o v, ops[i]? = some o ∧ YieldsIf P ops S o v a ∧ wpPre P ops S T r (a.put o.dst v) w
def takesB (md : Region.Mode) (ops : Array Oper) : List Nat → Array Bool → Bool
  | [], _ => true
  | i :: r, listed => Region.free md ops listed i && depB md ops i && (Region.ready md ops listed).contains i && takesB md ops r (listed.setIfInBounds i true)
def takesL : List Nat → Array Bool → Array Bool
  | [], listed => listed
  | i :: r, listed => takesL r (listed.setIfInBounds i true)
theorem wpAnyW_pre (hsel : Region.noSelect ops = true) (hQ : ∀ c a d v w, Q (.panic c) (Act.put a d v) w → Q (.panic c) a w) (n : Nat) :
    ∀ (plan : List Nat) (listed : Array Bool) (a : Act) (w : World), Cl md ops listed → takesB md ops plan listed = true → S w → wpPre P ops S (fun a w => Cl md ops (takesL plan listed) → wpAnyW P md ops Q S n (takesL plan listed) a w) plan a w → wpAnyW P md ops Q S (plan.length + n) listed a w
  | [], _, _, _, hcl, _, _, h => by simp only [List.length_nil, Nat.zero_add]; exact h hcl
  | i :: r, listed, a, w, hcl, hB, hS, h => by
    simp only [takesB, Bool.and_eq_true] at hB
    obtain ⟨⟨⟨hf, hd⟩, hr⟩, hB'⟩ := hB
    obtain ⟨o, v, ho, hy, h'⟩ := h
    have hr' : i ∈ Region.ready md ops listed := by simpa using hr
    rw [show (i :: r).length + n = (r.length + n) + 1 by simp; omega]
    exact wpAnyW_first ho (Region.noSelect_spec hsel) (fun c a w => hQ c a _ _ w) (depB_spec hd) _ listed a w hcl (Region.free_spec ho hf) hr' hy hS (wpAnyW_pre hsel hQ n r _ _ w (hcl.set hr') hB' hS h')
theorem pre_take {l : List Oper} {i : Nat} {o : Oper} {v : Value} {r : List Nat} {T : Act → World → Prop} {a : Act} {w : World} (ho : l[i]? = some o) (hw : Region.wanted o (yielded l.toArray a.tmps) = true)
    (hy : ∀ w, S w → (execOp a.eval o).run P w = .ok (.value v) w) (h : wpPre P l.toArray S T r (a.put o.dst v) w) : wpPre P l.toArray S T (i :: r) a w := ⟨o, v, (List.getElem?_toArray ..).trans ho, .inl ⟨hw, hy⟩, h⟩

/-- THE BEGINNING: these are taken; the rest as a fork. -/
theorem wp_region_fork {id : Nat} {a : Act} {w : World} {l : List Oper} (plan : List Nat) (n : Nat) (S : World → Prop) (hm : P.follows .mixedOrders = true)
    (hB : (Region.noSelect l.toArray && (plan.length + n == l.length) && takesB .any l.toArray plan (Array.replicate l.length false)) = true)
    (hQ : ∀ c a d v w, Q (.panic c) (Act.put a d v) w → Q (.panic c) a w) (hS : S w.drew)
    (h : S w.drew → wpPre P l.toArray S (fun a w => Cl .any l.toArray (takesL plan (Array.replicate l.length false)) → wpAnyW P .any l.toArray Q S n (takesL plan (Array.replicate l.length false)) a w) plan a w.drew) : (Code.region id l.toArray true).wp P Q a w := by
  simp only [Bool.and_eq_true, beq_iff_eq] at hB
  refine wp_region_any hm (wpAny_ofW (S := S) _ _ _ _ ?_)
  have hcl : Cl .any l.toArray (Array.replicate l.length false) := fun k o hk hl => by
    have hlt : k < l.length := by have := (Array.getElem?_eq_some_iff.1 hk).1; simpa using this
    simp [hlt] at hl
  have := wpAnyW_pre (P := P) (Q := Q) hB.1.1 hQ n plan _ a w.drew hcl hB.2 hS (h hS)
  rw [hB.1.2] at this
  rw [show l.toArray.size = l.length by simp]
  exact this
/-- THE FORK: either comes up. -/
theorem wpAnyW_fork {l : List Oper} {i j : Nat} {n : Nat} {listed : Array Bool} {a : Act} {w : World} (hcl : Cl .any l.toArray listed) (hr : Region.ready .any l.toArray listed = [i, j])
    (h1 : (Cl .any l.toArray (listed.setIfInBounds i true) → wpOp P l.toArray Q i (fun a' w' => (S w' ∨ ∀ k, k ≠ i → listed.getD k true = true) ∧ wpAnyW P .any l.toArray Q S n (listed.setIfInBounds i true) a' w') a w))
    (h2 : (Cl .any l.toArray (listed.setIfInBounds j true) → wpOp P l.toArray Q j (fun a' w' => (S w' ∨ ∀ k, k ≠ j → listed.getD k true = true) ∧ wpAnyW P .any l.toArray Q S n (listed.setIfInBounds j true) a' w') a w)) : wpAnyW P .any l.toArray Q S (n + 1) listed a w := by
  refine ⟨fun h0 => (by rw [hr] at h0; cases h0), fun k hk => ?_⟩
  rw [hr] at hk
  simp only [List.mem_cons, List.not_mem_nil, or_false] at hk
  rcases hk with rfl | rfl
  · exact h1 (hcl.set (by rw [hr]; simp))
  · exact h2 (hcl.set (by rw [hr]; simp))
theorem wpOpW_step {l : List Oper} {i : Nat} {o : Oper} {n : Nat} {listed listed' : Array Bool} {a : Act} {w : World} (ho : l[i]? = some o) (hw : Region.wanted o (yielded l.toArray a.tmps) = true)
    (h : ∀ K' : Act → World → Prop, Shut (∀ (S' : World → Prop) a w, S' w → (∀ W, S' W → S W) → (S' w → wpAnyW P .any l.toArray Q S' n listed' a w) → K' a w) → Oper.wp P o a w K' Q) :
    wpOp P l.toArray Q i (fun a' w' => (S w' ∨ ∀ k, k ≠ i → listed.getD k true = true) ∧ wpAnyW P .any l.toArray Q S n listed' a' w') a w := by
  unfold wpOp
  rw [show l.toArray[i]? = some o from (List.getElem?_toArray ..).trans ho]
  simp only [hw, if_true]
  exact .inl (h _ (fun S' a w h1 h2 h3 => ⟨.inl (h2 w h1), wpAnyW_narrow h2 _ _ _ _ (h3 h1)⟩))
theorem wpOpW_stepL {l : List Oper} {i : Nat} {o : Oper} {n : Nat} {listed listed' : Array Bool} {a : Act} {w : World} (ho : l[i]? = some o) (hw : Region.wanted o (yielded l.toArray a.tmps) = true)
    (h : ∀ K' : Act → World → Prop, Shut (∀ (S' : World → Prop) a w, S' w → (∀ W, S' W → S W) → (S' w → wpAnyW P .any l.toArray Q S' n listed' a w) → K' a w) → if Region.wanted o (yielded l.toArray a.tmps) = true then Oper.wp P o a w K' Q else False) :
    wpOp P l.toArray Q i (fun a' w' => (S w' ∨ ∀ k, k ≠ i → listed.getD k true = true) ∧ wpAnyW P .any l.toArray Q S n listed' a' w') a w :=
  wpOpW_step ho hw (fun K' hK => by have := h K' hK; rwa [if_pos hw] at this)
/-- The rest goes by a plan. -/
theorem wpAnyW_go {l : List Oper} {n : Nat} {listed : Array Bool} {a : Act} {w : World} (plan : List (Nat × Bool)) (hcl : Cl .any l.toArray listed) (hB : (Region.noSelect l.toArray && (plan.length == n) && planM .any l.toArray plan listed) = true)
    (hQ : ∀ c a d v w, Q (.panic c) (Act.put a d v) w → Q (.panic c) a w) (hS : S w) (h : wpPm P l.toArray Q plan S a w) : wpAnyW P .any l.toArray Q S n listed a w := by
  simp only [Bool.and_eq_true, beq_iff_eq] at hB
  obtain ⟨⟨h1, rfl⟩, h2⟩ := hB
  exact wpAnyW_of_plan h1 hQ plan listed S a w hcl h2 hS h
end
end Go.Ext
