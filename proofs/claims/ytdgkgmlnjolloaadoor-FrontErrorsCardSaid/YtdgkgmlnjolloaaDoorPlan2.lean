/- As Plan; but behind the region's last operation S need not hold any more (a store into a cell that S names may be the last). Every operation that is taken must be waited for by another. -/
import Derived.Test.YtdgkgmlnjolloaaDoorPlan
namespace Go.Ext

section
variable {P : Program} {ops : Array Oper} {Q : Exit → Act → World → Prop} {md : Region.Mode} {S : World → Prop}

def wpAnyW (P : Program) (md : Region.Mode) (ops : Array Oper) (Q : Exit → Act → World → Prop) (S : World → Prop) : Nat → Array Bool → Act → World → Prop
  | 0, listed, a, w => Region.ready md ops listed = [] ∧ Q .normal a w
  | fuel + 1, listed, a, w =>
    (Region.ready md ops listed = [] → Q .normal a w) ∧
    ∀ i ∈ Region.ready md ops listed, wpOp P ops Q i (fun a' w' => (S w' ∨ ∀ k, k ≠ i → listed.getD k true = true) ∧ wpAnyW P md ops Q S fuel (listed.setIfInBounds i true) a' w') a w
theorem wpAny_ofW : ∀ (fuel : Nat) (listed : Array Bool) (a : Act) (w : World), wpAnyW P md ops Q S fuel listed a w → wpAny P md ops Q fuel listed a w
  | 0, _, _, _, h => h
  | fuel + 1, _, _, _, h => ⟨h.1, fun i hi => wpOp_mono (fun a' w' h' => wpAny_ofW fuel _ a' w' h'.2) (h.2 i hi)⟩

/-- What is listed has all listed that it waits for. -/
def Cl (md : Region.Mode) (ops : Array Oper) (listed : Array Bool) : Prop := ∀ (k : Nat) (o : Oper), ops[k]? = some o → listed.getD k true = true → ∀ e ∈ o.after, Region.binds md e = true → listed.getD e.on true = true
/-- Somebody waits for it. -/
def Dep (md : Region.Mode) (ops : Array Oper) (i : Nat) : Prop := ∃ (k : Nat) (o : Oper), ops[k]? = some o ∧ ∃ e ∈ o.after, Region.binds md e = true ∧ e.on = i

theorem getD_tt {listed : Array Bool} {i : Nat} (h : listed.getD i false = true) : listed.getD i true = true := by
  rcases Nat.lt_or_ge i listed.size with h' | h'
  · simp [h'] at h ⊢; exact h
  · simp [Array.getElem?_eq_none h'] at h
theorem getD_sett {listed : Array Bool} {i j : Nat} (h : listed.getD j true = true) : (listed.setIfInBounds i true).getD j true = true := by
  by_cases hij : i = j
  · subst hij
    rcases Nat.lt_or_ge i listed.size with h' | h'
    · simp [h']
    · simp [h']
  · rw [getD_set_ne true hij]; exact h
theorem getD_ff {listed : Array Bool} {i : Nat} (h : listed.getD i true = false) : listed.getD i false = false := by
  rcases Nat.lt_or_ge i listed.size with h' | h'
  · simp [h'] at h ⊢; exact h
  · simp [Array.getElem?_eq_none h'] at h
theorem Cl.set {listed : Array Bool} (h : Cl md ops listed) {j : Nat} (hj : j ∈ Region.ready md ops listed) : Cl md ops (listed.setIfInBounds j true) := by
  intro k o hk hl e he hb
  by_cases hjk : j = k
  · subst hjk
    obtain ⟨_, o', ho', hall⟩ := mem_ready.1 hj
    rw [hk] at ho'; injection ho' with ho'; subst ho'
    exact getD_sett (getD_tt (hall e he hb))
  · rw [getD_set_ne true hjk] at hl
    exact getD_sett (h k o hk hl e he hb)

theorem wpAnyW_first {i : Nat} {oi : Oper} {v : Value} (hi : ops[i]? = some oi) (hsel : ∀ (j : Nat) (o : Oper) cs b, ops[j]? = some o → o.op ≠ .select cs b)
    (hQ : ∀ c a w, Q (.panic c) (a.put oi.dst v) w → Q (.panic c) a w) (hdep : Dep md ops i) :
    ∀ (fuel : Nat) (listed : Array Bool) (a : Act) (w : World), Cl md ops listed →
      (∀ j oj, ops[j]? = some oj → j ≠ i → listed.getD j true = false → (∀ e ∈ oj.after, Region.binds md e = true → e.on ≠ i) → oi.apart ops oj = true) →
      i ∈ Region.ready md ops listed → YieldsIf P ops S oi v a → S w →
      wpAnyW P md ops Q S fuel (listed.setIfInBounds i true) (a.put oi.dst v) w → wpAnyW P md ops Q S (fuel + 1) listed a w := by
  intro fuel
  induction fuel with
  | zero =>
    intro listed a w _ _ hr hy hS H
    refine ⟨fun h => (by rw [h] at hr; cases hr), fun j hj => ?_⟩
    by_cases hji : j = i
    · subst hji; exact hy.wpOp hi hS ⟨.inl hS, H⟩
    · have := ready_mono hj hji
      rw [H.1] at this
      cases this
  | succ fuel ih =>
    intro listed a w hcl hfree hr hy hS H
    refine ⟨fun h => (by rw [h] at hr; cases hr), fun j hj => ?_⟩
    by_cases hji : j = i
    · subst hji; exact hy.wpOp hi hS ⟨.inl hS, H⟩
    · have h1 := H.2 j (ready_mono hj hji)
      obtain ⟨hjun, oj, hoj, hall⟩ := mem_ready.1 hj
      have hnot : ∀ e ∈ oj.after, Region.binds md e = true → e.on ≠ i := fun e he hb heq => by
        have h1 := hall e he hb
        have h0 := (mem_ready.1 hr).1
        rw [heq] at h1
        rcases Nat.lt_or_ge i listed.size with h' | h'
        · simp [h'] at h0 h1; rw [h0] at h1; cases h1
        · simp [Array.getElem?_eq_none h'] at h1
      have hno : ¬ ∀ k, k ≠ j → (listed.setIfInBounds i true).getD k true = true := fun hall2 => by
        obtain ⟨k, o, hk, e, he, hb, heq⟩ := hdep
        have h0 := (mem_ready.1 hr).1
        by_cases hkj : k = j
        · subst hkj
          rw [hoj] at hk; injection hk with hk; subst hk
          exact hnot e he hb heq
        · have h3 := hall2 k hkj
          by_cases hki : k = i
          · subst hki
            obtain ⟨_, o', ho', hall'⟩ := mem_ready.1 hr
            rw [hk] at ho'; injection ho' with ho'; subst ho'
            have := hall' e he hb
            rw [heq, getD_ff h0] at this; cases this
          · rw [getD_set_ne true (Ne.symm hki)] at h3
            have := hcl k o hk h3 e he hb
            rw [heq, h0] at this; cases this
      have h2 := wpOp_putIf hoj (hfree j oj hoj hji hjun hnot) (fun cs b => hsel i oi cs b hi) (fun cs b => hsel j oj cs b hoj) hQ hy h1
      have hfree' : ∀ k ok, ops[k]? = some ok → k ≠ i → (listed.setIfInBounds j true).getD k true = false →
          (∀ e ∈ ok.after, Region.binds md e = true → e.on ≠ i) → oi.apart ops ok = true := fun k ok hk hki hun hno => by
        refine hfree k ok hk hki ?_ hno
        by_cases hjk : j = k
        · subst hjk; exact hjun
        · rw [getD_set_ne true hjk] at hun; exact hun
      refine wpOp_mono (fun a' w' h3 => ?_) h2
      have hS' : S w' := h3.2.1.resolve_right hno
      refine ⟨.inl hS', ih (listed.setIfInBounds j true) a' w' (hcl.set hj) hfree' (ready_mono hr (Ne.symm hji)) h3.1 hS' ?_⟩
      rw [Array.setIfInBounds_comm _ _ hji]
      exact h3.2.2

theorem wpAnyW_narrow {S S' : World → Prop} (hs : ∀ W, S' W → S W) : ∀ (fuel : Nat) (listed : Array Bool) (a : Act) (w : World), wpAnyW P md ops Q S' fuel listed a w → wpAnyW P md ops Q S fuel listed a w
  | 0, _, _, _, h => h
  | fuel + 1, _, _, _, h => ⟨h.1, fun i hi => wpOp_mono (fun a' w' h' => ⟨h'.1.imp (hs w') id, wpAnyW_narrow hs fuel _ a' w' h'.2⟩) (h.2 i hi)⟩

/-- The walk by a plan: (i, false): number i is taken; (i, true): number i comes up alone. -/
def wpPm (P : Program) (ops : Array Oper) (Q : Exit → Act → World → Prop) : List (Nat × Bool) → (World → Prop) → Act → World → Prop
  | [], _, a, w => Q .normal a w
  | (i, false) :: r, S, a, w => ∃ o v, ops[i]? = some o ∧ YieldsIf P ops S o v a ∧ wpPm P ops Q r S (a.put o.dst v) w
  | (i, true) :: r, S, a, w => ∃ o, ops[i]? = some o ∧ if Region.wanted o (yielded ops a.tmps) = true then Oper.wp P o a w (fun a' w' => (r = [] ∧ Q .normal a' w') ∨ ∃ S' : World → Prop, S' w' ∧ (∀ W, S' W → S W) ∧ wpPm P ops Q r S' a' w') Q else wpPm P ops Q r S (a.put o.dst undef) w

def depB (md : Region.Mode) (ops : Array Oper) (i : Nat) : Bool := (List.range ops.size).any fun k => (ops[k]?.map fun o => o.after.any fun e => Region.binds md e && e.on == i).getD false
theorem depB_spec {i : Nat} (h : depB md ops i = true) : Dep md ops i := by
  unfold depB at h
  obtain ⟨k, _, h⟩ := List.any_eq_true.1 h
  cases ho : ops[k]? with
  | none => rw [ho] at h; cases h
  | some o =>
    rw [ho] at h
    simp only [Option.map_some, Option.getD_some, Array.any_eq_true'] at h
    obtain ⟨e, he, h⟩ := h
    simp only [Bool.and_eq_true, beq_iff_eq] at h
    exact ⟨k, o, ho, e, he, h.1, h.2⟩
def planM (md : Region.Mode) (ops : Array Oper) : List (Nat × Bool) → Array Bool → Bool
  | [], listed => (Region.ready md ops listed).isEmpty
  | (i, false) :: r, listed => Region.free md ops listed i && depB md ops i && (Region.ready md ops listed).contains i && planM md ops r (listed.setIfInBounds i true)
  | (i, true) :: r, listed => Region.ready md ops listed == [i] && (!r.isEmpty || (listed.setIfInBounds i true).all id) && planM md ops r (listed.setIfInBounds i true)

theorem wpAnyW_of_plan (hsel : Region.noSelect ops = true) (hQ : ∀ c a d v w, Q (.panic c) (Act.put a d v) w → Q (.panic c) a w) :
    ∀ (plan : List (Nat × Bool)) (listed : Array Bool) (S : World → Prop) (a : Act) (w : World), Cl md ops listed → planM md ops plan listed = true → S w → wpPm P ops Q plan S a w → wpAnyW P md ops Q S plan.length listed a w
  | [], _, _, _, _, _, hB, _, h => ⟨by simpa [planM] using hB, h⟩
  | (i, false) :: r, listed, S, a, w, hcl, hB, hS, h => by
    simp only [planM, Bool.and_eq_true] at hB
    obtain ⟨⟨⟨hf, hd⟩, hr⟩, hB'⟩ := hB
    obtain ⟨o, v, ho, hy, h'⟩ := h
    have hr' : i ∈ Region.ready md ops listed := by simpa using hr
    exact wpAnyW_first ho (Region.noSelect_spec hsel) (fun c a w => hQ c a _ _ w) (depB_spec hd) _ listed a w hcl (Region.free_spec ho hf) hr' hy hS (wpAnyW_of_plan hsel hQ r _ S _ w (hcl.set hr') hB' hS h')
  | (i, true) :: r, listed, S, a, w, hcl, hB, hS, h => by
    simp only [planM, Bool.and_eq_true, beq_iff_eq] at hB
    obtain ⟨⟨hr, hlast⟩, hB'⟩ := hB
    obtain ⟨o, ho, h'⟩ := h
    refine ⟨fun h0 => (by rw [hr] at h0; cases h0), fun j hj => ?_⟩
    have hji : j = i := by rw [hr] at hj; simpa using hj
    subst hji
    unfold wpOp
    simp only [ho]
    split
    · rename_i hw
      rw [if_pos hw] at h'
      refine .inl (Oper.wp_mono (fun a' w' h9 => ?_) h')
      rcases h9 with ⟨rfl, h3⟩ | ⟨S', h1, h2, h3⟩
      · refine ⟨.inr fun k hk => ?_, ⟨by simpa [planM] using hB', h3⟩⟩
        simp only [List.isEmpty_nil, Bool.not_true, Bool.false_or] at hlast
        rw [← getD_set_ne true (Ne.symm hk)]
        rcases Nat.lt_or_ge k (listed.setIfInBounds j true).size with h' | h'
        · have := Array.all_eq_true.1 hlast k h'
          rw [Array.getD, dif_pos h']; exact this
        · rw [Array.getD, dif_neg (by omega)]
      · exact ⟨.inl (h2 w' h1), wpAnyW_narrow h2 _ _ _ _ (wpAnyW_of_plan hsel hQ r _ S' a' w' (hcl.set hj) hB' h1 h3)⟩
    · rename_i hw
      rw [if_neg hw] at h'
      exact ⟨.inl hS, wpAnyW_of_plan hsel hQ r _ S _ w (hcl.set hj) hB' hS h'⟩

/-- THE BEGINNING. -/
theorem wp_region_planM {id : Nat} {a : Act} {w : World} {l : List Oper} (plan : List (Nat × Bool)) (S : World → Prop) (hm : P.follows .mixedOrders = true)
    (hB : (Region.noSelect l.toArray && (plan.length == l.length) && planM .any l.toArray plan (Array.replicate l.length false)) = true)
    (hQ : ∀ c a d v w, Q (.panic c) (Act.put a d v) w → Q (.panic c) a w) (hS : S w.drew) (h : S w.drew → wpPm P l.toArray Q plan S a w.drew) : (Code.region id l.toArray true).wp P Q a w := by
  simp only [Bool.and_eq_true, beq_iff_eq] at hB
  refine wp_region_any hm (wpAny_ofW (S := S) _ _ _ _ ?_)
  have hcl : Cl .any l.toArray (Array.replicate l.length false) := fun k o hk hl => by
    have hlt : k < l.length := by have := (Array.getElem?_eq_some_iff.1 hk).1; simpa using this
    simp [hlt] at hl
  have := wpAnyW_of_plan (P := P) (Q := Q) hB.1.1 hQ plan _ S a w.drew hcl hB.2 hS (h hS)
  rw [hB.1.2] at this
  rw [show l.toArray.size = l.length by simp]
  exact this

theorem pm_take {l : List Oper} {i : Nat} {o : Oper} {v : Value} {r : List (Nat × Bool)} {S : World → Prop} {a : Act} {w : World} (ho : l[i]? = some o) (hw : Region.wanted o (yielded l.toArray a.tmps) = true)
    (hy : ∀ w, S w → (execOp a.eval o).run P w = .ok (.value v) w) (h : wpPm P l.toArray Q r S (a.put o.dst v) w) : wpPm P l.toArray Q ((i, false) :: r) S a w := ⟨o, v, (List.getElem?_toArray ..).trans ho, .inl ⟨hw, hy⟩, h⟩
theorem pm_skip {l : List Oper} {i : Nat} {o : Oper} {r : List (Nat × Bool)} {S : World → Prop} {a : Act} {w : World} (ho : l[i]? = some o) (hw : Region.wanted o (yielded l.toArray a.tmps) = false)
    (h : wpPm P l.toArray Q r S (a.put o.dst undef) w) : wpPm P l.toArray Q ((i, false) :: r) S a w := ⟨o, undef, (List.getElem?_toArray ..).trans ho, .inr ⟨hw, rfl⟩, h⟩
/-- The step is handed over behind a 'K'. -/
theorem pm_call {l : List Oper} {i : Nat} {o : Oper} {r : List (Nat × Bool)} {S : World → Prop} {a : Act} {w : World} (ho : l[i]? = some o) (hw : Region.wanted o (yielded l.toArray a.tmps) = true)
    (h : ∀ K' : Act → World → Prop, Shut (∀ (S' : World → Prop) a w, S' w → (∀ W, S' W → S W) → (S' w → wpPm P l.toArray Q r S' a w) → K' a w) → Oper.wp P o a w K' Q) : wpPm P l.toArray Q ((i, true) :: r) S a w := by
  refine ⟨o, (List.getElem?_toArray ..).trans ho, ?_⟩
  rw [if_pos hw]
  exact h _ (fun S' a w h1 h2 h3 => .inr ⟨S', h1, h2, h3 h1⟩)
/-- .. in the form of the step laws (append). -/
theorem pm_law {l : List Oper} {i : Nat} {o : Oper} {r : List (Nat × Bool)} {S : World → Prop} {a : Act} {w : World} (ho : l[i]? = some o) (hw : Region.wanted o (yielded l.toArray a.tmps) = true)
    (h : ∀ K' : Act → World → Prop, Shut (∀ (S' : World → Prop) a w, S' w → (∀ W, S' W → S W) → (S' w → wpPm P l.toArray Q r S' a w) → K' a w) → if Region.wanted o (yielded l.toArray a.tmps) = true then Oper.wp P o a w K' Q else False) : wpPm P l.toArray Q ((i, true) :: r) S a w :=
  pm_call ho hw (fun K' hK => by have := h K' hK; rwa [if_pos hw] at this)
theorem pm_skipc {l : List Oper} {i : Nat} {o : Oper} {r : List (Nat × Bool)} {S : World → Prop} {a : Act} {w : World} (ho : l[i]? = some o) (hw : Region.wanted o (yielded l.toArray a.tmps) = false)
    (h : wpPm P l.toArray Q r S (a.put o.dst undef) w) : wpPm P l.toArray Q ((i, true) :: r) S a w := by
  refine ⟨o, (List.getElem?_toArray ..).trans ho, ?_⟩
  rw [if_neg (by rw [hw]; exact Bool.false_ne_true)]
  exact h
/-- The last one: S is not asked any more. -/
theorem pm_last {l : List Oper} {i : Nat} {o : Oper} {S : World → Prop} {a : Act} {w : World} (ho : l[i]? = some o) (hw : Region.wanted o (yielded l.toArray a.tmps) = true)
    (h : ∀ K' : Act → World → Prop, Shut (∀ a w, Q .normal a w → K' a w) → Oper.wp P o a w K' Q) : wpPm P l.toArray Q [(i, true)] S a w := by
  refine ⟨o, (List.getElem?_toArray ..).trans ho, ?_⟩
  rw [if_pos hw]
  exact h _ (fun a w h => .inl ⟨rfl, h⟩)
theorem pm_done {S : World → Prop} {a : Act} {w : World} (h : Q .normal a w) : wpPm P ops Q [] S a w := h
end
end Go.Ext
