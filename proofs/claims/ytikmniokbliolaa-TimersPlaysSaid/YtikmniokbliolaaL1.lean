import Derived.Test.YtikmniokbliolaaK
namespace Go.Proofs.Ytikmniokbliolaa
open Go.RowKit Go.Ext

theorem cmpI_fst {x y : It} (h : cmpI x y < 0) : x.1 ≤ y.1 := by
  have e : cmpI x y = if x.1 < y.1 then -1 else if y.1 < x.1 then 1 else cmpL [x.2.1, x.2.2.1, x.2.2.2.1, x.2.2.2.2.1, x.2.2.2.2.2] [y.2.1, y.2.2.1, y.2.2.2.1, y.2.2.2.2.1, y.2.2.2.2.2] := rfl
  by_cases h1 : y.1 < x.1
  · rw [e, if_neg (by omega), if_pos h1] at h
    omega
  · omega

/-- How many are due. -/
def dueN (L : List It) (now : Int) : Nat := (L.filter fun x => decide (x.1 ≤ now)).length
theorem dueN_le (L : List It) (now : Int) : dueN L now ≤ L.length := List.length_filter_le _ _
theorem dueN_iff : ∀ {L : List It} (_ : Srt L) (now : Int) (i : Nat), i < L.length → (i < dueN L now ↔ (L.getD i z0).1 ≤ now)
  | [], _, _, i, h => by simp at h
  | y :: r, hs, now, i, h => by
    have hs' := List.pairwise_cons.1 hs
    by_cases e : y.1 ≤ now
    · have ed : dueN (y :: r) now = dueN r now + 1 := by simp [dueN, e]
      rw [ed]
      cases i with
      | zero => simp [e]
      | succ i =>
        have := dueN_iff hs'.2 now i (by simpa using h)
        simp only [List.getD_cons_succ]
        rw [← this]
        omega
    · have ed : dueN (y :: r) now = 0 := by
        unfold dueN
        rw [List.length_eq_zero_iff, List.filter_eq_nil_iff]
        intro z hz
        simp only [decide_eq_true_eq]
        rcases List.mem_cons.1 hz with rfl | hz
        · exact e
        · have := cmpI_fst (hs'.1 z hz)
          omega
      rw [ed]
      have : y.1 ≤ ((y :: r).getD i z0).1 := by
        cases i with
        | zero => simp
        | succ i =>
          have hi : i < r.length := by simpa using h
          have := cmpI_fst (hs'.1 (r.getD i z0) (by simp [List.getD, hi]))
          simpa using this
      constructor
      · intro h; omega
      · intro h; omega

theorem addF_length (L : List It) (x : It) : (addF L x).length = if has L x then L.length else L.length + 1 := by
  unfold addF
  split
  · rfl
  · exact ins_length L x
theorem has_addF {L : List It} (h : Srt L) (x y : It) : has (addF L x) y = (decide (y = x) || has L y) := by
  rw [Bool.eq_iff_iff, has_iff (addF_srt h x), Bool.or_eq_true, decide_eq_true_eq, has_iff h]
  unfold addF
  split
  · rename_i e
    have := (has_iff h x).1 e
    constructor
    · exact .inr
    · rintro (rfl | h)
      · exact this
      · exact h
  · exact mem_ins
theorem dueN_ins (L : List It) (x : It) (now : Int) : dueN (ins L x) now = dueN L now + if x.1 ≤ now then 1 else 0 := by
  have : dueN L now = dueN (L.take (pos L x)) now + dueN (L.drop (pos L x)) now := by
    unfold dueN
    rw [← List.length_append, ← List.filter_append, List.take_append_drop]
  rw [this]
  unfold ins dueN
  rw [List.filter_append, List.length_append, List.filter_cons]
  by_cases e : x.1 ≤ now
  · simp [e]; omega
  · simp [e]
theorem addF_ok {P : It → Prop} {L : List It} (h : ∀ x ∈ L, P x) {x : It} (hx : P x) : ∀ y ∈ addF L x, P y := by
  intro y hy
  unfold addF at hy
  split at hy
  · exact h y hy
  · rcases mem_ins.1 hy with rfl | hy
    · exact hx
    · exact h y hy
theorem getD_drop (L : List It) (n i : Nat) : (L.drop n).getD i z0 = L.getD (n + i) z0 := by simp [List.getD]
theorem hd_drop (L : List It) (n : Nat) : hd (L.drop n) = L.getD n z0 := by unfold hd; rw [getD_drop, Nat.add_zero]
theorem srt_drop {L : List It} (h : Srt L) (n : Nat) : Srt (L.drop n) := List.Pairwise.sublist (List.drop_sublist _ _) h
theorem due_drop {L : List It} (h : Srt L) (now : Int) (n : Nat) (hn : n ≤ dueN L now) : due (L.drop n) now = decide (n < dueN L now) := by
  have hle := dueN_le L now
  unfold due
  rw [hd_drop, List.length_drop]
  by_cases e : n < dueN L now
  · have := (dueN_iff h now n (by omega)).1 e
    rw [decide_eq_true (show 0 < L.length - n by omega), decide_eq_true this, decide_eq_true e]; rfl
  · rw [decide_eq_false e]
    by_cases e2 : n < L.length
    · have : ¬ (L.getD n z0).1 ≤ now := fun h' => e ((dueN_iff h now n e2).2 h')
      rw [decide_eq_false this, Bool.and_false]
    · rw [decide_eq_false (show ¬ 0 < L.length - n by omega), Bool.false_and]
end Go.Proofs.Ytikmniokbliolaa
