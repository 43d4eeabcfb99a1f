import Derived.RangeFuncNested
import Derived.RangeFuncBound
import Derived.RangeFuncCalls
import Derived.RangeFuncLeaves
import Derived.Shelf.Abstract
import Derived.Shelf.RegionOpen
import Derived.WalkKit
import Derived.OwnWalkIn
import Derived.TacticsInMore
import Derived.LoopNIn
import Derived.LoopIn
import Derived.Test.YtkgmienjioplaaaProg
namespace Go.Proofs.Ytkgmienjioplaaa
open Go.RowKit Go.Shelf
attribute [local go_sem] Oper.semAt_some

/-- What has come when k rounds are over: the last places, the greatest first. -/
def back (len k : Nat) : List Nat := (List.range k).map fun q => len - 1 - q
theorem back_succ (len k : Nat) : back len (k + 1) = back len k ++ [len - 1 - k] := by simp [back, List.range_succ]
theorem back_length (len k : Nat) : (back len k).length = k := by simp [back]

/-- A pending write as it is handed out. -/
def hand (es : Nat → Int) (ed : Nat → Option Addr × Nat × Nat) (j : Nat) : Array Value := #[.int .i64 (j : Int), .agg #[.int .i64 (es j), .slice (ed j).1 (ed j).2.1 (ed j).2.2]]

set_option maxRecDepth 100000 in
set_option maxHeartbeats 2000000 in
/-- The closure of slices.Backward: for every body of a loop that keeps what lay below n₀. -/
theorem back1_in (F : Fence) (n : Nat) (h40 : F.fn 40) (hro : F.round = none) (hn : 1 ≤ n) (l Bs n₀ b off len cap : Nat) (es : Nat → Int) (ed : Nat → Option Addr × Nat × Nat) (hreach : len ≤ 4398046511103) (hb : b < n₀) (J Jx : List Nat → World → Prop)
    (hY : ∀ pre x W, J pre W → pre.length < len → YieldAt F (n - 1) Try.prog l (hand es ed x) W fun e W' =>
      (e = .returned (.bool true) ∧ J (pre ++ [x]) W' ∧ Below n₀ W W') ∨ (e = .returned (.bool false) ∧ Jx (pre ++ [x]) W'))
    (W : World) (hBs : W.cell? ⟨Bs, 0, none⟩ = some (.slice (some ⟨b, off, none⟩) len cap)) (hBn : Bs < n₀)
    (hc : ∀ j, j < len → W.cell? ⟨b, off + j * 2, none⟩ = some (.int .i64 (es j)) ∧ W.cell? ⟨b, off + j * 2 + 1, none⟩ = some (.slice (ed j).1 (ed j).2.1 (ed j).2.2)) (hl : 0 < len) (h0 : J [] W) :
    CallsIn F n Try.prog 40 #[.func (.yield l) #[] #[], .pointer (some ⟨Bs, 0, none⟩)] W fun e W' => (∃ v, e = .returned v) ∧
      (J (back len len) W' ∨ (∃ k, k ≤ len ∧ Jx (back len k) W')) := by
  refine callsIn_of_wp Try.func40 rfl h40 ?_ hro
  simp only [Try.ntmps40, List.size_toArray, List.length_cons, List.length_nil, Nat.reduceAdd, Nat.reduceSub, Array.replicate_succ, Array.replicate_zero, List.push_toArray, List.append_toArray, List.nil_append, List.cons_append]
  gi_wp2
  gi_loopw [3] (fun i wr => ((∃ m : Nat, m < len ∧ i = .int .i64 m ∧ J (back len (len - 1 - m)) wr) ∨ (i = .int .i64 (-1) ∧ J (back len len) wr)) ∧ Below n₀ W wr)
    (fun i _ => (intOf i + 1).toNat)
  case atStart => exact ⟨.inl ⟨len - 1, by omega, by simp; omega, by rw [show len - 1 - (len - 1) = 0 by omega]; exact h0⟩, Below.refl _ _⟩
  case round =>
    obtain ⟨⟨m, hm, rfl, hJs⟩ | ⟨rfl, hJs⟩, hnx⟩ := hrel
    · have hbs' : wr.cell? ⟨Bs, 0, none⟩ = some (.slice (some ⟨b, off, none⟩) len cap) := (hnx.cell (p := ⟨Bs, 0, none⟩) hBn).trans hBs
      have hc1 : wr.cell? ⟨b, off + m * 2, none⟩ = _ := (hnx.cell (p := ⟨b, off + m * 2, none⟩) hb).trans (hc m hm).1
      have hc2 : wr.cell? ⟨b, off + m * 2 + 1, none⟩ = _ := (hnx.cell (p := ⟨b, off + m * 2 + 1, none⟩) hb).trans (hc m hm).2
      obtain ⟨fn, tmps, assign, body, hy, hR⟩ := hY _ m wr hJs (by rw [back_length]; omega)
      dsimp only [hand] at hy
      have hbk : back len (len - 1 - m) ++ [m] = back len (len - m) := by
        have := back_succ len (len - 1 - m)
        rw [show len - 1 - m + 1 = len - m by omega, show len - 1 - (len - 1 - m) = m by omega] at this
        exact this.symm
      rw [hbk] at hR
      gi_wp2
      refine hR.mono ?_
      rintro e W3 (⟨rfl, hJ3, hk3⟩ | ⟨rfl, hJx3⟩)
      · gi_wp2
        have hrel : (∃ m' : Nat, m' < len ∧ Value.int .i64 ((m : Int) - 1) = .int .i64 m' ∧ J (back len (len - 1 - m')) W3) ∨ (Value.int .i64 ((m : Int) - 1) = .int .i64 (-1) ∧ J (back len len) W3) := by
          cases m with
          | zero => exact .inr ⟨by simp, by simpa using hJ3⟩
          | succ m => exact .inl ⟨m, by omega, by simp, by rw [show len - 1 - m = len - (m + 1) by omega]; exact hJ3⟩
        go_roundw
        case rel => exact ⟨hrel, hnx.trans hk3⟩
        case measure => simp [intOf]
      · gi_wp2
        refine bodyPost_ret (results_none rfl _ _ _) rfl ?_
        exact ⟨⟨_, rfl⟩, .inr ⟨len - m, by omega, hJx3⟩⟩
    · gi_wp2
      go_end0
      exact ⟨⟨_, rfl⟩, .inl hJs⟩

set_option maxRecDepth 100000 in
set_option maxHeartbeats 1000000 in
/-- .. of no pending write. -/
theorem back1_none_in (F : Fence) (n : Nat) (h40 : F.fn 40) (hro : F.round = none) (l Bs cap : Nat) (A : Option Addr) (J : List Nat → World → Prop) (W : World) (hBs : W.cell? ⟨Bs, 0, none⟩ = some (.slice A 0 cap)) (h0 : J [] W) :
    CallsIn F n Try.prog 40 #[.func (.yield l) #[] #[], .pointer (some ⟨Bs, 0, none⟩)] W fun e W' => (∃ v, e = .returned v) ∧ J [] W' := by
  refine callsIn_of_wp Try.func40 rfl h40 ?_ hro
  simp only [Try.ntmps40, List.size_toArray, List.length_cons, List.length_nil, Nat.reduceAdd, Nat.reduceSub, Array.replicate_succ, Array.replicate_zero, List.push_toArray, List.append_toArray, List.nil_append, List.cons_append]
  gi_wp2
  gi_loopw [3] (fun i wr => i = .int .i64 (-1) ∧ J [] wr) (fun _ _ => 0)
  case atStart => exact ⟨rfl, h0⟩
  case round =>
    obtain ⟨rfl, hJs⟩ := hrel
    gi_wp2
    go_end0
    exact ⟨⟨_, rfl⟩, hJs⟩

set_option maxHeartbeats 1000000 in
/-- slices.Backward: the slice value is boxed; the function value captures the box. -/
theorem backward_in (F : Fence) (n : Nat) (h34 : F.fn 34) (hro : F.round = none) (a : Option Addr) (len cap : Nat) (w : World) :
    CallsIn F n Try.prog 34 #[.slice a len cap] w fun e w' => e = .returned (.func (.func 40) #[] #[.pointer (some ⟨w.heap.size, 0, none⟩)]) ∧ w' = w.alloc (.cells #[.slice a len cap] 33) := by
  refine callsIn_of_wp Try.func34 rfl h34 ?_ hro
  simp only [Try.ntmps34, List.size_toArray, List.length_cons, List.length_nil, Nat.reduceAdd, Nat.reduceSub, Array.replicate_succ, Array.replicate_zero, List.push_toArray, List.append_toArray, List.nil_append, List.cons_append]
  gi_wp2
  go_ret
  exact ⟨rfl, rfl⟩

/-- What slices.Backward hands back yields the pending writes, the last one first; or the first few of these. -/
theorem back_stops (F : Fence) (n : Nat) (h40 : F.fn 40) (hro : F.round = none) (hn : 1 ≤ n) (Bs n₀ len cap : Nat) (A : Option Addr) (es : Nat → Int) (ed : Nat → Option Addr × Nat × Nat) (hreach : len ≤ 4398046511103) (w : World) (hBs : Bs < n₀) (hn₀ : n₀ ≤ w.heap.size)
    (hc0 : w.cell? ⟨Bs, 0, none⟩ = some (.slice A len cap))
    (hI : len = 0 ∨ ∃ b off, A = some ⟨b, off, none⟩ ∧ b < n₀ ∧ ∀ j, j < len → w.cell? ⟨b, off + j * 2, none⟩ = some (.int .i64 (es j)) ∧ w.cell? ⟨b, off + j * 2 + 1, none⟩ = some (.slice (ed j).1 (ed j).2.1 (ed j).2.2)) :
    SeqStopsK F n Try.prog 40 #[.pointer (some ⟨Bs, 0, none⟩)] (hand es ed) (Below n₀) (fun ys => ys = back len len) (fun pre => ∃ k, k ≤ len ∧ pre = back len k) len w := fun l J Jx W hW _ _ hY h0 => by
  have hc' := (hW.cell (p := ⟨Bs, 0, none⟩) (Nat.lt_of_lt_of_le hBs hn₀)).trans hc0
  rcases hI with rfl | ⟨b, off, rfl, hb, hcs⟩
  · exact (back1_none_in F n h40 hro l Bs cap A J W hc' h0).mono fun e W' ⟨he, hj⟩ => ⟨he, .inl ⟨_, rfl, hj⟩⟩
  · rcases Nat.eq_zero_or_pos len with h | h
    · subst h
      exact (back1_none_in F n h40 hro l Bs cap _ J W hc' h0).mono fun e W' ⟨he, hj⟩ => ⟨he, .inl ⟨_, rfl, hj⟩⟩
    · refine (back1_in F n h40 hro hn l Bs n₀ b off len cap es ed hreach hb J Jx hY W hc' hBs (fun j hj => ⟨(hW.cell (p := ⟨b, off + j * 2, none⟩) (Nat.lt_of_lt_of_le hb hn₀)).trans (hcs j hj).1, (hW.cell (p := ⟨b, off + j * 2 + 1, none⟩) (Nat.lt_of_lt_of_le hb hn₀)).trans (hcs j hj).2⟩) h h0).mono ?_
      rintro e W' ⟨he, hj | ⟨k, hk, hj⟩⟩
      · exact ⟨he, .inl ⟨_, rfl, hj⟩⟩
      · exact ⟨he, .inr ⟨_, ⟨k, hk, rfl⟩, hj⟩⟩
end Go.Proofs.Ytkgmienjioplaaa
