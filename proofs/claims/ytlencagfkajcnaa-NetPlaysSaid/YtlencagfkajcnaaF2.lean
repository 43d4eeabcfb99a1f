import Derived.Test.YtlencagfkajcnaaF1
import Derived.Test.YtlencagfkajcnaaK1
namespace Go.Proofs.Ytlencagfkajcnaa
open Go.RowKit Go.Ext Go.BigFrame

theorem and3 (x : Int) : ∃ n : Nat, n ≤ 3 ∧ bits BinOp.and IntKind.i64 x 3 = n := by
  have h2 : (BitVec.ofInt 64 (3 : Int)).toNat = 3 := by decide
  refine ⟨(BitVec.ofInt 64 x).toNat &&& 3, Nat.and_le_right, ?_⟩
  show IntKind.i64.wrap ((BitVec.ofInt 64 x &&& BitVec.ofInt 64 3).toNat : Int) = _
  rw [BitVec.toNat_and, h2, IntKind.wrap_i64]
  have : (BitVec.ofInt 64 x).toNat &&& 3 ≤ 3 := Nat.and_le_right
  omega

theorem pr_eq (x y a b : Int) : pr x y = pr a b ↔ (x = a ∧ y = b) ∨ (x = b ∧ y = a) := by
  unfold pr
  constructor
  · intro h
    injection h with h1 h2
    split at h1 <;> split at h1 <;> split at h2 <;> split at h2 <;> omega
  · rintro (⟨rfl, rfl⟩ | ⟨rfl, rfl⟩)
    · rfl
    · congr 1 <;> (split <;> split <;> omega)

/-- What waits in the law NetLoses. -/
structure Ok (a b : Int) (P : List Pk) (s : Int) : Prop where
  dst : ∀ p ∈ P, 0 ≤ p.2.1 ∧ p.2.1 ≤ 3
  apart : ∀ p ∈ P, pr p.1 p.2.1 ≠ pr a b
  rise : P.Pairwise fun p q => p.2.2.1 < q.2.2.1
  lt : ∀ p ∈ P, p.2.2.1 < s
theorem Ok.nil (a b s : Int) : Ok a b [] s := ⟨by simp, by simp, List.Pairwise.nil, by simp⟩
theorem Ok.more {a b s : Int} {P : List Pk} (h : Ok a b P s) : Ok a b P (s + 1) := ⟨h.dst, h.apart, h.rise, fun p hp => by have := h.lt p hp; omega⟩
theorem Ok.add {a b s x y : Int} {P : List Pk} {bs : List UInt8} (h : Ok a b P s) (h0 : 0 ≤ y) (h3 : y ≤ 3) (hn : pr x y ≠ pr a b) : Ok a b (P ++ [(x, y, s, bs)]) (s + 1) := by
  refine ⟨fun p hp => ?_, fun p hp => ?_, ?_, fun p hp => ?_⟩
  · rcases List.mem_append.1 hp with hp | hp
    · exact h.dst p hp
    · rw [List.mem_singleton.1 hp]; exact ⟨h0, h3⟩
  · rcases List.mem_append.1 hp with hp | hp
    · exact h.apart p hp
    · rw [List.mem_singleton.1 hp]; exact hn
  · rw [List.pairwise_append]
    exact ⟨h.rise, List.pairwise_singleton _ _, fun p hp q hq => by rw [List.mem_singleton.1 hq]; exact h.lt p hp⟩
  · rcases List.mem_append.1 hp with hp | hp
    · have := h.lt p hp; omega
    · rw [List.mem_singleton.1 hp]; show s < s + 1; omega

/-- What is sent where the two are cut. -/
theorem send_cut {a b s x y : Int} {P : List Pk} {bs : List UInt8} (hx : 0 ≤ x ∧ x ≤ 3) (hy : 0 ≤ y ∧ y ≤ 3) (hl : bs.length ≤ 16384) :
    sendF 4 s (cutS (fun _ => false) a b) P x y bs = (0, if pr x y = pr a b then P else P ++ [(x, y, s, bs)], s + 1) := by
  have h1 : isN 4 x = true := by unfold isN; rw [decide_eq_true hx.1, decide_eq_true (show x < 4 by omega)]; rfl
  have h2 : isN 4 y = true := by unfold isN; rw [decide_eq_true hy.1, decide_eq_true (show y < 4 by omega)]; rfl
  unfold sendF opF cutS
  rw [h1, h2]
  have : ¬ 1048576 < bs.length := by omega
  by_cases e : pr x y = pr a b <;> simp [this, e]
theorem cut_new (a b : Int) (P : List Pk) (hP : P = []) : P.filter (fun p => !qC a b p) = [] := by subst hP; rfl
end Go.Proofs.Ytlencagfkajcnaa
