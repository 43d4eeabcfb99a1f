import Derived.Test.YtdgkgmlnjolloaaDoorKit
import Derived.Deep.RegionHeld3
import Derived.Deep.AppendLies
import Derived.Deep.DrawnRows
namespace Go.Ext
open Go.RowKit

/-! ### What stays -/

/-- A block that stays as it is: it was there when the law began, or it is of a type that nobody writes to. -/
def Imm (T : TypeId → Bool) (base : Nat) (w : World) (b : Nat) : Prop :=
  b < w.heap.size ∧ (b < base ∨ ∃ cs t fz, w.heap[b]? = some (.cells cs t fz) ∧ T t = true)

theorem Imm.lt {T : TypeId → Bool} {base : Nat} {w : World} {b : Nat} (h : Imm T base w b) : b < w.heap.size := h.1

/-- Whatever stays has stayed. -/
structure Kp (T : TypeId → Bool) (base : Nat) (w w' : World) : Prop where
  os : w'.os = w.os
  tape : w'.tape = w.tape
  output : w'.output = w.output
  size : w.heap.size ≤ w'.heap.size
  block : ∀ b, Imm T base w b → w'.heap[b]? = w.heap[b]?

section
variable {T : TypeId → Bool} {base : Nat} {w w' a b c : World}
theorem Kp.refl (T : TypeId → Bool) (base : Nat) (w : World) : Kp T base w w := ⟨rfl, rfl, rfl, Nat.le_refl _, fun _ _ => rfl⟩
theorem Kp.imm (h : Kp T base w w') {k : Nat} (hk : Imm T base w k) : Imm T base w' k := by
  refine ⟨Nat.lt_of_lt_of_le hk.1 h.size, ?_⟩
  rcases hk.2 with h1 | ⟨cs, t, fz, h1, h2⟩
  · exact .inl h1
  · exact .inr ⟨cs, t, fz, (h.block k hk).trans h1, h2⟩
theorem Kp.trans (h : Kp T base a b) (k : Kp T base b c) : Kp T base a c :=
  ⟨k.os.trans h.os, k.tape.trans h.tape, k.output.trans h.output, Nat.le_trans h.size k.size, fun i hi => (k.block i (h.imm hi)).trans (h.block i hi)⟩
theorem Gr.kp (h : Gr w w') : Kp T base w w' := ⟨h.os, h.tape, h.output, h.size, fun k hk => h.block k hk.1⟩
theorem Kp.alloc (h : Kp T base a w) (o : Obj) : Kp T base a (w.alloc o) := h.trans (Gr.kp ((Gr.refl _).alloc o))
theorem Kp.drew (h : Kp T base a w) : Kp T base a w.drew := h.trans (Gr.kp (Gr.refl _).drew)
theorem Kp.ext (h : Kp T base a w) (x : Ext w) : Kp T base a x.val := h.trans (Gr.kp x.gr)
theorem Kp.set (h : Kp T base a w) {p : Addr} (hp : ¬ Imm T base w p.block) (u : Value) : Kp T base a (w.setCell p u) :=
  h.trans ⟨rfl, rfl, rfl, by simp [World.setCell], fun k hk => Below.heap_setCell _ _ _ _ (fun e => hp (e ▸ hk))⟩
theorem Kp.gr (h : Kp T w.heap.size w w') : Gr w w' := ⟨h.os, h.tape, h.output, h.size, fun k hk => h.block k ⟨hk, .inl hk⟩⟩
theorem Kp.cell (h : Kp T base w w') {p : Addr} (hp : Imm T base w p.block) : w'.cell? p = w.cell? p := World.cell?_of_block (h.block _ hp)
theorem Kp.grown {row : Option Nat} (h : Kp T base a w) (hg : w.grownBy w' row) (hr : ∀ k, row = some k → ¬ Imm T base w k) : Kp T base a w' :=
  h.trans ⟨hg.os, hg.tape, hg.output, hg.size, fun k hk => hg.block k hk.1 (fun e => hr k e.symm hk)⟩
theorem gr_grown {row : Option Nat} (h : Gr a w) (hg : w.grownBy w' row) (hr : ∀ k, row = some k → a.heap.size ≤ k) : Gr a w' := Below.grown h hg h.size hr
end

/-- Only blocks of S, and new ones, have turned. -/
structure Mod (S : Nat → Prop) (w w' : World) : Prop where
  os : w'.os = w.os
  tape : w'.tape = w.tape
  output : w'.output = w.output
  size : w.heap.size ≤ w'.heap.size
  block : ∀ k, k < w.heap.size → ¬ S k → w'.heap[k]? = w.heap[k]?
section
variable {S S' : Nat → Prop} {w w' a b c : World}
theorem Gr.mod (h : Gr w w') (S : Nat → Prop) : Mod S w w' := ⟨h.os, h.tape, h.output, h.size, fun k hk _ => h.block k hk⟩
theorem Mod.trans (h : Mod S a b) (k : Mod S' b c) (hS : ∀ x, x < a.heap.size → S' x → S x) : Mod S a c :=
  ⟨k.os.trans h.os, k.tape.trans h.tape, k.output.trans h.output, Nat.le_trans h.size k.size, fun i hi hn => (k.block i (Nat.lt_of_lt_of_le hi h.size) (fun e => hn (hS i hi e))).trans (h.block i hi hn)⟩
theorem Mod.gr (h : Mod S a w) (g : Gr w w') : Mod S a w' := h.trans (g.mod fun _ => False) (fun _ _ e => e.elim)
theorem Mod.set (h : Mod S a w) {p : Addr} (hp : p.block < a.heap.size → S p.block) (u : Value) : Mod S a (w.setCell p u) :=
  ⟨h.os, h.tape, h.output, by simpa [World.setCell] using h.size, fun i hi hn => (Below.heap_setCell w p u i (fun e => hn (e ▸ hp (e ▸ hi)))).trans (h.block i hi hn)⟩
theorem Mod.kp {T : TypeId → Bool} {base : Nat} (h : Mod S w w') (hS : ∀ k, S k → ¬ Imm T base w k) : Kp T base w w' := ⟨h.os, h.tape, h.output, h.size, fun k hk => h.block k hk.1 (fun e => hS k e hk)⟩
theorem Mod.mono (h : Mod S w w') (hS : ∀ k, k < w.heap.size → S k → S' k) : Mod S' w w' := ⟨h.os, h.tape, h.output, h.size, fun k hk hn => h.block k hk (fun e => hn (hS k hk e))⟩
end

/-! ### A slice that reads as cells -/

/-- The cells xs lie at A. -/
def Rd (w : World) (A : Option Addr) (xs : List Value) : Prop := xs ≠ [] → ∃ b off, A = some ⟨b, off, none⟩ ∧ ∀ j u, xs[j]? = some u → w.cell? ⟨b, off + j, none⟩ = some u

section
variable {w w' : World} {A : Option Addr} {xs : List Value}
theorem Rd.nil (w : World) (A : Option Addr) : Rd w A [] := fun h => absurd rfl h
theorem Rd.keep (h : Rd w A xs) (hk : ∀ b, (∃ off, A = some ⟨b, off, none⟩) → b < w.heap.size → w'.heap[b]? = w.heap[b]?) : Rd w' A xs := fun hn => by
  obtain ⟨b, off, rfl, hc⟩ := h hn
  refine ⟨b, off, rfl, fun j u hu => ?_⟩
  have h1 := hc j u hu
  exact (World.cell?_of_block (hk b ⟨off, rfl⟩ (World.block_lt_of_cell? w _ h1))).trans h1
theorem Rd.gr (h : Rd w A xs) (g : Gr w w') : Rd w' A xs := h.keep fun b _ hb => g.block b hb
theorem Rd.at_ (h : Rd w A xs) {j : Nat} {u : Value} (hu : xs[j]? = some u) : ∃ b off, A = some ⟨b, off, none⟩ ∧ w.cell? ⟨b, off + j, none⟩ = some u := by
  obtain ⟨b, off, rfl, hc⟩ := h (by rintro rfl; simp at hu)
  exact ⟨b, off, rfl, hc j u hu⟩
theorem Rd.add {ad : Addr} (h : Rd w (some ad) xs) : ∀ j u, xs[j]? = some u → w.cell? (ad.add j) = some u := by
  intro j u hu
  obtain ⟨b, off, e, hc⟩ := h.at_ hu
  injection e with e
  subst e
  rw [← hc]
  congr 1
  unfold Addr.add
  split <;> simp_all
theorem Rd.of_own {base e size n c : Nat} (h : w.ownsRow base e size (.slice A n c) n xs) : Rd w A xs := fun hn => by
  rcases h.2 with ⟨hv, h0⟩ | ⟨g, cap, cur, hv, hb, hh, hnc, hcm, hcs, ht⟩
  · exfalso; apply hn; have := h.1; subst h0; simpa using this
  · injection hv with h1 h2 h3
    subst h1
    refine ⟨g, 0, rfl, fun j u hu => ?_⟩
    have := h.cells (g := g) rfl j u hu
    rw [Nat.zero_add]
    have hadd : (⟨g, 0, none⟩ : Addr).add j = ⟨g, j, none⟩ := by unfold Addr.add; split <;> simp_all
    rwa [hadd] at this
theorem Rd.cut (h : Rd w A xs) {k cap : Nat} (hc : xs.length ≤ cap) (size lo : Nat) (hk : lo = k * size) (hcap : cap = k → xs.length ≤ lo) : Rd w (if cap = k then A else A.map (·.add lo)) (xs.drop lo) := fun hn => by
  have hx : xs ≠ [] := by rintro rfl; simp at hn
  obtain ⟨b, off, rfl, hcell⟩ := h hx
  have hlt : lo < xs.length := by
    rcases Nat.lt_or_ge lo xs.length with h1 | h1
    · exact h1
    · exact absurd (List.drop_eq_nil_of_le h1) hn
  rw [if_neg (fun e => by have := hcap e; omega)]
  refine ⟨b, off + lo, ?_, fun j u hu => ?_⟩
  · simp only [Option.map_some, Addr.add]
    split <;> simp_all
  · rw [List.getElem?_drop] at hu
    rw [Nat.add_assoc]
    exact hcell _ u hu
end

/-! ### Bytes -/
def bc (bs : List UInt8) : List Value := bs.map fun b => .int .u8 (b.toNat : Int)
theorem bc_length (bs : List UInt8) : (bc bs).length = bs.length := by simp [bc]
theorem bc_one (bs : List UInt8) : ∀ u ∈ bc bs, u.oneCell' = true := by
  intro u hu
  simp only [bc, List.mem_map] at hu
  obtain ⟨b, _, rfl⟩ := hu
  rfl

/-- The slice d reads as these bytes, in a block that stays. -/
def Byt (T : TypeId → Bool) (base : Nat) (w : World) (d : Value) (bs : List UInt8) : Prop :=
  ∃ A c, d = .slice A bs.length c ∧ bs.length ≤ 140737488351232 ∧ Rd w A (bc bs) ∧ (bs ≠ [] → ∃ b off, A = some ⟨b, off, none⟩ ∧ Imm T base w b) ∧ (A = none → c = 0)
theorem Byt.kp {T : TypeId → Bool} {base : Nat} {w w' : World} {d : Value} {bs : List UInt8} (h : Byt T base w d bs) (k : Kp T base w w') : Byt T base w' d bs := by
  obtain ⟨A, c, rfl, hl, hr, hi, hn⟩ := h
  refine ⟨A, c, rfl, hl, ?_, fun hb => ?_, hn⟩
  · by_cases hb : bs = []
    · subst hb; exact Rd.nil _ _
    · obtain ⟨b, off, rfl, him⟩ := hi hb
      exact hr.keep fun b' ⟨off', e⟩ _ => by
        have : b' = b := by injection e with e; injection e with e1; exact e1.symm
        subst this
        exact k.block b' him
  · obtain ⟨b, off, rfl, him⟩ := hi hb
    exact ⟨b, off, rfl, k.imm him⟩
theorem Byt.nil (T : TypeId → Bool) (base : Nat) (w : World) : Byt T base w (.slice none 0 0) [] := ⟨none, 0, rfl, by simp, Rd.nil _ _, fun h => absurd rfl h, fun _ => rfl⟩
end Go.Ext
