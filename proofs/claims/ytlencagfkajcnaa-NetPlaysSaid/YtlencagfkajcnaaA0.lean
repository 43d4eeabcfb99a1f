import Derived.Test.YtlencagfkajcnaaM6
import Derived.Test.YtlencagfkajcnaaN7
import Derived.Test.YtlencagfkajcnaaPlan2
import Derived.Deep.Onto
namespace Go.Proofs.Ytlencagfkajcnaa
open Go.RowKit Go.Ext Go.BigFrame Go.Maps
attribute [local go_sem] Ext.cell Ext.frozen Ext.lt Ext.le s1 s2 s3 s4 s5 s6 t1 t2 t3 t4 t5 t6
attribute [local go_sem ↓] Go.wp_at_zero Go.wp_at_succ

theorem info71 : (Try.prog.info? 71).map (fun i => (i.zero, i.size, i.bytes)) = (Try.prog.info? 33).map (fun i => (i.zero, i.size, i.bytes)) := by kernel_rfl
theorem info66 : (Try.prog.info? 66).map (fun i => (i.zero, i.size, i.bytes)) = some (some (.agg #[.int .i64 0, .int .i64 0]), 2, 16) := by kernel_rfl

/-- Nil is put behind a slice. -/
def NoneB (P : Program) (t : TypeId) : Prop := ∀ (A : Option Addr) (n c : Nat) (ty : TypeId) (W : World), n ≤ c → (Builtin.append_ #[t, t] ty #[.slice A n c, .slice none 0 0]).run P W = .ok (.slice A n c) W
theorem none22 : NoneB Try.prog 22 := fun A n c ty W h => by
  have u := Try.underlying22
  cases A <;> go_simp
theorem none50 : NoneB Try.prog 50 := fun A n c ty W h => by
  have u := Try.underlying50
  cases A <;> go_simp
theorem none51 : NoneB Try.prog 51 := fun A n c ty W h => by
  have u := Try.underlying51
  cases A <;> go_simp
theorem grown_refl (w : World) (r : Option Nat) : w.grownBy w r := ⟨rfl, rfl, rfl, Nat.le_refl _, fun _ _ _ => rfl⟩

/-- Any slice behind a row of one's own. -/
theorem step_append_any {P : Program} {w : World} {ops : Array Oper} {o : Oper} {a : Act} {K : Act → World → Prop} {Q : Exit → Act → World → Prop} {E : Prop} (hgd : o.guard = none) (s x : Operand) (t : TypeId)
    (ho : o.op = .call { callee := .builtin .append, args := #[s, x], argTypes := #[t, t] })
    (base : Nat) (e : TypeId) (i : TypeInfo) (z : Value) (size bytes : Nat) (ht : P.underlying t = some (.slice e)) (hi : P.info? e = some i) (hz : i.zero = some z)
    (hsize : i.size = size) (hby : i.bytes = bytes) (hzs : z.cells.size = size) (hsz : 0 < size) (hno : NoneB P t)
    (v : Value) (n : Nat) (xs : List Value) (hs : a.eval s = v) (hown : w.ownsRow base e size v n xs)
    (A : Option Addr) (m c : Nat) (news : List Value) (hx : a.eval x = .slice A m c) (hl : news.length = m * size) (hnews : Rd w A news) (hA : A = none → m = 0 ∧ c = 0) (h1 : ∀ u ∈ news, u.oneCell' = true)
    (h63 : n + m ≤ maxLen) (hbytes : (n + m) * bytes ≤ 140737488355328) (hbase : base ≤ w.heap.size)
    (h : ∀ v' w', w'.ownsRow base e size v' (n + m) (xs ++ news) → w.grownBy w' v.ownBlock → K (a.put o.dst v') w') :
    if Region.wanted o (yielded ops a.tmps) = true then Oper.wp P o a w K Q else E := by
  have hw : Region.wanted o (yielded ops a.tmps) = true := by simp [Region.wanted, hgd]
  cases A with
  | none =>
    obtain ⟨rfl, rfl⟩ := hA rfl
    have hn : news = [] := List.eq_nil_of_length_eq_zero (by omega)
    subst hn
    obtain ⟨D, cp, hv, hcp⟩ : ∃ D cp, v = .slice D n cp ∧ n ≤ cp := by
      rcases hown.2 with ⟨rfl, h0⟩ | ⟨g, cap, cur, rfl, _, _, hc, _⟩
      · exact ⟨none, 0, by rw [h0], by omega⟩
      · exact ⟨_, _, rfl, hc⟩
    subst hv
    refine step_append_at hgd s x t t ho _ _ hs hx (hno D n cp _ w hcp) ?_
    exact h _ _ (by simpa using hown) (grown_refl _ _)
  | some ad =>
    rw [if_pos hw]
    exact wp_append_own w s x t ho base e i z size bytes ht hi hz hsize hby hzs hsz v n xs hs hown ad m c news hx hl hnews.add h1 h63 hbytes hbase fun v' w' h2 h3 _ => h v' w' h2 h3

theorem Rd.take {w : World} {A : Option Addr} {xs : List Value} (h : Rd w A xs) (k : Nat) : Rd w A (xs.take k) := fun hn => by
  obtain ⟨b, off, e, hc⟩ := h (fun e => hn (by rw [e]; simp))
  refine ⟨b, off, e, fun j u hu => hc j u ?_⟩
  rw [List.getElem?_take] at hu
  split at hu
  · exact hu
  · cases hu
theorem Rd.block {w : World} {B : Nat} {cs : Array Value} {t : TypeId} {fz : Nat × Nat} (h : w.heap[B]? = some (.cells cs t fz)) : Rd w (some ⟨B, 0, none⟩) cs.toList := fun _ => ⟨B, 0, rfl, fun j u hu => by
  rw [Nat.zero_add, World.cell?, h]
  simpa using hu⟩
theorem Bys.src {w : World} {A : Option Addr} {m c : Nat} {bs : List UInt8} (h : Bys w (.slice A m c) bs) : m = bs.length ∧ Rd w A (bc bs) ∧ (A = none → m = 0 ∧ c = 0) ∧ bs.length ≤ 140737488351232 := by
  obtain ⟨A', c', e, h1, h2, h3⟩ := h
  injection e with e1 e2 e3
  subst e1 e2 e3
  refine ⟨rfl, h2, fun e => ⟨?_, h3 e⟩, h1⟩
  subst e
  rcases bs with _ | ⟨b, bs⟩
  · rfl
  · obtain ⟨_, _, e, _⟩ := h2 (by simp [bc]); cases e

end Go.Proofs.Ytlencagfkajcnaa
