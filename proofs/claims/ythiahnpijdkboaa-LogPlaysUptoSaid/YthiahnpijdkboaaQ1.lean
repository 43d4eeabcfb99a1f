import Derived.Test.YthiahnpijdkboaaP8
import Derived.Test.YthiahnpijdkboaaM2
import Derived.Test.YthiahnpijdkboaaPlan3
namespace Go.Proofs.Ythiahnpijdkboaa
open Go.RowKit Go.Ext Go.BigFrame
attribute [local go_sem] Ext.cell Ext.frozen Ext.lt Ext.le s1 s2 s3 s4 s5 s6 t1 t2 t3 t4 t5 t6
attribute [local go_sem ↓] Go.wp_at_zero Go.wp_at_succ

/-! ### Appends of any slice -/
theorem step_append_at {P : Program} {ops : Array Oper} {o : Oper} {a : Act} {w : World} {K : Act → World → Prop} {Q : Exit → Act → World → Prop} {E : Prop}
    (hg : o.guard = none) (d x : Operand) (dT sT : TypeId) (hop : o.op = Op.call { callee := Callee.builtin Builtin.append, args := #[d, x], argTypes := #[dT, sT] })
    (v u : Value) (hd : a.eval d = v) (hx : a.eval x = u) {v' : Value} {w' : World} (hr : (Builtin.append_ #[dT, sT] o.type #[v, u]).run P w = .ok v' w') (hK : K (a.put o.dst v') w') :
    if Region.wanted o (yielded ops a.tmps) = true then Oper.wp P o a w K Q else E := by
  have hw : Region.wanted o (yielded ops a.tmps) = true := by simp [Region.wanted, hg]
  rw [if_pos hw]
  unfold Oper.wp
  simp [execOp, hop, resolve, invoke, builtin, hd, hx, hr, Result.andThen]
  exact hK

/-- Nil is put behind a slice. -/
def NoneB (P : Program) (t : TypeId) : Prop := ∀ (A : Option Addr) (n c : Nat) (ty : TypeId) (W : World), n ≤ c → (Builtin.append_ #[t, t] ty #[.slice A n c, .slice none 0 0]).run P W = .ok (.slice A n c) W
theorem none22 : NoneB Try.prog 22 := fun A n c ty W h => by
  have u := Try.underlying22
  cases A <;> go_simp
theorem grown_refl (w : World) (r : Option Nat) : w.grownBy w r := ⟨rfl, rfl, rfl, Nat.le_refl _, fun _ _ _ => rfl⟩
theorem step_append_any {P : Program} {w : World} {ops : Array Oper} {o : Oper} {a : Act} {K : Act → World → Prop} {Q : Exit → Act → World → Prop} {E : Prop} (hgd : o.guard = none) (s x : Operand) (t : TypeId)
    (ho : o.op = .call { callee := .builtin .append, args := #[s, x], argTypes := #[t, t] })
    (base : Nat) (e : TypeId) (i : TypeInfo) (z : Value) (size bytes : Nat) (ht : P.underlying t = some (.slice e)) (hi : P.info? e = some i) (hz : i.zero = some z)
    (hsize : i.size = size) (hby : i.bytes = bytes) (hzs : z.cells.size = size) (hsz : 0 < size) (hno : NoneB P t)
    (v : Value) (n : Nat) (xs : List Value) (hs : a.eval s = v) (hown : w.ownsRow base e size v n xs)
    (A : Option Addr) (m c : Nat) (news : List Value) (hx : a.eval x = .slice A m c) (hl : news.length = m * size) (hnews : Rd w A news) (hA : A = none → m = 0 ∧ c = 0) (h1 : ∀ u ∈ news, u.oneCell' = true)
    (h63 : n + m ≤ maxLen) (hbytes : (n + m) * bytes ≤ 140737488355328) (hbase : base ≤ w.heap.size)
    (h : ∀ v' w', w'.ownsRow base e size v' (n + m) (xs ++ news) → w.grownBy w' v.ownBlock → K (a.put o.dst v') w') :
    if Region.wanted o (yielded ops a.tmps) = true then Oper.wp P o a w K Q else E := by
  have hw : Region.wanted o (yielded ops a.tmps) = true := by simp [Region.wanted, hgd]
  cases A with
  | none =>
    obtain ⟨rfl, rfl⟩ := hA rfl
    have hn : news = [] := List.eq_nil_of_length_eq_zero (by omega)
    subst hn
    obtain ⟨D, cp, hv, hcp⟩ : ∃ D cp, v = .slice D n cp ∧ n ≤ cp := by
      rcases hown.2 with ⟨rfl, h0⟩ | ⟨g, cap, cur, rfl, _, _, hc, _⟩
      · exact ⟨none, 0, by rw [h0], by omega⟩
      · exact ⟨_, _, rfl, hc⟩
    subst hv
    refine step_append_at hgd s x t t ho _ _ hs hx (hno D n cp _ w hcp) ?_
    exact h _ _ (by simpa using hown) (grown_refl _ _)
  | some ad =>
    rw [if_pos hw]
    exact wp_append_own w s x t ho base e i z size bytes ht hi hz hsize hby hzs hsz v n xs hs hown ad m c news hx hl hnews.add h1 h63 hbytes hbase fun v' w' h2 h3 _ => h v' w' h2 h3
theorem own_mod {S : Nat → Prop} {w w' : World} {B e size n : Nat} {v : Value} {xs : List Value} (h : w.ownsRow B e size v n xs) (m : Mod S w w') (hS : ∀ k, v.ownBlock = some k → ¬ S k) : w'.ownsRow B e size v n xs := by
  refine ⟨h.1, ?_⟩
  rcases h.2 with h2 | ⟨g', cap, cur, hv, hb, hh, r⟩
  · exact .inl h2
  · exact .inr ⟨g', cap, cur, hv, hb, (m.block g' (Array.getElem?_eq_some_iff.1 hh).1 (hS g' (by rw [hv]; rfl))).trans hh, r⟩
theorem own_typ {w : World} {base e size n : Nat} {v : Value} {xs : List Value} (h : w.ownsRow base e size v n xs) {k : Nat} (e' : v.ownBlock = some k) : base ≤ k ∧ ∃ cs fz, w.heap[k]? = some (.cells cs e fz) := by
  rcases h.2 with ⟨rfl, _⟩ | ⟨g', cap, cur, rfl, hb, hh, _⟩
  · simp [Value.ownBlock] at e'
  · simp [Value.ownBlock] at e'; subst e'; exact ⟨hb, _, _, hh⟩

/-! ### What acts may turn -/
def IsT (w : World) (t k : Nat) : Prop := ∃ cs fz, w.heap[k]? = some (.cells cs t fz)
theorem IsT.ne {w : World} {t t' k : Nat} (h : IsT w t k) (h' : IsT w t' k) : t = t' := by
  obtain ⟨_, _, h⟩ := h
  obtain ⟨_, _, h'⟩ := h'
  rw [h] at h'; injection h' with h'; injection h' with _ e _
/-- Only new blocks, and blocks of these types from base on, have turned. -/
def MY (Z : Nat → Bool) (base : Nat) (w w' : World) : Prop := Mod (fun k => base ≤ k ∧ ∃ t, Z t = true ∧ IsT w t k) w w'
def ZO : Nat → Bool := fun t => t == 65 || t == 46
def ZT : Nat → Bool := fun t => t == 60 || t == 68
def ZU : Nat → Bool := fun t => ZO t || ZT t
theorem MY.of_gr {Z : Nat → Bool} {base : Nat} {w w' : World} (g : Gr w w') : MY Z base w w' := g.mod _
theorem MY.trans {Z : Nat → Bool} {base : Nat} {a b c : World} (h : MY Z base a b) (k : MY Z base b c) : MY Z base a c :=
  Mod.trans h k fun x hx hs => by
    refine ⟨hs.1, ?_⟩
    by_cases hS : base ≤ x ∧ ∃ t, Z t = true ∧ IsT a t x
    · exact hS.2
    · have e := h.block x hx hS
      obtain ⟨t, h1, h2⟩ := hs.2
      refine ⟨t, h1, ?_⟩
      unfold IsT at h2 ⊢
      rwa [e] at h2
theorem MY.gr {Z : Nat → Bool} {base : Nat} {w0 w w' : World} (h : MY Z base w w') (hb : w0.heap.size ≤ base) (G : Gr w0 w) : Gr w0 w' := by
  have M := (G.mod (fun k => w0.heap.size ≤ k)).trans h (fun k hk hs => Nat.le_trans hb hs.1)
  exact ⟨M.os, M.tape, M.output, M.size, fun k hk => M.block k hk (by omega)⟩
theorem MY.u {Z : Nat → Bool} {base : Nat} {w w' : World} (h : MY Z base w w') (hZ : ∀ t, Z t = true → ZU t = true) : MY ZU base w w' := Mod.mono h fun _ _ ⟨h1, t, h2, h3⟩ => ⟨h1, t, hZ t h2, h3⟩
theorem MY.o {base : Nat} {w w' : World} (h : MY ZO base w w') : MY ZU base w w' := h.u fun t e => by unfold ZU; rw [e]; rfl
theorem MY.t {base : Nat} {w w' : World} (h : MY ZT base w w') : MY ZU base w w' := h.u fun t e => by unfold ZU; rw [e]; exact Bool.or_true _
theorem MY.keep {Z : Nat → Bool} {base k t : Nat} {w w' : World} {cs : Array Value} {fz : Nat × Nat} (h : MY Z base w w') (hk : w.heap[k]? = some (.cells cs t fz)) (ht : Z t = false) : w'.heap[k]? = some (.cells cs t fz) := by
  refine (h.block k (Array.getElem?_eq_some_iff.1 hk).1 ?_).trans hk
  rintro ⟨_, t', h1, h2⟩
  have := h2.ne ⟨_, _, hk⟩
  subst this
  rw [ht] at h1; cases h1
theorem MY.kp {Z : Nat → Bool} {base : Nat} {w w' : World} (h : MY Z base w w') (hZ : Z 5 = false) : Kp TB base w w' := Mod.kp h (by
  rintro k ⟨h1, t, h2, h3⟩ ⟨_, h4 | ⟨cs, t', fz, h4, h5⟩⟩
  · omega
  · have := h3.ne ⟨_, _, h4⟩
    subst this
    unfold TB at h5
    have : t = 5 := by simpa using h5
    subst this
    rw [hZ] at h2; cases h2)
/-- Entries of what came in stay. -/
theorem Sl.my {Z : Nat → Bool} {base : Nat} {w w' : World} {A : Option Addr} {L : List Ent} (h : Sl base w A L) (m : MY Z base w w') (hZ : Z 5 = false) (hA : ∀ b off, A = some ⟨b, off, none⟩ → b < base) : Sl base w' A L := by
  obtain ⟨xs, h1, h2⟩ := h
  exact ⟨xs, h1.keep (fun b ⟨off, e⟩ hb => m.block b hb (fun hs => by have := hA b off e; omega)), h2.kp (m.kp hZ)⟩

/-- Ours, wherever its entries lie. -/
def O (base : Nat) (w : World) (g : Nat) (idx term : Int) (L : List Ent) : Prop := ∃ v, LogAt base w g idx term L v
def R (base : Nat) (w : World) (g : Nat) (idx term : Int) (L : List Ent) : Prop := ∃ v, RefAt base w g idx term L v
theorem O.gr {base g : Nat} {w w' : World} {idx term : Int} {L : List Ent} (h : O base w g idx term L) (y : Gr w w') : O base w' g idx term L := by
  obtain ⟨v, h⟩ := h; exact ⟨v, h.gr y⟩
theorem R.gr {base g : Nat} {w w' : World} {idx term : Int} {L : List Ent} (h : R base w g idx term L) (y : Gr w w') : R base w' g idx term L := by
  obtain ⟨v, h⟩ := h; exact ⟨v, h.gr y⟩
theorem O.theirs {base g : Nat} {w w' : World} {idx term : Int} {L : List Ent} (h : O base w g idx term L) (m : MY ZT base w w') : O base w' g idx term L := by
  obtain ⟨v, h⟩ := h
  obtain ⟨ys, h1, h2⟩ := h.row
  refine ⟨v, ⟨m.keep h.blk rfl, h.lo, ⟨ys, own_mod h1 m ?_, h2.kp (m.kp rfl)⟩, h.i0, h.i1, h.len⟩⟩
  rintro k e ⟨_, t, h3, h4⟩
  have := h4.ne (own_typ h1 e).2
  subst this; cases h3
theorem R.ours {base g : Nat} {w w' : World} {idx term : Int} {L : List Ent} (h : R base w g idx term L) (m : MY ZO base w w') : R base w' g idx term L := by
  obtain ⟨v, h⟩ := h
  obtain ⟨ys, h1, h2⟩ := h.row
  refine ⟨v, ⟨m.keep h.blk rfl, h.lo, ⟨ys, own_mod h1 m ?_, h2.kp (m.kp rfl)⟩, h.i0, h.i1, h.len⟩⟩
  rintro k e ⟨_, t, h3, h4⟩
  have := h4.ne (own_typ h1 e).2
  subst this; cases h3
theorem LogAt.my {base g : Nat} {w w' : World} {idx term : Int} {L : List Ent} {v : Value} (h : LogAt base w g idx term L v) (m : Mod (fun b => b = g ∨ v.ownBlock = some b) w w') : MY ZO base w w' :=
  Mod.mono m fun k _ hk => by
    rcases hk with rfl | e
    · exact ⟨h.lo, 65, rfl, _, _, h.blk⟩
    · obtain ⟨ys, h1, _⟩ := h.row
      exact ⟨(own_typ h1 e).1, 46, rfl, (own_typ h1 e).2⟩
theorem RefAt.my {base g : Nat} {w w' : World} {idx term : Int} {L : List Ent} {v : Value} (h : RefAt base w g idx term L v) (m : Mod (fun b => b = g ∨ v.ownBlock = some b) w w') : MY ZT base w w' :=
  Mod.mono m fun k _ hk => by
    rcases hk with rfl | e
    · exact ⟨h.lo, 60, rfl, _, _, h.blk⟩
    · obtain ⟨ys, h1, _⟩ := h.row
      exact ⟨(own_typ h1 e).1, 68, rfl, (own_typ h1 e).2⟩
theorem LogAt.myg {base g : Nat} {w w' : World} {idx term : Int} {L : List Ent} {v : Value} (h : LogAt base w g idx term L v) (m : Mod (fun b => b = g) w w') : MY ZO base w w' := h.my (m.mono fun _ _ e => .inl e)
theorem RefAt.myg {base g : Nat} {w w' : World} {idx term : Int} {L : List Ent} {v : Value} (h : RefAt base w g idx term L v) (m : Mod (fun b => b = g) w w') : MY ZT base w w' := h.my (m.mono fun _ _ e => .inl e)
/-- Another row stands there. -/
theorem LogAt.putI {base g : Nat} {idx term : Int} {L M : List Ent} {v v' : Value} {w w2 : World} {xs : List Value} (h : LogAt base w g idx term L v) (hb : w2.heap[g]? = w.heap[g]?) (hm : M.length ≤ 4398046511103)
    (ho : w2.ownsRow base 46 2 v' M.length xs) (he : Ents base w2 xs M) : LogAt base (w2.setCell ⟨g, 2, none⟩ v') g idx term M v' := by
  have hg : w2.heap[g]? = Option.some (.cells #[.int .i64 idx, .int .i64 term, v] 65 (0, 0)) := hb.trans h.blk
  have m : Mod (fun b => b = g) w2 (w2.setCell ⟨g, 2, none⟩ v') := ((Gr.refl w2).mod (fun b => b = g)).set (p := ⟨g, 2, none⟩) (fun _ => rfl) v'
  have hk : Kp TB base w2 (w2.setCell ⟨g, 2, none⟩ v') := m.kp (by
    rintro k rfl ⟨_, h1 | ⟨cs', t, fz, h1, h2⟩⟩
    · have := h.lo; omega
    · rw [hg] at h1; injection h1 with h1; injection h1 with _ ht _; subst ht; cases h2)
  refine ⟨by rw [heap_set _ _ _ _ _ _ _ hg]; rfl, h.lo, ⟨xs, own_mod ho m ?_, he.kp hk⟩, h.i0, h.i1, hm⟩
  rintro k e rfl
  have := IsT.ne (own_typ ho e).2 ⟨_, _, hg⟩
  cases this
end Go.Proofs.Ythiahnpijdkboaa
