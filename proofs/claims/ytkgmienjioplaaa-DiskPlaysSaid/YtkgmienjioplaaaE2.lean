import Derived.Test.YtkgmienjioplaaaE1
namespace Go.Proofs.Ytkgmienjioplaaa
open Go.RowKit Go.Ext Go.BigFrame
attribute [local go_sem] Ext.cell Ext.frozen Ext.lt Ext.le s1 s2 s3 s4 s5 s6 t1 t2 t3 t4 t5 t6
attribute [local go_sem ↓] Go.wp_at_zero Go.wp_at_succ

/-- The cells read as pending writes. -/
def EntsT (T : Nat → TypeId → Bool) (base : Nat) (w : World) (xs : List Value) (L : List Ent) : Prop :=
  xs.length = L.length * 2 ∧ ∀ i, i < L.length → xs[i * 2]? = some (.int .i64 (L.getD i (0, [])).1) ∧ ∃ d, xs[i * 2 + 1]? = some d ∧ Byt T base w d (L.getD i (0, [])).2
theorem EntsT.kp {T : Nat → TypeId → Bool} {base : Nat} {w w' : World} {xs : List Value} {L : List Ent} (h : EntsT T base w xs L) (k : Kp T base w w') : EntsT T base w' xs L :=
  ⟨h.1, fun i hi => ⟨(h.2 i hi).1, by obtain ⟨d, h1, h2⟩ := (h.2 i hi).2; exact ⟨d, h1, h2.kp k⟩⟩⟩
theorem entsT_nil (T : Nat → TypeId → Bool) (base : Nat) (w : World) : EntsT T base w [] [] := ⟨rfl, fun i hi => absurd hi (by simp)⟩
theorem entsT_snoc {T : Nat → TypeId → Bool} {base : Nat} {w : World} {xs : List Value} {L : List Ent} {d : Value} {e : Ent} (h : EntsT T base w xs L) (hd : Byt T base w d e.2) : EntsT T base w (xs ++ [.int .i64 e.1, d]) (L ++ [e]) := by
  refine ⟨by simp [h.1]; omega, fun i hi => ?_⟩
  have hx := h.1
  rw [List.length_append, List.length_singleton] at hi
  by_cases hlt : i < L.length
  · obtain ⟨e1, d', e2, e3⟩ := h.2 i hlt
    have g : (L ++ [e]).getD i (0, []) = L.getD i (0, []) := by simp [List.getD, List.getElem?_append_left hlt]
    rw [g]
    exact ⟨by rw [List.getElem?_append_left (by omega)]; exact e1, d', by rw [List.getElem?_append_left (by omega)]; exact e2, e3⟩
  · have hi' : i = L.length := by omega
    subst hi'
    have g : (L ++ [e]).getD L.length (0, []) = e := by simp [List.getD]
    rw [g]
    refine ⟨?_, d, ?_, hd⟩
    · rw [List.getElem?_append_right (by omega), hx]; simp
    · rw [List.getElem?_append_right (by omega), hx]; simp

/-- The document's disk; kb: where the sectors of the other disk lie. -/
structure RkAt (base : Nat) (w : World) (rg rkb kb : Nat) (off : Bool) (armed : Int) (keep : Value) (S sz : Nat) (K : List UInt8) (P : List Ent) (pend : Value) (writes : Int) : Prop where
  rb : RB w rg rkb S sz (S * sz) pend off armed keep writes
  kept : KB w rkb K
  size : K.length = S * sz
  s1 : 1 ≤ S
  s2 : S ≤ 16384
  z1 : 64 ≤ sz
  z2 : sz ≤ 1024
  row : ∃ ys, w.ownsRow base 77 2 pend P.length ys ∧ EntsT (TR kb rkb) base w ys P
  len : P.length ≤ 4398046511103
  sect : ∀ j, j < P.length → 0 ≤ (P.getD j (0, [])).1 ∧ (P.getD j (0, [])).1 < S ∧ (P.getD j (0, [])).2.length = sz
  lg : base ≤ rg
  lk : base ≤ rkb
section
variable {base : Nat} {w w' : World} {rg rkb kb : Nat} {off : Bool} {armed : Int} {keep : Value} {S sz : Nat} {K : List UInt8} {P : List Ent} {pend : Value} {writes : Int}
theorem RkAt.max (h : RkAt base w rg rkb kb off armed keep S sz K P pend writes) : S * sz ≤ 16777216 := Nat.mul_le_mul h.s2 h.z2
theorem RkAt.gr (h : RkAt base w rg rkb kb off armed keep S sz K P pend writes) (k : Gr w w') : RkAt base w' rg rkb kb off armed keep S sz K P pend writes := by
  obtain ⟨ys, h1, h2⟩ := h.row
  exact ⟨h.rb.gr k, (k.block rkb (Array.getElem?_eq_some_iff.1 h.kept).1).trans h.kept, h.size, h.s1, h.s2, h.z1, h.z2, ⟨ys, own_gr h1 k, h2.kp k.kp⟩, h.len, h.sect, h.lg, h.lk⟩
theorem RkAt.ne (h : RkAt base w rg rkb kb off armed keep S sz K P pend writes) : rkb ≠ rg := by
  have h1 := h.rb
  have h2 := h.kept
  rintro rfl
  unfold RB at h1
  unfold KB at h2
  rw [h1] at h2
  injection h2 with h2
  injection h2 with _ ht _
  cases ht
theorem RkAt.klt (h : RkAt base w rg rkb kb off armed keep S sz K P pend writes) : rkb < w.heap.size := (Array.getElem?_eq_some_iff.1 h.kept).1
theorem RkAt.shape (h : RkAt base w rg rkb kb off armed keep S sz K P pend writes) : ∃ A c, pend = .slice A P.length c := by
  obtain ⟨ys, h1, _⟩ := h.row
  rcases h1.2 with ⟨rfl, h0⟩ | ⟨g, cap, cur, rfl, _⟩
  · exact ⟨none, 0, by rw [h0]⟩
  · exact ⟨_, _, rfl⟩
theorem rnot_imm {T : Nat → TypeId → Bool} {q t : Nat} {cs : Array Value} {fz : Nat × Nat} (hq : w.heap[q]? = some (.cells cs t fz)) (hlo : base ≤ q) (hT : T q t = false) : ¬ Imm T base w q := by
  rintro ⟨_, h1 | ⟨cs', t', fz', h1, h2⟩⟩
  · omega
  · rw [hq] at h1
    injection h1 with h1
    injection h1 with _ e _
    subst e
    rw [hT] at h2
    cases h2
/-- Bytes that stay do not lie in the sectors. -/
theorem Byt.rne {d : Option Addr} {m c : Nat} {bs : List UInt8} (h : Byt (TR kb rkb) base w (.slice d m c) bs) (hb : bs ≠ []) (hk : KB w rkb K) (hlo : base ≤ rkb) : ∀ b o, d = some ⟨b, o, none⟩ → b ≠ rkb := by
  obtain ⟨A, c', e, _, _, hi, _⟩ := h
  injection e with e _ _
  subst e
  obtain ⟨b, o, rfl, him⟩ := hi hb
  rintro b' o' e rfl
  injection e with e
  injection e with e _
  subst e
  exact rnot_imm (T := TR kb b) hk hlo (by simp [TR]) him
/-- A pending write, read off the cells. -/
theorem RkAt.ent (h : RkAt base w rg rkb kb off armed keep S sz K P pend writes) {A : Option Addr} {m c : Nat} (hp : pend = .slice A m c) {j : Nat} (hj : j < P.length) :
    ∃ b D dc, A = some ⟨b, 0, none⟩ ∧ w.cell? ⟨b, j * 2, none⟩ = some (.int .i64 (P.getD j (0, [])).1) ∧ w.cell? ⟨b, j * 2 + 1, none⟩ = some (.slice D (P.getD j (0, [])).2.length dc) ∧ Byt (TR kb rkb) base w (.slice D (P.getD j (0, [])).2.length dc) (P.getD j (0, [])).2 ∧ b < w.heap.size ∧ (∃ cs, w.heap[b]? = some (.cells cs 77 (0, 0))) := by
  obtain ⟨ys, h1, h2⟩ := h.row
  subst hp
  obtain ⟨e1, d, e2, e3⟩ := h2.2 j hj
  obtain ⟨D, dc, rfl, _⟩ := id e3
  rcases id h1.2 with ⟨_, h0⟩ | ⟨g, cap, cur, hv, hb, hh, _⟩
  · omega
  · injection hv with hv _ _
    subst hv
    have c1 := h1.cells (g := g) rfl _ _ e1
    have c2 := h1.cells (g := g) rfl _ _ e2
    have hadd : ∀ k, (⟨g, 0, none⟩ : Addr).add k = ⟨g, k, none⟩ := fun k => by unfold Addr.add; split <;> simp_all
    rw [hadd] at c1 c2
    exact ⟨g, D, dc, rfl, c1, c2, e3, (Array.getElem?_eq_some_iff.1 hh).1, _, hh⟩
/-- The sectors' bytes have turned. -/
theorem RkAt.laid (h : RkAt base w rg rkb kb off armed keep S sz K P pend writes) (m : Mod (fun b => b = rkb) w w') {K' : List UInt8} (hk : KB w' rkb K') (hl : K'.length = S * sz) : RkAt base w' rg rkb kb off armed keep S sz K' P pend writes := by
  obtain ⟨ys, h1, h2⟩ := h.row
  refine ⟨(m.block rg h.rb.lt (Ne.symm h.ne)).trans h.rb, hk, hl, h.s1, h.s2, h.z1, h.z2, ⟨ys, own_mod h1 m (fun k hk e => own_ne h1 h.kept (by decide) (e ▸ hk.symm)), h2.kp (m.kp ?_)⟩, h.len, h.sect, h.lg, h.lk⟩
  rintro k rfl
  exact rnot_imm h.kept h.lk (by simp [TR])
end
end Go.Proofs.Ytkgmienjioplaaa
