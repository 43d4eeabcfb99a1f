import Derived.Test.YtkgmienjioplaaaW1
namespace Go.Proofs.Ytkgmienjioplaaa
open Go.RowKit Go.Ext Go.BigFrame
attribute [local go_sem] Ext.cell Ext.frozen Ext.lt Ext.le s1 s2 s3 s4 s5 s6 t1 t2 t3 t4 t5 t6
attribute [local go_sem ↓] Go.wp_at_zero Go.wp_at_succ

/-- A pending write: its sector, its bytes. -/
abbrev Ent := Int × List UInt8
/-- The cells read as pending writes. -/
def Ents (kb base : Nat) (w : World) (xs : List Value) (L : List Ent) : Prop :=
  xs.length = L.length * 2 ∧ ∀ i, i < L.length → xs[i * 2]? = some (.int .i64 (L.getD i (0, [])).1) ∧ ∃ d, xs[i * 2 + 1]? = some d ∧ Byt (TK kb) base w d (L.getD i (0, [])).2
theorem Ents.kp {kb base : Nat} {w w' : World} {xs : List Value} {L : List Ent} (h : Ents kb base w xs L) (k : Kp (TK kb) base w w') : Ents kb base w' xs L :=
  ⟨h.1, fun i hi => ⟨(h.2 i hi).1, by obtain ⟨d, h1, h2⟩ := (h.2 i hi).2; exact ⟨d, h1, h2.kp k⟩⟩⟩
/-- A slice that reads as pending writes. -/
def Sl (kb base : Nat) (w : World) (A : Option Addr) (L : List Ent) : Prop := ∃ xs, Rd w A xs ∧ Ents kb base w xs L
theorem Sl.gr {kb base : Nat} {w w' : World} {A : Option Addr} {L : List Ent} (h : Sl kb base w A L) (g : Gr w w') : Sl kb base w' A L := by
  obtain ⟨xs, h1, h2⟩ := h
  exact ⟨xs, h1.gr g, h2.kp g.kp⟩
theorem Sl.at_ {kb base : Nat} {w : World} {A : Option Addr} {L : List Ent} (h : Sl kb base w A L) {i : Nat} (hi : i < L.length) :
    ∃ b off D c, A = some ⟨b, off, none⟩ ∧ w.cell? ⟨b, off + i * 2, none⟩ = some (.int .i64 (L.getD i (0, [])).1) ∧ w.cell? ⟨b, off + i * 2 + 1, none⟩ = some (.slice D (L.getD i (0, [])).2.length c) ∧ Byt (TK kb) base w (.slice D (L.getD i (0, [])).2.length c) (L.getD i (0, [])).2 ∧ b < w.heap.size := by
  obtain ⟨xs, h1, h2⟩ := h
  obtain ⟨e1, d, e2, e3⟩ := h2.2 i hi
  obtain ⟨b, off, rfl, hc⟩ := h1 (by rintro rfl; simp at e1)
  obtain ⟨D, c, rfl, _⟩ := id e3
  exact ⟨b, off, D, c, rfl, hc _ _ e1, hc _ _ e2, e3, World.block_lt_of_cell? w _ (hc _ _ e1)⟩

theorem own_gr {w w' : World} {B e size n : Nat} {v : Value} {xs : List Value} (h : w.ownsRow B e size v n xs) (g : Gr w w') : w'.ownsRow B e size v n xs := by
  refine ⟨h.1, ?_⟩
  rcases h.2 with h2 | ⟨g', cap, cur, hv, hb, hh, r⟩
  · exact .inl h2
  · exact .inr ⟨g', cap, cur, hv, hb, (g.block g' (Array.getElem?_eq_some_iff.1 hh).1).trans hh, r⟩
theorem own_not_imm {w : World} {T : Nat → TypeId → Bool} {base B e size n : Nat} {v : Value} {xs : List Value} (h : w.ownsRow B e size v n xs) (hB : base ≤ B) (he : ∀ b, T b e = false) : ∀ k, v.ownBlock = some k → ¬ Imm T base w k := by
  intro k hk hi
  rcases h.2 with ⟨rfl, _⟩ | ⟨g, cap, cur, rfl, hb, hh, _⟩
  · simp [Value.ownBlock] at hk
  · simp [Value.ownBlock] at hk
    subst hk
    rcases hi.2 with h1 | ⟨cs, t, fz, h1, h2⟩
    · omega
    · rw [hh] at h1
      injection h1 with h1
      injection h1 with _ ht
      rw [← ht, he] at h2
      cases h2

theorem ents_nil (kb base : Nat) (w : World) : Ents kb base w [] [] := ⟨rfl, fun i hi => absurd hi (by simp)⟩
theorem ents_snoc {kb base : Nat} {w : World} {xs : List Value} {L : List Ent} {d : Value} {e : Ent} (h : Ents kb base w xs L) (hd : Byt (TK kb) base w d e.2) : Ents kb base w (xs ++ [.int .i64 e.1, d]) (L ++ [e]) := by
  refine ⟨by simp [h.1]; omega, fun i hi => ?_⟩
  have hx := h.1
  rw [List.length_append, List.length_singleton] at hi
  by_cases hlt : i < L.length
  · obtain ⟨e1, d', e2, e3⟩ := h.2 i hlt
    have g : (L ++ [e]).getD i (0, []) = L.getD i (0, []) := by simp [List.getD, List.getElem?_append_left hlt]
    rw [g]
    exact ⟨by rw [List.getElem?_append_left (by omega)]; exact e1, d', by rw [List.getElem?_append_left (by omega)]; exact e2, e3⟩
  · have hi' : i = L.length := by omega
    subst hi'
    have g : (L ++ [e]).getD L.length (0, []) = e := by simp [List.getD]
    rw [g]
    refine ⟨?_, d, ?_, hd⟩
    · rw [List.getElem?_append_right (by omega), hx]; simp
    · rw [List.getElem?_append_right (by omega), hx]; simp

/-- A slice of the call's own that reads as pending writes. -/
def OwnE (kb base B : Nat) (w : World) (v : Value) (L : List Ent) : Prop := ∃ ys, w.ownsRow B 67 2 v L.length ys ∧ Ents kb base w ys L
theorem OwnE.gr {kb base B : Nat} {w w' : World} {v : Value} {L : List Ent} (h : OwnE kb base B w v L) (g : Gr w w') : OwnE kb base B w' v L := by
  obtain ⟨ys, h1, h2⟩ := h
  exact ⟨ys, own_gr h1 g, h2.kp g.kp⟩
theorem take_snoc (L : List Ent) (k : Nat) (hk : k < L.length) : L.take (k + 1) = L.take k ++ [L.getD k (0, [])] := by
  rw [List.take_succ_eq_append_getElem hk]
  simp [List.getD, hk]
/-- One more entry has been appended. -/
theorem own_step {kb base B k : Nat} {w1 w2 : World} {v v' d : Value} {L : List Ent} {ys : List Value} {e : Int} {bs : List UInt8} (hk : k < L.length) (hL : L.getD k (0, []) = (e, bs)) (hB : base ≤ B) (hown : w1.ownsRow B 67 2 v (L.take k).length ys) (he : Ents kb base w1 ys (L.take k))
    (hd : Byt (TK kb) base w1 d bs) (hown' : w2.ownsRow B 67 2 v' ((L.take k).length + 1) (ys ++ [.int .i64 e, d])) (hg : w1.grownBy w2 v.ownBlock) : OwnE kb base B w2 v' (L.take (k + 1)) := by
  have hkp : Kp (TK kb) base w1 w2 := Kp.grown (Kp.refl _ _ _) hg (own_not_imm hown hB (fun _ => rfl))
  refine ⟨ys ++ [.int .i64 e, d], ?_, ?_⟩
  · rw [take_snoc L k hk, List.length_append]
    exact hown'
  · rw [take_snoc L k hk, hL]
    exact ents_snoc (e := (e, bs)) (he.kp hkp) (hd.kp hkp)

theorem own_base {w : World} {B B' e size n : Nat} {v : Value} {xs : List Value} (h : w.ownsRow B e size v n xs) (hB : B' ≤ B) : w.ownsRow B' e size v n xs := by
  refine ⟨h.1, ?_⟩
  rcases h.2 with h2 | ⟨g', cap, cur, hv, hb, r⟩
  · exact .inl h2
  · exact .inr ⟨g', cap, cur, hv, Nat.le_trans hB hb, r⟩
theorem heap_set (w : World) (g : Nat) (i : Nat) (cs : Array Value) (t : TypeId) (fz : Nat × Nat) (u : Value) (h : w.heap[g]? = some (.cells cs t fz)) : (w.setCell ⟨g, i, none⟩ u).heap[g]? = some (.cells (cs.setIfInBounds i u) t fz) := by
  obtain ⟨hlt, he⟩ := Array.getElem?_eq_some_iff.1 h
  have : g < (w.setCell ⟨g, i, none⟩ u).heap.size := by simpa [World.setCell] using hlt
  rw [Array.getElem?_eq_getElem this]
  simp [World.setCell, Array.getElem_modify_self, he]

/-- A disk's block: whether it is off, when it goes, what is kept then, the sectors' size, where the sectors lie, what is pending, how many writes there were. -/
def DB (w : World) (g kb : Nat) (off : Bool) (armed : Int) (keep : Value) (sz n : Nat) (pend : Value) (writes : Int) : Prop :=
  w.heap[g]? = some (.cells #[.bool off, .int .i64 armed, keep, .int .i64 sz, .slice (some ⟨kb, 0, none⟩) n n, pend, .int .i64 writes] 35 (0, 0))
section
variable {w w' : World} {g kb : Nat} {off : Bool} {armed : Int} {keep : Value} {sz n : Nat} {pend : Value} {writes : Int}
theorem DB.lt (h : DB w g kb off armed keep sz n pend writes) : g < w.heap.size := (Array.getElem?_eq_some_iff.1 h).1
theorem DB.gr (h : DB w g kb off armed keep sz n pend writes) (k : Gr w w') : DB w' g kb off armed keep sz n pend writes := (k.block g h.lt).trans h
theorem DB.cell (h : DB w g kb off armed keep sz n pend writes) (i : Nat) : w.cell? ⟨g, i, none⟩ = (#[.bool off, .int .i64 armed, keep, .int .i64 sz, .slice (some ⟨kb, 0, none⟩) n n, pend, .int .i64 writes] : Array Value)[i]? := cell_of_row w g i _ 35 (0, 0) h
theorem DB.frozen (h : DB w g kb off armed keep sz n pend writes) (i : Nat) : w.frozen? ⟨g, i, none⟩ = false := by
  unfold DB at h
  simp [World.frozen?, h]

set_option maxHeartbeats 1000000 in
theorem shape_any (S : Nat) (h : DB w g kb off armed keep sz n pend writes) (hS : n = S * sz) (hz : 0 < sz) (hb : n ≤ 16777216) :
    Calls Try.prog 28 #[.pointer (some ⟨g, 0, none⟩)] w (RetE (.tuple #[.int .i64 S, .int .i64 sz]) w) := by
  refine retE ?_
  have c3 := h.cell 3
  have c4 := h.cell 4
  have hlt := h.lt
  simp at c3 c4
  clear h
  have hq : ((n : Int)).tdiv (sz : Int) = (S : Int) := by
    rw [hS, Int.natCast_mul]
    exact Int.mul_tdiv_cancel _ (by omega)
  have hz' : ((sz : Int) == 0) = false := by simp; omega
  have hSb : S ≤ n := by rw [hS]; exact Nat.le_mul_of_pos_right _ hz
  clear hS
  go_enter Try.func28, Try.ntmps28
  go_wp2_with fail
  refine wp_region_ext (by kernel_rfl) (by kernel_rfl) ?_
  repeat (go_big_quiet_step (fail))
  refine wpQuiet_nil ?_
  rintro _ ⟨x, rfl⟩
  go_wp2_with fail
  go_ret2
  exact ⟨rfl, x.gr⟩

theorem off_any (h : DB w g kb off armed keep sz n pend writes) : Calls Try.prog 21 #[.pointer (some ⟨g, 0, none⟩)] w (RetE (.bool off) w) := by
  refine retE ?_
  have c0 := h.cell 0
  have hlt := h.lt
  simp at c0
  clear h
  go_enter Try.func21, Try.ntmps21
  go_wp2_with fail
  go_ret
  exact ⟨rfl, Gr.refl _⟩
theorem writes_any (h : DB w g kb off armed keep sz n pend writes) : Calls Try.prog 14 #[.pointer (some ⟨g, 0, none⟩)] w (RetE (.int .i64 writes) w) := by
  refine retE ?_
  have c0 := h.cell 6
  have hlt := h.lt
  simp at c0
  clear h
  go_enter Try.func14, Try.ntmps14
  go_wp2_with fail
  go_ret
  exact ⟨rfl, Gr.refl _⟩
theorem pending_any {A : Option Addr} {m c : Nat} (h : DB w g kb off armed keep sz n (.slice A m c) writes) : Calls Try.prog 19 #[.pointer (some ⟨g, 0, none⟩)] w (RetE (.int .i64 m) w) := by
  refine retE ?_
  have c0 := h.cell 5
  have hlt := h.lt
  simp at c0
  clear h
  go_enter Try.func19, Try.ntmps19
  go_wp2_with fail
  go_ret
  exact ⟨rfl, Gr.refl _⟩
end
end Go.Proofs.Ytkgmienjioplaaa
