import Derived.Test.YtlencagfkajcnaaF2
import Derived.Test.YtlencagfkajcnaaN7
namespace Go.Proofs.Ytlencagfkajcnaa
open Go.RowKit Go.Ext Go.BigFrame Go.Maps
attribute [local go_sem] Ext.cell Ext.frozen Ext.lt Ext.le s1 s2 s3 s4 s5 s6 t1 t2 t3 t4 t5 t6
attribute [local go_sem ↓] Go.wp_at_zero Go.wp_at_succ

/-- The cells of pairs. -/
def cs2 (C : List (Int × Int)) : List Value := C.flatMap fun c => [.int .i64 c.1, .int .i64 c.2]
abbrev c0 : Int × Int := (0, 0)
theorem cs2_length : ∀ C : List (Int × Int), (cs2 C).length = C.length * 2
  | [] => rfl
  | x :: r => by
    have := cs2_length r
    simp only [cs2, List.flatMap_cons, List.length_append, List.length_cons, List.length_nil] at this ⊢
    omega
theorem cs2_app (C D : List (Int × Int)) : cs2 (C ++ D) = cs2 C ++ cs2 D := by simp [cs2]
theorem cs2_get : ∀ (C : List (Int × Int)) (i : Nat), i < C.length → (cs2 C)[i * 2]? = some (.int .i64 (C.getD i c0).1) ∧ (cs2 C)[i * 2 + 1]? = some (.int .i64 (C.getD i c0).2)
  | [], i, h => by simp at h
  | x :: r, 0, _ => by simp [cs2]
  | x :: r, i + 1, h => by
    have := cs2_get r i (by simpa using h)
    simp only [cs2, List.flatMap_cons, List.getD_cons_succ] at this ⊢
    rw [List.getElem?_append_right (by simp; omega), List.getElem?_append_right (by simp; omega)]
    simp only [List.length_cons, List.length_nil]
    rw [show (i + 1) * 2 - (0 + 1 + 1) = i * 2 by omega, show (i + 1) * 2 + 1 - (0 + 1 + 1) = i * 2 + 1 by omega]
    exact this
theorem cs2_one (C : List (Int × Int)) : ∀ u ∈ cs2 C, u.oneCell' = true := by
  intro u hu
  obtain ⟨x, _, h⟩ := List.mem_flatMap.1 hu
  simp only [List.mem_cons, List.not_mem_nil, or_false] at h
  rcases h with rfl | rfl <;> rfl

/-- Which pairs are cut. -/
def cutL (C : List (Int × Int)) : Int × Int → Bool := fun y => C.any fun c => decide (pr c.1 c.2 = y)
theorem cutL_app (C : List (Int × Int)) (a b : Int) : cutL (C ++ [(a, b)]) = cutS (cutL C) a b := by
  funext y
  unfold cutL cutS
  rw [List.any_append, Bool.or_comm]
  simp [eq_comm]
theorem cutL_has (C : List (Int × Int)) (a b : Int) (h : cutL C (pr a b) = true) : cutS (cutL C) a b = cutL C := by
  funext y
  unfold cutS
  by_cases e : y = pr a b
  · subst e; rw [h]; simp
  · rw [decide_eq_false e, Bool.false_or]

/-- The document's net at g. -/
structure RB (base : Nat) (w : World) (g : Nat) (nodes sent : Int) (v vc : Value) (L : List It) (C : List (Int × Int)) (P : List Pk) : Prop where
  lo : base ≤ g
  cell : w.heap[g]? = some (.cells #[.int .i64 nodes, .int .i64 sent, v, vc] 53 (0, 0))
  row : w.ownsRow base 71 4 v L.length (cs6 L)
  cuts : w.ownsRow base 66 2 vc C.length (cs2 C)
  hn : 1 ≤ nodes ∧ nodes ≤ 9
  dat : Dat base w L P
/-- A block of the document's own kinds. -/
def TheirT (w : World) (k : Nat) : Prop := (∃ cs fz, w.heap[k]? = some (.cells cs 53 fz)) ∨ (∃ cs fz, w.heap[k]? = some (.cells cs 71 fz)) ∨ ∃ cs fz, w.heap[k]? = some (.cells cs 66 fz)
/-- Only new blocks, and the document's own kinds from base on, have turned. -/
def MR (base : Nat) (w w' : World) : Prop := Mod (fun k => base ≤ k ∧ TheirT w k) w w'
theorem MR.of_gr {base : Nat} {w w' : World} (g : Gr w w') : MR base w w' := g.mod _
theorem MR.trans {base : Nat} {a b c : World} (h : MR base a b) (k : MR base b c) : MR base a c :=
  Mod.trans h k fun x hx hs => by
    refine ⟨hs.1, ?_⟩
    by_cases hS : base ≤ x ∧ TheirT a x
    · exact hS.2
    · have e := h.block x hx hS
      have := hs.2
      unfold TheirT at this ⊢
      rwa [e] at this
theorem MR.gr {base : Nat} {w0 w w' : World} (h : MR base w w') (hb : w0.heap.size ≤ base) (G : Gr w0 w) : Gr w0 w' := by
  have M := (G.mod (fun k => w0.heap.size ≤ k)).trans h (fun k hk hs => Nat.le_trans hb hs.1)
  exact ⟨M.os, M.tape, M.output, M.size, fun k hk => M.block k hk (by omega)⟩

theorem own_no {w : World} {base e size n : Nat} {v : Value} {xs : List Value} (h : w.ownsRow base e size v n xs) {k t : Nat} {cs : Array Value} {fz : Nat × Nat} (hk : w.heap[k]? = some (.cells cs t fz)) (ht : t ≠ e) : v.ownBlock ≠ some k := by
  intro e'
  rcases h.2 with ⟨rfl, _⟩ | ⟨g', cap, cur, rfl, _, hh, _⟩
  · simp [Value.ownBlock] at e'
  · simp [Value.ownBlock] at e'; subst e'; rw [hk] at hh; injection hh with hh; injection hh with _ h2 _; exact ht h2
theorem own_typ {w : World} {base e size n : Nat} {v : Value} {xs : List Value} (h : w.ownsRow base e size v n xs) {k : Nat} (e' : v.ownBlock = some k) : base ≤ k ∧ ∃ cs fz, w.heap[k]? = some (.cells cs e fz) := by
  rcases h.2 with ⟨rfl, _⟩ | ⟨g', cap, cur, rfl, hb, hh, _⟩
  · simp [Value.ownBlock] at e'
  · simp [Value.ownBlock] at e'; subst e'; exact ⟨hb, _, _, hh⟩
section
variable {base g : Nat} {w w' : World} {nodes sent : Int} {v vc : Value} {L : List It} {C : List (Int × Int)} {P : List Pk}
theorem RB.shape (h : RB base w g nodes sent v vc L C P) : ∃ A c, v = .slice A L.length c := own_shape h.row
theorem RB.shapeC (h : RB base w g nodes sent v vc L C P) : ∃ A c, vc = .slice A C.length c := own_shape h.cuts
theorem RB.lt (h : RB base w g nodes sent v vc L C P) : g < w.heap.size := (Array.getElem?_eq_some_iff.1 h.cell).1
theorem RB.cs (h : RB base w g nodes sent v vc L C P) : w.cell? ⟨g, 0, none⟩ = some (.int .i64 nodes) ∧ w.cell? ⟨g, 1, none⟩ = some (.int .i64 sent) ∧ w.cell? ⟨g, 2, none⟩ = some v ∧ w.cell? ⟨g, 3, none⟩ = some vc ∧ w.frozen? ⟨g, 1, none⟩ = false ∧ w.frozen? ⟨g, 2, none⟩ = false ∧ w.frozen? ⟨g, 3, none⟩ = false := by
  obtain ⟨a, b, c, d, _, e, f, k⟩ := heap4 h.cell
  exact ⟨a, b, c, d, e, f, k⟩
theorem RB.ne (h : RB base w g nodes sent v vc L C P) : v.ownBlock ≠ some g := own_no h.row h.cell (by decide)
theorem RB.neC (h : RB base w g nodes sent v vc L C P) : vc.ownBlock ≠ some g := own_no h.cuts h.cell (by decide)
theorem RB.apart (h : RB base w g nodes sent v vc L C P) {k : Nat} (e : v.ownBlock = some k) : vc.ownBlock ≠ some k := by
  obtain ⟨_, cs, fz, hk⟩ := own_typ h.row e
  exact own_no h.cuts hk (by decide)
theorem RB.mod {Z : Nat → Prop} (h : RB base w g nodes sent v vc L C P) (m : Mod Z w w') (h1 : ¬ Z g) (h2 : ∀ k, v.ownBlock = some k → ¬ Z k) (h3 : ∀ k, vc.ownBlock = some k → ¬ Z k) (h5 : ∀ k, (∃ cs fz, w.heap[k]? = some (.cells cs 5 fz)) → ¬ Z k) : RB base w' g nodes sent v vc L C P :=
  ⟨h.lo, (m.block g h.lt h1).trans h.cell, own_mod h.row m h2, own_mod h.cuts m h3, h.hn, Dat.mod m h5 h.dat⟩
theorem RB.gr (h : RB base w g nodes sent v vc L C P) (y : Gr w w') : RB base w' g nodes sent v vc L C P := h.mod (y.mod fun _ => False) (fun e => e) (fun _ _ e => e) (fun _ _ e => e) (fun _ _ e => e)
theorem RB.mr (h : RB base w g nodes sent v vc L C P) (m : Mod (fun k => k = g ∨ v.ownBlock = some k ∨ vc.ownBlock = some k) w w') : MR base w w' :=
  Mod.mono m fun k _ hk => by
    rcases hk with rfl | e | e
    · exact ⟨h.lo, .inl ⟨_, _, h.cell⟩⟩
    · obtain ⟨hb, hh⟩ := own_typ h.row e
      exact ⟨hb, .inr (.inl hh)⟩
    · obtain ⟨hb, hh⟩ := own_typ h.cuts e
      exact ⟨hb, .inr (.inr hh)⟩
/-- Another row stands there. -/
theorem RB.put {L8 : List It} {v8 : Value} {P8 : List Pk} (h : RB base w g nodes sent v vc L C P) (hr : w.ownsRow base 71 4 v8 L8.length (cs6 L8)) (hd : Dat base w L8 P8) : RB base (w.setCell ⟨g, 2, none⟩ v8) g nodes sent v8 vc L8 C P8 := by
  have m := ((Gr.refl w).mod (fun b => b = g)).set (p := ⟨g, 2, none⟩) (fun _ => rfl) v8
  refine ⟨h.lo, ?_, own_mod hr m ?_, own_mod h.cuts m ?_, h.hn, Dat.mod m (not5 h.cell (by decide)) hd⟩
  · have := set1_heap h.cell (j := 2) v8
    simpa using this
  · rintro k e rfl; exact own_no hr h.cell (by decide) e
  · rintro k e rfl; exact h.neC e
theorem RB.putC {C8 : List (Int × Int)} {v8 : Value} (h : RB base w g nodes sent v vc L C P) (hr : w.ownsRow base 66 2 v8 C8.length (cs2 C8)) : RB base (w.setCell ⟨g, 3, none⟩ v8) g nodes sent v v8 L C8 P := by
  have m := ((Gr.refl w).mod (fun b => b = g)).set (p := ⟨g, 3, none⟩) (fun _ => rfl) v8
  refine ⟨h.lo, ?_, own_mod h.row m ?_, own_mod hr m ?_, h.hn, Dat.mod m (not5 h.cell (by decide)) h.dat⟩
  · have := set1_heap h.cell (j := 3) v8
    simpa using this
  · rintro k e rfl; exact h.ne e
  · rintro k e rfl; exact own_no hr h.cell (by decide) e
theorem RB.setS (h : RB base w g nodes sent v vc L C P) (s' : Int) : RB base (w.setCell ⟨g, 1, none⟩ (.int .i64 s')) g nodes s' v vc L C P := by
  have m := ((Gr.refl w).mod (fun b => b = g)).set (p := ⟨g, 1, none⟩) (fun _ => rfl) (.int .i64 s')
  refine ⟨h.lo, ?_, own_mod h.row m ?_, own_mod h.cuts m ?_, h.hn, Dat.mod m (not5 h.cell (by decide)) h.dat⟩
  · have := set1_heap h.cell (j := 1) (.int .i64 s')
    simpa using this
  · rintro k e rfl; exact h.ne e
  · rintro k e rfl; exact h.neC e
end
/-- A row that is there lies from its beginning. -/
theorem own_open {w : World} {base e size n : Nat} {v : Value} {xs : List Value} (h : w.ownsRow base e size v n xs) (h0 : 0 < n) :
    ∃ r cap, v = .slice (some ⟨r, 0, none⟩) n cap ∧ n ≤ cap ∧ cap ≤ maxLen ∧ base ≤ r ∧ r < w.heap.size ∧ ∀ j u, xs[j]? = some u → w.cell? ⟨r, j, none⟩ = some u := by
  rcases h.2 with ⟨rfl, h1⟩ | ⟨r, cap, cur, rfl, hb, hh, hc, hm, hs, ht⟩
  · omega
  · refine ⟨r, cap, rfl, hc, hm, hb, (Array.getElem?_eq_some_iff.1 hh).1, fun j u hu => ?_⟩
    rw [← ht, List.getElem?_take] at hu
    split at hu
    · simp [World.cell?, hh]; simpa using hu
    · cases hu
/-- The document's net at g, whatever its blocks. -/
def Rt (base : Nat) (w : World) (g : Nat) (nodes sent : Int) (C : List (Int × Int)) (P : List Pk) : Prop := ∃ v vc L, RB base w g nodes sent v vc L C P
def RetR (base g : Nat) (nodes sent : Int) (C : List (Int × Int)) (P : List Pk) (r : Value) (w : World) (e : Ending) (w' : World) : Prop :=
  e = .returned r ∧ Rt base w' g nodes sent C P ∧ MR base w w'
theorem Rt.gr {base g : Nat} {w w' : World} {nodes sent : Int} {C : List (Int × Int)} {P : List Pk} (h : Rt base w g nodes sent C P) (y : Gr w w') : Rt base w' g nodes sent C P := by
  obtain ⟨v, vc, L, h⟩ := h
  exact ⟨v, vc, L, h.gr y⟩
/-- What ours turns leaves theirs. -/
theorem Rt.ours {base g : Nat} {w w' : World} {nodes sent : Int} {C : List (Int × Int)} {P : List Pk} (h : Rt base w g nodes sent C P) (m : MN base w w') : Rt base w' g nodes sent C P := by
  obtain ⟨v, vc, L, h⟩ := h
  have no : ∀ {t k : Nat}, (∃ cs fz, w.heap[k]? = some (.cells cs t fz)) → t ≠ 58 → t ≠ 33 → ¬ (base ≤ k ∧ OurT w k) := by
    rintro t k ⟨cs, fz, hk⟩ h1 h2 ⟨_, h⟩
    rcases h with ⟨_, _, h'⟩ | ⟨_, _, h'⟩ | ⟨_, _, h'⟩
    · rw [hk] at h'; injection h' with h'; injection h' with _ e _; exact h1 e
    · rw [hk] at h'; injection h' with h'; injection h' with _ e _; exact h2 e
    · rw [hk] at h'; injection h' with h'; cases h'
  exact ⟨v, vc, L, h.mod m (no ⟨_, _, h.cell⟩ (by decide) (by decide)) (fun k e => no (own_typ h.row e).2 (by decide) (by decide)) (fun k e => no (own_typ h.cuts e).2 (by decide) (by decide)) (fun k e => no e (by decide) (by decide))⟩
/-- What theirs turns leaves ours. -/
theorem Nt.theirs {base g n : Nat} {w w' : World} {nodes sent : Int} {S : Int × Int → Bool} {P : List Pk} (h : Nt base w g nodes sent n S P) (m : MR base w w') : Nt base w' g nodes sent n S P := by
  obtain ⟨mb, v, L, h⟩ := h
  have no : ∀ {t k : Nat}, (∃ cs fz, w.heap[k]? = some (.cells cs t fz)) → t ≠ 53 → t ≠ 71 → t ≠ 66 → ¬ (base ≤ k ∧ TheirT w k) := by
    rintro t k ⟨cs, fz, hk⟩ h1 h2 h3 ⟨_, h⟩
    rcases h with ⟨_, _, h'⟩ | ⟨_, _, h'⟩ | ⟨_, _, h'⟩
    · rw [hk] at h'; injection h' with h'; injection h' with _ e _; exact h1 e
    · rw [hk] at h'; injection h' with h'; injection h' with _ e _; exact h2 e
    · rw [hk] at h'; injection h' with h'; injection h' with _ e _; exact h3 e
  refine ⟨mb, v, L, h.mod m (no ⟨_, _, h.cell⟩ (by decide) (by decide) (by decide)) (fun k e => no (own_typ h.row e).2 (by decide) (by decide) (by decide)) ?_ (fun k e => no e (by decide) (by decide) (by decide))⟩
  rintro ⟨_, hm⟩
  obtain ⟨es, c, hmm⟩ := h.mp.isMap
  rcases hm with ⟨_, _, h'⟩ | ⟨_, _, h'⟩ | ⟨_, _, h'⟩ <;> (rw [hmm] at h'; injection h' with h'; cases h')

def RetNewR (base : Nat) (nodes : Int) (w : World) (e : Ending) (w' : World) : Prop := (¬ (1 ≤ nodes ∧ nodes ≤ 9) ∧ e = .returned (.tuple #[.pointer none, .int .i64 1]) ∧ w = w') ∨
    ((1 ≤ nodes ∧ nodes ≤ 9) ∧ ∃ g, e = .returned (.tuple #[.pointer (some ⟨g, 0, none⟩), .int .i64 0]) ∧ Rt base w' g nodes 0 [] [] ∧ Gr w w')
theorem newR_any (nodes : Int) (w : World) (base : Nat) (hb : base ≤ w.heap.size) : Calls Try.prog 16 #[.int .i64 nodes] w (RetNewR base nodes w) := by
  by_cases h1 : nodes < 1
  · go_enter Try.func16, Try.ntmps16
    go_wp2_with fail
    go_ret2
    exact .inl ⟨by omega, rfl, rfl⟩
  · by_cases h2 : 9 < nodes
    · go_enter Try.func16, Try.ntmps16
      go_wp2_with fail
      go_ret2
      exact .inl ⟨by omega, rfl, rfl⟩
    · go_enter Try.func16, Try.ntmps16
      go_wp2_with fail
      go_ret2
      exact .inr ⟨⟨by omega, by omega⟩, w.heap.size, rfl, ⟨.slice none 0 0, .slice none 0 0, [], ⟨hb, heap_alloc_new w _, World.ownsRow_nil _ _ _ _, World.ownsRow_nil _ _ _ _, ⟨by omega, by omega⟩, trivial⟩⟩, (Gr.refl w).alloc _⟩

theorem is_any (g : Nat) (nodes x : Int) (w : World) (hc : w.cell? ⟨g, 0, none⟩ = some (.int .i64 nodes)) : Calls Try.prog 40 #[.pointer (some ⟨g, 0, none⟩), .int .i64 x] w (RetE (.bool (isN nodes x)) w) := by
  have hlt := World.block_lt_of_cell? _ _ hc
  simp only at hlt
  refine retE ?_
  unfold isN
  by_cases h1 : 0 ≤ x
  · rw [decide_eq_true h1, Bool.true_and]
    go_enter Try.func40, Try.ntmps40
    go_wp2_with fail
    go_ret
    exact ⟨rfl, Gr.refl _⟩
  · rw [decide_eq_false h1, Bool.false_and]
    go_enter Try.func40, Try.ntmps40
    go_wp2_with fail
    go_ret
    exact ⟨rfl, Gr.refl _⟩
end Go.Proofs.Ytlencagfkajcnaa
