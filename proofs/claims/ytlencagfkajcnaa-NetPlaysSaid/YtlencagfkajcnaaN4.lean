import Derived.Test.YtlencagfkajcnaaN3
namespace Go.Proofs.Ytlencagfkajcnaa
open Go.RowKit Go.Ext Go.BigFrame Go.Maps
attribute [local go_sem] Ext.cell Ext.frozen Ext.lt Ext.le s1 s2 s3 s4 s5 s6 t1 t2 t3 t4 t5 t6
attribute [local go_sem ↓] Go.wp_at_zero Go.wp_at_succ

/-- A packet. -/
abbrev Pk := Int × Int × Int × List UInt8
abbrev p0 : Pk := (0, 0, 0, [])
def sl (x : It) : Value := .slice x.2.2.2.1 x.2.2.2.2.1 x.2.2.2.2.2
def One (base : Nat) (w : World) (x : It) (p : Pk) : Prop := x.1 = p.1 ∧ x.2.1 = p.2.1 ∧ x.2.2.1 = p.2.2.1 ∧ w.ownsRow base 5 1 (sl x) p.2.2.2.length (bc p.2.2.2) ∧ p.2.2.2.length ≤ 140737488351232
/-- What lies there are these packets. -/
def Dat (base : Nat) (w : World) : List It → List Pk → Prop
  | [], [] => True
  | x :: L, p :: P => One base w x p ∧ Dat base w L P
  | _, _ => False
theorem Dat.len {base : Nat} {w : World} : ∀ {L : List It} {P : List Pk}, Dat base w L P → L.length = P.length
  | [], [], _ => rfl
  | _ :: _, _ :: _, h => by simp [Dat.len h.2]
  | [], _ :: _, h => h.elim
  | _ :: _, [], h => h.elim
theorem Dat.app {base : Nat} {w : World} : ∀ {L : List It} {P : List Pk} {L' : List It} {P' : List Pk}, Dat base w L P → Dat base w L' P' → Dat base w (L ++ L') (P ++ P')
  | [], [], _, _, _, h => h
  | _ :: _, _ :: _, _, _, h, h' => ⟨h.1, Dat.app h.2 h'⟩
  | [], _ :: _, _, _, h, _ => h.elim
  | _ :: _, [], _, _, h, _ => h.elim
theorem Dat.take {base : Nat} {w : World} : ∀ {L : List It} {P : List Pk} (k : Nat), Dat base w L P → Dat base w (L.take k) (P.take k)
  | [], [], k, _ => by simp [Dat]
  | _ :: _, _ :: _, 0, h => trivial
  | _ :: _, _ :: _, k + 1, h => ⟨h.1, Dat.take k h.2⟩
  | [], _ :: _, _, h => h.elim
  | _ :: _, [], _, h => h.elim
theorem Dat.drop {base : Nat} {w : World} : ∀ {L : List It} {P : List Pk} (k : Nat), Dat base w L P → Dat base w (L.drop k) (P.drop k)
  | [], [], k, _ => by simp [Dat]
  | _ :: _, _ :: _, 0, h => h
  | _ :: _, _ :: _, k + 1, h => Dat.drop k h.2
  | [], _ :: _, _, h => h.elim
  | _ :: _, [], _, h => h.elim
theorem Dat.get {base : Nat} {w : World} : ∀ {L : List It} {P : List Pk} (k : Nat), Dat base w L P → k < L.length → One base w (L.getD k z0) (P.getD k p0)
  | [], [], k, _, h => by simp at h
  | _ :: _, _ :: _, 0, h, _ => h.1
  | _ :: _, _ :: _, k + 1, h, hk => by
    simp only [List.getD_cons_succ]
    exact Dat.get k h.2 (by simpa using hk)
  | [], _ :: _, _, h, _ => h.elim
  | _ :: _, [], _, h, _ => h.elim
theorem One.mod {base : Nat} {S : Nat → Prop} {w w' : World} {x : It} {p : Pk} (h : One base w x p) (m : Mod S w w') (hS : ∀ k, (∃ cs fz, w.heap[k]? = some (.cells cs 5 fz)) → ¬ S k) : One base w' x p := by
  obtain ⟨h1, h2, h3, h4, h5⟩ := h
  refine ⟨h1, h2, h3, own_mod h4 m fun k e => hS k ?_, h5⟩
  rcases h4.2 with ⟨e2, _⟩ | ⟨q, cap, cur, e2, _, hh, _⟩
  · rw [e2] at e; simp [Value.ownBlock] at e
  · rw [e2] at e; simp [Value.ownBlock] at e; subst e; exact ⟨_, _, hh⟩
theorem Dat.mod {base : Nat} {S : Nat → Prop} {w w' : World} (m : Mod S w w') (hS : ∀ k, (∃ cs fz, w.heap[k]? = some (.cells cs 5 fz)) → ¬ S k) : ∀ {L : List It} {P : List Pk}, Dat base w L P → Dat base w' L P
  | [], [], _ => trivial
  | _ :: _, _ :: _, h => ⟨h.1.mod m hS, Dat.mod m hS h.2⟩
  | [], _ :: _, h => h.elim
  | _ :: _, [], h => h.elim
theorem Dat.gr {base : Nat} {w w' : World} {L : List It} {P : List Pk} (h : Dat base w L P) (g : Gr w w') : Dat base w' L P := Dat.mod (g.mod fun _ => False) (fun _ _ e => e) h

/-- A block of the net's own kinds. -/
def OurT (w : World) (k : Nat) : Prop := (∃ cs fz, w.heap[k]? = some (.cells cs 58 fz)) ∨ (∃ cs fz, w.heap[k]? = some (.cells cs 33 fz)) ∨ ∃ es c, w.heap[k]? = some (.map es c)
theorem OurT.not5 {w : World} {k : Nat} (h : ∃ cs fz, w.heap[k]? = some (.cells cs 5 fz)) : ¬ OurT w k := by
  obtain ⟨cs, fz, h⟩ := h
  rintro (⟨_, _, h'⟩ | ⟨_, _, h'⟩ | ⟨_, _, h'⟩)
  · rw [h] at h'; injection h' with h'; injection h' with _ e _; cases e
  · rw [h] at h'; injection h' with h'; injection h' with _ e _; cases e
  · rw [h] at h'; injection h' with h'; cases h'
/-- Only new blocks, and the net's own kinds from base on, have turned. -/
def MN (base : Nat) (w w' : World) : Prop := Mod (fun k => base ≤ k ∧ OurT w k) w w'
theorem MN.of_gr {base : Nat} {w w' : World} (g : Gr w w') : MN base w w' := g.mod _
theorem MN.trans {base : Nat} {a b c : World} (h : MN base a b) (k : MN base b c) : MN base a c :=
  Mod.trans h k fun x hx hs => by
    refine ⟨hs.1, ?_⟩
    by_cases hS : base ≤ x ∧ OurT a x
    · exact hS.2
    · have e := h.block x hx hS
      have := hs.2
      unfold OurT at this ⊢
      rwa [e] at this
theorem MN.gr {base : Nat} {w0 w w' : World} (h : MN base w w') (hb : w0.heap.size ≤ base) (G : Gr w0 w) : Gr w0 w' := by
  have M := (G.mod (fun k => w0.heap.size ≤ k)).trans h (fun k hk hs => Nat.le_trans hb hs.1)
  exact ⟨M.os, M.tape, M.output, M.size, fun k hk => M.block k hk (by omega)⟩

/-- The net at g. -/
structure NB (base : Nat) (w : World) (g : Nat) (nodes sent : Int) (mb n : Nat) (v : Value) (L : List It) (S : Int × Int → Bool) (P : List Pk) : Prop where
  lo : base ≤ g
  cell : w.heap[g]? = some (.cells #[.int .i64 nodes, .map (some mb), v, .int .i64 sent] 58 (0, 0))
  row : w.ownsRow base 33 4 v L.length (cs6 L)
  mp : MP w mb n S
  mlo : base ≤ mb
  hn : 1 ≤ nodes ∧ nodes ≤ 9
  dat : Dat base w L P
section
variable {base g mb n : Nat} {w w' : World} {nodes sent : Int} {v : Value} {L : List It} {S : Int × Int → Bool} {P : List Pk}
theorem NB.shape (h : NB base w g nodes sent mb n v L S P) : ∃ A c, v = .slice A L.length c := own_shape h.row
theorem NB.lt (h : NB base w g nodes sent mb n v L S P) : g < w.heap.size := (Array.getElem?_eq_some_iff.1 h.cell).1
theorem NB.cs (h : NB base w g nodes sent mb n v L S P) : w.cell? ⟨g, 0, none⟩ = some (.int .i64 nodes) ∧ w.cell? ⟨g, 1, none⟩ = some (.map (some mb)) ∧ w.cell? ⟨g, 2, none⟩ = some v ∧ w.cell? ⟨g, 3, none⟩ = some (.int .i64 sent) ∧ w.frozen? ⟨g, 2, none⟩ = false ∧ w.frozen? ⟨g, 3, none⟩ = false := by
  obtain ⟨a, b, c, d, _, _, e, f⟩ := heap4 h.cell
  exact ⟨a, b, c, d, e, f⟩
theorem NB.ne (h : NB base w g nodes sent mb n v L S P) : some g ≠ v.ownBlock := fun e => by
  rcases h.row.2 with ⟨rfl, _⟩ | ⟨g', cap, cur, rfl, _, hh, _⟩
  · simp [Value.ownBlock] at e
  · simp [Value.ownBlock] at e; subst e; rw [h.cell] at hh; injection hh with hh; injection hh with _ ht _; cases ht
theorem NB.nem (h : NB base w g nodes sent mb n v L S P) : mb ≠ g ∧ some mb ≠ v.ownBlock := by
  obtain ⟨es, c, hm⟩ := h.mp.isMap
  constructor
  · rintro rfl
    have e2 := h.cell.symm.trans hm; injection e2 with e2; cases e2
  · intro e
    rcases h.row.2 with ⟨rfl, _⟩ | ⟨g', cap, cur, rfl, _, hh, _⟩
    · simp [Value.ownBlock] at e
    · simp [Value.ownBlock] at e; subst e; have e2 := hh.symm.trans hm; injection e2 with e2; cases e2
theorem NB.gr (h : NB base w g nodes sent mb n v L S P) (y : Gr w w') : NB base w' g nodes sent mb n v L S P :=
  ⟨h.lo, (y.block g h.lt).trans h.cell, own_gr h.row y, h.mp.gr y, h.mlo, h.hn, h.dat.gr y⟩
/-- The blocks that an act may turn. -/
theorem NB.mn (h : NB base w g nodes sent mb n v L S P) (m : Mod (fun k => k = g ∨ k = mb ∨ some k = v.ownBlock) w w') : MN base w w' :=
  Mod.mono m fun k _ hk => by
    rcases hk with rfl | rfl | e
    · exact ⟨h.lo, .inl ⟨_, _, h.cell⟩⟩
    · obtain ⟨es, c, hm⟩ := h.mp.isMap
      exact ⟨h.mlo, .inr (.inr ⟨_, _, hm⟩)⟩
    · rcases h.row.2 with ⟨rfl, _⟩ | ⟨g', cap, cur, rfl, hb, hh, _⟩
      · simp [Value.ownBlock] at e
      · simp [Value.ownBlock] at e; subst e; exact ⟨hb, .inr (.inl ⟨_, _, hh⟩)⟩
end
/-- The net at g, whatever its blocks. -/
def Nt (base : Nat) (w : World) (g : Nat) (nodes sent : Int) (n : Nat) (S : Int × Int → Bool) (P : List Pk) : Prop := ∃ mb v L, NB base w g nodes sent mb n v L S P
/-- An act: what it answers, what it leaves. -/
def RetN (base g : Nat) (nodes sent : Int) (n : Nat) (S : Int × Int → Bool) (P : List Pk) (r : Value) (w : World) (e : Ending) (w' : World) : Prop :=
  e = .returned r ∧ Nt base w' g nodes sent n S P ∧ MN base w w'
theorem Nt.gr {base g n : Nat} {w w' : World} {nodes sent : Int} {S : Int × Int → Bool} {P : List Pk} (h : Nt base w g nodes sent n S P) (y : Gr w w') : Nt base w' g nodes sent n S P := by
  obtain ⟨mb, v, L, h⟩ := h
  exact ⟨mb, v, L, h.gr y⟩

def RetNew (base : Nat) (nodes : Int) (w : World) (e : Ending) (w' : World) : Prop := (¬ (1 ≤ nodes ∧ nodes ≤ 9) ∧ e = .returned (.tuple #[.pointer none, .int .i64 1]) ∧ w = w') ∨
    ((1 ≤ nodes ∧ nodes ≤ 9) ∧ ∃ g, e = .returned (.tuple #[.pointer (some ⟨g, 0, none⟩), .int .i64 0]) ∧ Nt base w' g nodes 0 0 (fun _ => false) [] ∧ Gr w w')
theorem new_any (nodes : Int) (w : World) (base : Nat) (hb : base ≤ w.heap.size) : Calls Try.prog 8 #[.int .i64 nodes] w (RetNew base nodes w) := by
  by_cases h1 : nodes < 1
  · go_enter Try.func8, Try.ntmps8
    go_wp2_with fail
    go_ret2
    exact .inl ⟨by omega, rfl, rfl⟩
  · by_cases h2 : 9 < nodes
    · go_enter Try.func8, Try.ntmps8
      go_wp2_with fail
      go_ret2
      exact .inl ⟨by omega, rfl, rfl⟩
    · have hmm := @run_makeMap Try.prog
      have hM := hid (MP.made w)
      go_enter Try.func8, Try.ntmps8
      go_wp2_with fail
      go_ret2
      refine .inr ⟨⟨by omega, by omega⟩, w.heap.size + 1, rfl, ⟨w.heap.size, .slice none 0 0, [], ⟨by omega, ?_, World.ownsRow_nil _ _ _ _, ?_, hb, ⟨by omega, by omega⟩, trivial⟩⟩, ((Gr.refl w).alloc _).alloc _⟩
      · have := heap_alloc_new (w.alloc (.map #[] 0)) (.cells #[.int .i64 nodes, .map (some w.heap.size), .slice none 0 0, .int .i64 0] 58)
        rw [show (w.alloc (.map #[] 0)).heap.size = w.heap.size + 1 by simp] at this
        exact this
      · exact hM.out.gr ((Gr.refl _).alloc _)
end Go.Proofs.Ytlencagfkajcnaa
