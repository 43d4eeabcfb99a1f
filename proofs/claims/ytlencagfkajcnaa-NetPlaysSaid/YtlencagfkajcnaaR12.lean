import Derived.Test.YtlencagfkajcnaaR9
import Derived.Test.YtlencagfkajcnaaR10
import Derived.Test.YtlencagfkajcnaaR11
namespace Go.Proofs.Ytlencagfkajcnaa
open Go.RowKit Go.Ext Go.BigFrame Go.Maps
attribute [local go_sem] Ext.cell Ext.frozen Ext.lt Ext.le s1 s2 s3 s4 s5 s6 t1 t2 t3 t4 t5 t6
attribute [local go_sem ↓] Go.wp_at_zero Go.wp_at_succ

/-- Only blocks from base on have turned. -/
def MB (base : Nat) (w w' : World) : Prop := Mod (fun k => base ≤ k) w w'
theorem MN.mb {base : Nat} {w w' : World} (h : MN base w w') : MB base w w' := Mod.mono h fun _ _ h => h.1
theorem MR.mb {base : Nat} {w w' : World} (h : MR base w w') : MB base w w' := Mod.mono h fun _ _ h => h.1
theorem MB.of_gr {base : Nat} {w w' : World} (g : Gr w w') : MB base w w' := g.mod _
theorem MB.trans {base : Nat} {a b c : World} (h : MB base a b) (k : MB base b c) : MB base a c := Mod.trans h k fun _ _ e => e
theorem MB.gr {base : Nat} {w0 w w' : World} (h : MB base w w') (hb : w0.heap.size ≤ base) (G : Gr w0 w) : Gr w0 w' := by
  have M := (G.mod (fun k => w0.heap.size ≤ k)).trans h (fun k hk hs => Nat.le_trans hb hs)
  exact ⟨M.os, M.tape, M.output, M.size, fun k hk => M.block k hk (by omega)⟩
theorem MN.keep {base k t : Nat} {w w' : World} {cs : Array Value} {fz : Nat × Nat} (h : MN base w w') (hk : w.heap[k]? = some (.cells cs t fz)) (h1 : t ≠ 58) (h2 : t ≠ 33) : w'.heap[k]? = some (.cells cs t fz) := by
  refine (h.block k (Array.getElem?_eq_some_iff.1 hk).1 ?_).trans hk
  rintro ⟨_, h⟩
  rcases h with ⟨_, _, h'⟩ | ⟨_, _, h'⟩ | ⟨_, _, h'⟩
  · rw [hk] at h'; injection h' with h'; injection h' with _ e _; exact h1 e
  · rw [hk] at h'; injection h' with h'; injection h' with _ e _; exact h2 e
  · rw [hk] at h'; injection h' with h'; cases h'
theorem MR.keep {base k t : Nat} {w w' : World} {cs : Array Value} {fz : Nat × Nat} (h : MR base w w') (hk : w.heap[k]? = some (.cells cs t fz)) (h1 : t ≠ 53) (h2 : t ≠ 71) (h3 : t ≠ 66) : w'.heap[k]? = some (.cells cs t fz) := by
  refine (h.block k (Array.getElem?_eq_some_iff.1 hk).1 ?_).trans hk
  rintro ⟨_, h⟩
  rcases h with ⟨_, _, h'⟩ | ⟨_, _, h'⟩ | ⟨_, _, h'⟩
  · rw [hk] at h'; injection h' with h'; injection h' with _ e _; exact h1 e
  · rw [hk] at h'; injection h' with h'; injection h' with _ e _; exact h2 e
  · rw [hk] at h'; injection h' with h'; injection h' with _ e _; exact h3 e
theorem MR.not5 {base : Nat} {w : World} (k : Nat) (hk : ∃ cs fz, w.heap[k]? = some (.cells cs 5 fz)) : ¬ (base ≤ k ∧ TheirT w k) := by
  obtain ⟨cs, fz, hk⟩ := hk
  rintro ⟨_, h⟩
  rcases h with ⟨_, _, h'⟩ | ⟨_, _, h'⟩ | ⟨_, _, h'⟩
  · rw [hk] at h'; injection h' with h'; injection h' with _ e _; cases e
  · rw [hk] at h'; injection h' with h'; injection h' with _ e _; cases e
  · rw [hk] at h'; injection h' with h'; injection h' with _ e _; cases e

/-- All packets are between nodes that there are. -/
def OkP (nodes : Int) (P : List Pk) : Prop := ∀ p ∈ P, isN nodes p.1 = true ∧ isN nodes p.2.1 = true
theorem OkP.nn {nodes : Int} {P : List Pk} (h : OkP nodes P) : ∀ p ∈ P, 0 ≤ p.1 ∧ 0 ≤ p.2.1 := fun p hp => by
  have := h p hp
  unfold isN at this
  simp at this
  exact ⟨this.1.1, this.2.1⟩
theorem OkP.sub {nodes : Int} {P P' : List Pk} (h : OkP nodes P) (hs : ∀ p ∈ P', p ∈ P) : OkP nodes P' := fun p hp => h p (hs p hp)
theorem OkP.filter {nodes : Int} {P : List Pk} (h : OkP nodes P) (f : Pk → Bool) : OkP nodes (P.filter f) := h.sub fun _ hp => (List.mem_filter.1 hp).1
theorem mem_outF {P : List Pk} {i : Nat} {p : Pk} (h : p ∈ outF P i) : p ∈ P := by
  unfold outF at h
  rcases List.mem_append.1 h with h | h
  · exact List.mem_of_mem_take h
  · exact List.mem_of_mem_drop h

/-- What Take takes, what it leaves. -/
def takeP (P : List Pk) (k : Int) : List Pk := if okN P k then outF P k.toNat else P
def takeC (P : List Pk) (k : Int) : Int := if okN P k then 0 else 2
def takeX (P : List Pk) (k : Int) : Pk := if okN P k then P.getD k.toNat p0 else p0
theorem takeP_len (P : List Pk) (k : Int) : (takeP P k).length ≤ P.length := by
  unfold takeP
  split
  · unfold outF; simp only [List.length_append, List.length_take, List.length_drop]; omega
  · omega
theorem OkP.take {nodes : Int} {P : List Pk} (h : OkP nodes P) (k : Int) : OkP nodes (takeP P k) := by
  unfold takeP
  split
  · exact h.sub fun _ hp => mem_outF hp
  · exact h
theorem one_zero (base : Nat) (w : World) : One base w z0 p0 := ⟨rfl, rfl, rfl, World.ownsRow_nil _ _ _ _, by simp⟩
theorem take_u (base g n : Nat) (nodes sent k : Int) (S : Int × Int → Bool) (P : List Pk) (w : World) (h : Nt base w g nodes sent n S P) (hl : P.length ≤ 1000000) :
    Calls Try.prog 12 #[.pointer (some ⟨g, 0, none⟩), .int .i64 k] w (fun e w' => ∃ f t q A' l' c', e = .returned (.tuple #[.agg #[.int .i64 f, .int .i64 t, .int .i64 q, .slice A' l' c'], .int .i64 (takeC P k)]) ∧ One base w' (f, t, q, A', l', c') (takeX P k) ∧ Nt base w' g nodes sent n S (takeP P k) ∧ MN base w w') := by
  refine (take_any base g n nodes sent k S P w h hl).mono ?_
  intro e w' h
  unfold takeP takeC takeX
  rcases h with ⟨hok, h1, h2⟩ | ⟨hok, i, ⟨f, t, q, A', l', c'⟩, rfl, hi, h1, h2⟩
  · rw [hok]
    exact ⟨0, 0, 0, none, 0, 0, h1, one_zero _ _, h2⟩
  · rw [hok]
    exact ⟨f, t, q, A', l', c', h1, h2⟩
theorem takeR_u (base g : Nat) (nodes sent k : Int) (C : List (Int × Int)) (P : List Pk) (w : World) (h : Rt base w g nodes sent C P) (hl : P.length ≤ 1000000) (hbase : base ≤ w.heap.size) :
    Calls Try.prog 34 #[.pointer (some ⟨g, 0, none⟩), .int .i64 k] w (fun e w' => ∃ f t q A' l' c', e = .returned (.tuple #[.agg #[.int .i64 f, .int .i64 t, .int .i64 q, .slice A' l' c'], .int .i64 (takeC P k)]) ∧ One base w' (f, t, q, A', l', c') (takeX P k) ∧ Rt base w' g nodes sent C (takeP P k) ∧ MR base w w') := by
  refine (takeR_any base g nodes sent k C P w h hl hbase).mono ?_
  intro e w' h
  unfold takeP takeC takeX
  rcases h with ⟨hok, h1, h2⟩ | ⟨hok, i, ⟨f, t, q, A', l', c'⟩, rfl, hi, h1, h2⟩
  · rw [hok]
    exact ⟨0, 0, 0, none, 0, 0, h1, one_zero _ _, h2⟩
  · rw [hok]
    exact ⟨f, t, q, A', l', c', h1, h2⟩

/-- Both nets, of one state. -/
structure Both (base : Nat) (w : World) (g r : Nat) (nodes sent : Int) (n : Nat) (C : List (Int × Int)) (P : List Pk) : Prop where
  nt : Nt base w g nodes sent n (cutL C) P
  rt : Rt base w r nodes sent C P
  ok : OkP nodes P
  s0 : 0 ≤ sent
/-- .. after at most i acts. -/
structure Upto (base : Nat) (w : World) (g r : Nat) (nodes : Int) (i : Nat) (sent : Int) (n : Nat) (C : List (Int × Int)) (P : List Pk) : Prop where
  both : Both base w g r nodes sent n C P
  s1 : sent ≤ i
  n1 : n ≤ i
  c1 : C.length ≤ i
  p1 : P.length ≤ i
theorem Upto.gr {base : Nat} {w w' : World} {g r : Nat} {nodes : Int} {i : Nat} {sent : Int} {n : Nat} {C : List (Int × Int)} {P : List Pk} (h : Upto base w g r nodes i sent n C P) (y : Gr w w') : Upto base w' g r nodes i sent n C P :=
  ⟨⟨h.both.nt.gr y, h.both.rt.gr y, h.both.ok, h.both.s0⟩, h.s1, h.n1, h.c1, h.p1⟩
/-- What an act on both answers and leaves. -/
def RetS (base g r : Nat) (nodes : Int) (i : Nat) (w : World) (e : Ending) (w' : World) : Prop :=
  e = .returned (.bool true) ∧ (∃ sent n C P, Upto base w' g r nodes (i + 1) sent n C P) ∧ MB base w w'
end Go.Proofs.Ytlencagfkajcnaa
