import Derived.Test.YtikmniokbliolaaG1
import Derived.Test.YtikmniokbliolaaDu
import Derived.Test.YtikmniokbliolaaI
import Derived.Test.YtikmniokbliolaaV
namespace Go.Proofs.Ytikmniokbliolaa
open Go.RowKit Go.Ext Go.BigFrame
attribute [local go_sem] Ext.cell Ext.frozen Ext.lt Ext.le s1 s2 s3 s4 s5 s6 t1 t2 t3 t4 t5 t6
attribute [local go_sem ↓] Go.wp_at_zero Go.wp_at_succ

/-- The document's heap at g: its slice v, its items L. -/
structure RB (base : Nat) (w : World) (g : Nat) (v : Value) (L : List It) : Prop where
  lo : base ≤ g
  cell : w.heap[g]? = some (.cells #[v] 51 (0, 0))
  row : w.ownsRow base 40 6 v L.length (cs6 L)
theorem RB.shape {base : Nat} {w : World} {g : Nat} {v : Value} {L : List It} (h : RB base w g v L) : ∃ A c, v = .slice A L.length c := by
  rcases h.row.2 with ⟨rfl, h0⟩ | ⟨g, cap, cur, rfl, _⟩
  · exact ⟨none, 0, by rw [h0]⟩
  · exact ⟨_, _, rfl⟩
theorem RB.lt {base : Nat} {w : World} {g : Nat} {v : Value} {L : List It} (h : RB base w g v L) : g < w.heap.size := (Array.getElem?_eq_some_iff.1 h.cell).1
theorem RB.c0 {base : Nat} {w : World} {g : Nat} {v : Value} {L : List It} (h : RB base w g v L) : w.cell? ⟨g, 0, none⟩ = some v := by simp [World.cell?, h.cell]
theorem RB.f0 {base : Nat} {w : World} {g : Nat} {v : Value} {L : List It} (h : RB base w g v L) : w.frozen? ⟨g, 0, none⟩ = false := by simp [World.frozen?, h.cell]
theorem RB.ne {base : Nat} {w : World} {g : Nat} {v : Value} {L : List It} (h : RB base w g v L) : some g ≠ v.ownBlock := fun e => by
  rcases h.row.2 with ⟨rfl, _⟩ | ⟨g', cap, cur, rfl, _, hh, _⟩
  · simp [Value.ownBlock] at e
  · simp [Value.ownBlock] at e; subst e; rw [h.cell] at hh; injection hh with hh; injection hh with _ ht _; cases ht
theorem RB.mod {base : Nat} {S : Nat → Prop} {w w' : World} {g : Nat} {v : Value} {L : List It} (h : RB base w g v L) (m : Mod S w w') (h1 : ¬ S g) (h2 : ∀ k, v.ownBlock = some k → ¬ S k) : RB base w' g v L := by
  refine ⟨h.lo, (m.block g h.lt h1).trans h.cell, h.row.1, ?_⟩
  rcases h.row.2 with h3 | ⟨g', cap, cur, hv, hb, hh, r⟩
  · exact .inl h3
  · exact .inr ⟨g', cap, cur, hv, hb, (m.block g' (Array.getElem?_eq_some_iff.1 hh).1 (h2 g' (by rw [hv]; rfl))).trans hh, r⟩
theorem RB.gr {base : Nat} {w w' : World} {g : Nat} {v : Value} {L : List It} (h : RB base w g v L) (g1 : Gr w w') : RB base w' g v L := h.mod (g1.mod fun _ => False) (fun e => e) (fun _ _ e => e)
theorem RB.set {base g : Nat} {v v' : Value} {L' : List It} {w : World} (hlo : base ≤ g) (hc : w.heap[g]? = some (.cells #[v] 51 (0, 0))) (hr : w.ownsRow base 40 6 v' L'.length (cs6 L')) : RB base (w.setCell ⟨g, 0, none⟩ v') g v' L' := by
  have hlt : g < w.heap.size := (Array.getElem?_eq_some_iff.1 hc).1
  have m := ((Gr.refl w).mod (fun b => b = g)).set (p := ⟨g, 0, none⟩) (fun _ => rfl) v'
  have hne : ∀ k, v'.ownBlock = some k → k ≠ g := by
    rintro k e rfl
    rcases hr.2 with ⟨rfl, _⟩ | ⟨g', cap, cur, rfl, _, hh, _⟩
    · simp [Value.ownBlock] at e
    · simp [Value.ownBlock] at e; subst e; rw [hc] at hh; injection hh with hh; injection hh with _ ht _; cases ht
  refine ⟨hlo, ?_, hr.1, ?_⟩
  · rw [setCell_eq_setRow w g 0 _ 51 (0, 0) v' hc]
    have := setRow_heap w g _ ((#[v] : Array Value).setIfInBounds 0 v') 51 _ hc
    simpa using this
  · rcases hr.2 with h3 | ⟨g', cap, cur, hv, hb, hh, r⟩
    · exact .inl h3
    · exact .inr ⟨g', cap, cur, hv, hb, (m.block g' (Array.getElem?_eq_some_iff.1 hh).1 (hne g' (by rw [hv]; rfl))).trans hh, r⟩

/-- Where there are items, they lie in a row from its beginning. -/
theorem RB.open {base : Nat} {w : World} {g : Nat} {v : Value} {L : List It} (h : RB base w g v L) (h0 : 0 < L.length) :
    ∃ r cap, v = .slice (some ⟨r, 0, none⟩) L.length cap ∧ L.length ≤ cap ∧ cap ≤ maxLen ∧ base ≤ r ∧ r < w.heap.size ∧ ∀ j u, (cs6 L)[j]? = some u → w.cell? ⟨r, j, none⟩ = some u := by
  rcases h.row.2 with ⟨rfl, h1⟩ | ⟨r, cap, cur, rfl, hb, hh, hc, hm, hs, ht⟩
  · omega
  · refine ⟨r, cap, rfl, hc, hm, hb, (Array.getElem?_eq_some_iff.1 hh).1, fun j u hu => ?_⟩
    rw [← ht, List.getElem?_take] at hu
    split at hu
    · simp [World.cell?, hh]; simpa using hu
    · cases hu
theorem six_at {w : World} {r : Nat} {L : List It} (hc : ∀ j u, (cs6 L)[j]? = some u → w.cell? ⟨r, j, none⟩ = some u) {i : Nat} (hi : i < L.length) :
    w.cell? ⟨r, i * 6, none⟩ = some (.int .i64 (L.getD i z0).1) ∧ w.cell? ⟨r, i * 6 + 1, none⟩ = some (.int .i64 (L.getD i z0).2.1) ∧ w.cell? ⟨r, i * 6 + 2, none⟩ = some (.int .i64 (L.getD i z0).2.2.1) ∧
    w.cell? ⟨r, i * 6 + 3, none⟩ = some (.int .i64 (L.getD i z0).2.2.2.1) ∧ w.cell? ⟨r, i * 6 + 4, none⟩ = some (.int .i64 (L.getD i z0).2.2.2.2.1) ∧ w.cell? ⟨r, i * 6 + 5, none⟩ = some (.int .i64 (L.getD i z0).2.2.2.2.2) := by
  have e := fun j hj => cs6_get L i j hi hj
  exact ⟨hc _ _ (e 0 (by omega)), hc _ _ (e 1 (by omega)), hc _ _ (e 2 (by omega)), hc _ _ (e 3 (by omega)), hc _ _ (e 4 (by omega)), hc _ _ (e 5 (by omega))⟩

/-- What an act on the document's heap leaves. -/
def RetR (base g : Nat) (L' : List It) (r : Value) (w : World) (e : Ending) (w' : World) : Prop :=
  ∃ v', e = .returned r ∧ RB base w' g v' L' ∧ Mod (fun k => k = g) w w'

theorem nextR_any (base g : Nat) (v : Value) (L : List It) (w : World) (h : RB base w g v L) : Calls Try.prog 37 #[.pointer (some ⟨g, 0, none⟩)] w (RetE (.tuple #[iv (hd L), .bool (decide (0 < L.length))]) w) := by
  have c0 := h.c0
  have hlt := h.lt
  have H := hid h
  obtain ⟨A, cp, rfl⟩ := h.shape
  clear h
  refine retE ?_
  by_cases hn : 0 < L.length
  · rw [decide_eq_true hn]
    obtain ⟨r, cap, e, hcap, hm, hb, hr, hc⟩ := H.out.open hn
    injection e with e1 _ e3
    subst e1 e3
    obtain ⟨d0, d1, d2, d3, d4, d5⟩ := six_at hc hn
    clear hc
    unfold hd
    obtain ⟨⟨a', b', c', d', e', f'⟩, hy⟩ : ∃ y, L.getD 0 z0 = y := ⟨_, rfl⟩
    rw [hy] at d0 d1 d2 d3 d4 d5 ⊢
    simp only [Nat.zero_mul, Nat.zero_add] at d0 d1 d2 d3 d4 d5
    clear hy H
    simp only [iv]
    have hn2 : ¬ ((L.length : Int) = 0) := by omega
    go_enter Try.func37, Try.ntmps37
    go_wp2_with fail
    refine bodyPost_ret (v := .tuple #[.agg #[.int .i64 a', .int .i64 b', .int .i64 c', .int .i64 d', .int .i64 e', .int .i64 f'], .bool true]) (by simp [results, Try.results37, go_sem]) rfl ⟨rfl, ?_⟩
    repeat (first | exact Gr.refl _ | refine Gr.set ?_ (by simp) _ | refine Gr.alloc ?_ _)
  · rw [decide_eq_false hn]
    have hL : L = [] := List.eq_nil_of_length_eq_zero (by omega)
    subst hL
    simp only [hd, List.getD_nil, iv]
    clear H
    go_enter Try.func37, Try.ntmps37
    go_wp2_with fail
    refine bodyPost_ret (v := .tuple #[.agg #[.int .i64 0, .int .i64 0, .int .i64 0, .int .i64 0, .int .i64 0, .int .i64 0], .bool false]) (by simp [results, Try.results37, go_sem]) rfl ⟨rfl, ?_⟩
    repeat (first | exact Gr.refl _ | refine Gr.set ?_ (by simp) _ | refine Gr.alloc ?_ _)
end Go.Proofs.Ytikmniokbliolaa
