import Derived.Test.YtlencagfkajcnaaN5
import Derived.Shelf.Abstract
import Derived.Deep.Cut
import Derived.Deep.CutRange
namespace Go.Proofs.Ytlencagfkajcnaa
open Go.RowKit Go.Ext Go.BigFrame Go.Maps
attribute [local go_sem] Ext.cell Ext.frozen Ext.lt Ext.le s1 s2 s3 s4 s5 s6 t1 t2 t3 t4 t5 t6
attribute [local go_sem ↓] Go.wp_at_zero Go.wp_at_succ

theorem NB.mod {base g mb n : Nat} {Z : Nat → Prop} {w w' : World} {nodes sent : Int} {v : Value} {L : List It} {S : Int × Int → Bool} {P : List Pk} (h : NB base w g nodes sent mb n v L S P) (m : Mod Z w w') (h1 : ¬ Z g) (h2 : ∀ k, v.ownBlock = some k → ¬ Z k) (h3 : ¬ Z mb)
    (h5 : ∀ k, (∃ cs fz, w.heap[k]? = some (.cells cs 5 fz)) → ¬ Z k) : NB base w' g nodes sent mb n v L S P :=
  ⟨h.lo, (m.block g h.lt h1).trans h.cell, own_mod h.row m h2, h.mp.keep (m.block mb h.mp.lt h3), h.mlo, h.hn, Dat.mod m h5 h.dat⟩
theorem not5 {w : World} {B t : Nat} {cs : Array Value} {fz : Nat × Nat} (h : w.heap[B]? = some (.cells cs t fz)) (ht : t ≠ 5) : ∀ k, (∃ cs fz, w.heap[k]? = some (.cells cs 5 fz)) → ¬ k = B := by
  rintro k ⟨cs, fz, hk⟩ rfl
  have e2 := h.symm.trans hk; injection e2 with e2; injection e2 with _ e2 _; exact ht e2

/-- Without the one at a place. -/
def outF {α : Type} (P : List α) (i : Nat) : List α := P.take i ++ P.drop (i + 1)

set_option maxRecDepth 100000 in
set_option maxHeartbeats 4000000 in
theorem takefn_any (base g mb n i B4 B2 B3 : Nat) (nodes sent : Int) (v : Value) (L : List It) (S : Int × Int → Bool) (P : List Pk) (f t k : Int) (A : Option Addr) (l c : Nat) (u0 u1 u2 u3 : Value) (w : World) (h : NB base w g nodes sent mb n v L S P) (hl : L.length ≤ 1000000) (hi : i < L.length)
    (h4 : w.heap[B4]? = some (.cells #[u0, u1, u2, u3] 33 (0, 0))) (h2 : w.cell? ⟨B2, 0, none⟩ = some (.pointer (some ⟨g, 0, none⟩))) (h3 : w.cell? ⟨B3, 0, none⟩ = some (.int .i64 i)) (n4 : v.ownBlock ≠ some B4) (n2 : B2 ≠ B4) (n3 : B3 ≠ B4) (n2' : v.ownBlock ≠ some B2) :
    Calls Try.prog 27 #[.agg #[.int .i64 f, .int .i64 t, .int .i64 k, .slice A l c], .pointer (some ⟨B4, 0, none⟩), .pointer (some ⟨B2, 0, none⟩), .pointer (some ⟨B3, 0, none⟩)] w
      (fun e w' => e = .returned (.int .i64 0) ∧ (∃ v', NB base w' g nodes sent mb n v' (outF L i) S (outF P i) ∧ v'.ownBlock ≠ some B4) ∧ w'.heap[B4]? = some (.cells #[.int .i64 f, .int .i64 t, .int .i64 k, .slice A l c] 33 (0, 0)) ∧ Mod (fun k => k = g ∨ k = B4 ∨ some k = v.ownBlock) w w') := by
  have H := hid h
  obtain ⟨b0, b1, b2, b3, z0, z1, z2, z3⟩ := heap4 h4
  have HB4 := hid h4
  have l4 : B4 < w.heap.size := (Array.getElem?_eq_some_iff.1 h4).1
  have l2 := World.block_lt_of_cell? _ _ h2
  have l3 := World.block_lt_of_cell? _ _ h3
  simp only at l2 l3
  have hlt := h.lt
  obtain ⟨_, _, c2, _, f2, _⟩ := h.cs
  have g4 : B4 ≠ g := by rintro rfl; have e2 := h.cell.symm.trans h4; injection e2 with e2; injection e2 with _ e2 _; cases e2
  clear h h4
  go_enter Try.func27, Try.ntmps27
  go_upto_region 2 with fail
  have gm : B4 ≠ mb := by
    obtain ⟨es, cc, hm⟩ := H.out.mp.isMap
    rintro rfl
    have e2 := HB4.out.symm.trans hm; injection e2 with e2; cases e2
  have M1 := hid ((set4 w B4 (.int .i64 f) (.int .i64 t) (.int .i64 k) (.slice A l c)).trans (((Gr.refl _).alloc (.cells #[.int .i64 f, .int .i64 t, .int .i64 k, .slice A l c] 33)).mod _) (fun _ _ h => h))
  have HB41 := hid ((((Gr.refl _).alloc (.cells #[.int .i64 f, .int .i64 t, .int .i64 k, .slice A l c] 33)).block B4 (by simp; omega)).trans (set4_heap HB4.out (.int .i64 f) (.int .i64 t) (.int .i64 k) (.slice A l c)))
  generalize (((((w.setCell ⟨B4, 0, none⟩ (.int .i64 f)).setCell ⟨B4, 1, none⟩ (.int .i64 t)).setCell ⟨B4, 2, none⟩ (.int .i64 k)).setCell ⟨B4, 3, none⟩ (.slice A l c)).alloc (.cells #[.int .i64 f, .int .i64 t, .int .i64 k, .slice A l c] 33)) = W1 at *
  have H1 := hid (H.out.mod M1.out (Ne.symm g4) (fun q e e2 => n4 (by rw [e, e2])) (Ne.symm gm) (not5 HB4.out (by decide)))
  have k2 : W1.cell? ⟨B2, 0, none⟩ = some (.pointer (some ⟨g, 0, none⟩)) := (World.cell?_of_block (M1.out.block B2 l2 n2)).trans h2
  have k3 : W1.cell? ⟨B3, 0, none⟩ = some (.int .i64 i) := (World.cell?_of_block (M1.out.block B3 l3 n3)).trans h3
  obtain ⟨_, _, kc2, _, kf2, _⟩ := H1.out.cs
  have kg : g < W1.heap.size := H1.out.lt
  have kl2 := World.block_lt_of_cell? _ _ k2
  have kl3 := World.block_lt_of_cell? _ _ k3
  simp only at kl2 kl3
  have kl4 : B4 < W1.heap.size := (Array.getElem?_eq_some_iff.1 HB41.out).1
  have ew : IntKind.i64.wrap ((i : Int) + 1) = (i : Int) + 1 := IntWalk.i64_in _ (by omega)
  have HD := hid (fun W (y : Gr W1 W) => delete_any base i v L W (own_gr H1.out.row y) hl hi)
  clear b0 b1 b2 b3 z0 z1 z2 z3 c2 f2 h2 h3
  go_region_law (first
    | (go_simp; go_at_call 28
       refine (HD.out _ (by repeat (first | exact Gr.refl _ | refine Gr.drew ?_))).mono ?_
       rintro en w8 ⟨v8, rfl, hr8, hm8, ho8⟩
       have HR8 := hid (show w8.ownsRow base 33 4 v8 (outF L i).length (cs6 (outF L i)) from hr8)
       have M8 := hid (show Mod (fun q => some q = v.ownBlock) W1 w8 from ((Gr.refl W1).drew.mod _).trans hm8 (fun _ _ h => h))
       have HC8 := hid ((M8.out.block g kg H1.out.ne).trans H1.out.cell)
       obtain ⟨_, _, q2, q3, _, _, qf2, qf3⟩ := heap4 HC8.out
       have hl8 : g < w8.heap.size := (Array.getElem?_eq_some_iff.1 HC8.out).1
       obtain ⟨A8, n8, c8, rfl⟩ : ∃ A n c, v8 = .slice A n c := by obtain ⟨A, c, e⟩ := own_shape hr8; exact ⟨_, _, _, e⟩
       have q22 : w8.cell? ⟨B2, 0, none⟩ = some (.pointer (some ⟨g, 0, none⟩)) := (World.cell?_of_block (M8.out.block B2 kl2 (fun e => n2' e.symm))).trans k2
       have ql2 : B2 < w8.heap.size := Nat.lt_of_lt_of_le kl2 M8.out.size
       have HO8 := hid (show (Value.slice A8 n8 c8).ownBlock ≠ some B4 from fun e => by
         rcases ho8 with h | ⟨q, h1, h2⟩
         · exact n4 (h.symm.trans e)
         · have e2 := h1.symm.trans e
           injection e2 with e2
           have h2' : W1.heap.size ≤ q := h2
           omega)
       clear hr8 hm8 ho8))
  all_goals (
    go_wp2_with fail
    go_ret
    have hd8 : Dat base w8 (outF L i) (outF P i) := Dat.app (Dat.take i (Dat.mod M8.out H1.out.no5 H1.out.dat)) (Dat.drop (i + 1) (Dat.mod M8.out H1.out.no5 H1.out.dat))
    have hm8 : MP w8 mb n S := H1.out.mp.keep (M8.out.block mb H1.out.mp.lt H1.out.nem.2)
    refine ⟨rfl, ⟨_, NB.put H.out.lo H.out.mlo H.out.hn HC8.out HR8.out hm8 hd8, HO8.out⟩, ?_, ?_⟩
    · have m9 := ((Gr.refl w8).mod (fun b => b = g)).set (p := ⟨g, 2, none⟩) (fun _ => rfl) (.slice A8 n8 c8)
      exact (m9.block B4 (Nat.lt_of_lt_of_le kl4 M8.out.size) g4).trans ((M8.out.block B4 kl4 (fun e => n4 e.symm)).trans HB41.out)
    · exact ((M1.out.mono (fun _ _ h => .inr (.inl h))).trans M8.out (fun _ _ h => .inr (.inr h))).set (p := ⟨g, 2, none⟩) (fun _ => .inl rfl) _)
end Go.Proofs.Ytlencagfkajcnaa
