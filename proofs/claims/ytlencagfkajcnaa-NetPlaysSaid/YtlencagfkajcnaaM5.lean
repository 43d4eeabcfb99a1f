import Derived.Test.YtlencagfkajcnaaM3
import Derived.Test.YtlencagfkajcnaaM4
namespace Go.Proofs.Ytlencagfkajcnaa
open Go.RowKit Go.Ext Go.BigFrame Go.Maps
attribute [local go_sem] Ext.cell Ext.frozen Ext.lt Ext.le s1 s2 s3 s4 s5 s6 t1 t2 t3 t4 t5 t6
attribute [local go_sem ↓] Go.wp_at_zero Go.wp_at_succ

/-- Is a packet between the two; is it for the node? -/
def qC (a b : Int) (p : Pk) : Bool := decide (pr p.1 p.2.1 = pr a b)
def qK (a : Int) (p : Pk) : Bool := p.2.1 == a
theorem Dat.filter {base : Nat} {w : World} (gx : It → Bool) (gp : Pk → Bool) (hg : ∀ x p, One base w x p → gx x = gp p) : ∀ {L : List It} {P : List Pk}, Dat base w L P → Dat base w (keepF gx L) (P.filter fun p => !gp p)
  | [], [], _ => by simp [keepF, Dat]
  | x :: L, p :: P, h => by
    have ih := Dat.filter gx gp hg h.2
    have e := hg x p h.1
    unfold keepF at ih ⊢
    simp only [List.filter_cons, e]
    cases gp p
    · exact ⟨h.1, ih⟩
    · exact ih
  | [], _ :: _, h => h.elim
  | _ :: _, [], h => h.elim

set_option maxHeartbeats 600000 in
/-- What is lost between two nodes. -/
theorem loseC_any (base g mb n B1 B2 : Nat) (nodes sent a b : Int) (v : Value) (L : List It) (S : Int × Int → Bool) (P : List Pk) (w : World) (h : NB base w g nodes sent mb n v L S P) (hl : L.length ≤ 1000000)
    (h1 : w.cell? ⟨B1, 0, none⟩ = some (.int .i64 a)) (h2 : w.cell? ⟨B2, 0, none⟩ = some (.int .i64 b)) (n1 : v.ownBlock ≠ some B1) (n2 : v.ownBlock ≠ some B2) :
    Calls Try.prog 30 #[.pointer (some ⟨g, 0, none⟩), .func (.func 31) #[] #[.pointer (some ⟨B1, 0, none⟩), .pointer (some ⟨B2, 0, none⟩)]] w
      (fun e w' => e = .returned (.int .i64 ((P.length : Int) - (P.filter fun p => !qC a b p).length)) ∧ (∃ v', NB base w' g nodes sent mb n v' (keepF (gC a b) L) S (P.filter fun p => !qC a b p)) ∧ Mod (fun k => k = g ∨ k = mb ∨ some k = v.ownBlock) w w') := by
  have H := hid h
  have hlt := h.lt
  obtain ⟨_, _, c2, _, f2, _⟩ := h.cs
  have hlen := h.dat.len
  have HD := hid (fun W (y : Gr w W) => delfn_anyC base a b v L B1 B2 W (own_gr h.row y) hl ((y.cell (p := ⟨B1, 0, none⟩) (World.block_lt_of_cell? _ _ h1)).trans h1) ((y.cell (p := ⟨B2, 0, none⟩) (World.block_lt_of_cell? _ _ h2)).trans h2) n1 n2)
  have hgx : ∀ x p, One base w x p → gC a b x = qC a b p := fun x p ho => by unfold gC qC; rw [ho.1, ho.2.1]
  have hd0 := Dat.filter _ _ hgx h.dat
  have hkl := hd0.len
  have HD0 := hid hd0
  have hle : (P.filter fun p => !qC a b p).length ≤ P.length := List.length_filter_le _ _
  clear h h1 h2 hgx hd0
  obtain ⟨A, cp, rfl⟩ := H.out.shape
  rw [← hlen, ← hkl]
  rw [← hkl, ← hlen] at hle
  clear hkl hlen
  go_enter Try.func30, Try.ntmps30
  go_wp2_with (go_at_call 43
               refine (HD.out _ (Gr.refl _)).mono ?_
               rintro en w8 ⟨v8, rfl, hr8, hm8, ho8⟩
               have HR8 := hid hr8
               have M8 := hid hm8
               have HC8 := hid ((M8.out.block g hlt H.out.ne).trans H.out.cell)
               obtain ⟨_, _, q2, q3, _, _, qf2, qf3⟩ := heap4 HC8.out
               have hl8 : g < w8.heap.size := (Array.getElem?_eq_some_iff.1 HC8.out).1
               obtain ⟨A8, c8, rfl⟩ := own_shape hr8
               clear hr8 hm8 ho8)
  go_ret
  have hd8 := Dat.mod M8.out H.out.no5 HD0.out
  have hm8 : MP w8 mb n S := H.out.mp.keep (M8.out.block mb H.out.mp.lt H.out.nem.2)
  exact ⟨rfl, ⟨_, NB.put H.out.lo H.out.mlo H.out.hn HC8.out HR8.out hm8 hd8⟩, (M8.out.mono (fun _ _ h => .inr (.inr h))).set (p := ⟨g, 2, none⟩) (fun _ => .inl rfl) _⟩
end Go.Proofs.Ytlencagfkajcnaa
