import Derived.Test.YtlencagfkajcnaaM5
import Derived.Test.YtlencagfkajcnaaN7
namespace Go.Proofs.Ytlencagfkajcnaa
open Go.RowKit Go.Ext Go.BigFrame Go.Maps
attribute [local go_sem] Ext.cell Ext.frozen Ext.lt Ext.le s1 s2 s3 s4 s5 s6 t1 t2 t3 t4 t5 t6
attribute [local go_sem ↓] Go.wp_at_zero Go.wp_at_succ


set_option maxHeartbeats 600000 in
/-- What is lost for a node. -/
theorem loseK_any (base g mb n B1 : Nat) (nodes sent a : Int) (v : Value) (L : List It) (S : Int × Int → Bool) (P : List Pk) (w : World) (h : NB base w g nodes sent mb n v L S P) (hl : L.length ≤ 1000000)
    (h1 : w.cell? ⟨B1, 0, none⟩ = some (.int .i64 a)) (n1 : v.ownBlock ≠ some B1) :
    Calls Try.prog 30 #[.pointer (some ⟨g, 0, none⟩), .func (.func 32) #[] #[.pointer (some ⟨B1, 0, none⟩)]] w
      (fun e w' => e = .returned (.int .i64 ((P.length : Int) - (P.filter fun p => !qK a p).length)) ∧ (∃ v', NB base w' g nodes sent mb n v' (keepF (gK a) L) S (P.filter fun p => !qK a p)) ∧ Mod (fun k => k = g ∨ k = mb ∨ some k = v.ownBlock) w w') := by
  have H := hid h
  have hlt := h.lt
  obtain ⟨_, _, c2, _, f2, _⟩ := h.cs
  have hlen := h.dat.len
  have HD := hid (fun W (y : Gr w W) => delfn_anyK base a v L B1 W (own_gr h.row y) hl ((y.cell (p := ⟨B1, 0, none⟩) (World.block_lt_of_cell? _ _ h1)).trans h1) n1)
  have hgx : ∀ x p, One base w x p → gK a x = qK a p := fun x p ho => by unfold gK qK; rw [ho.2.1]
  have hd0 := Dat.filter _ _ hgx h.dat
  have hkl := hd0.len
  have HD0 := hid hd0
  have hle : (P.filter fun p => !qK a p).length ≤ P.length := List.length_filter_le _ _
  clear h h1 hgx hd0
  obtain ⟨A, cp, rfl⟩ := H.out.shape
  rw [← hlen, ← hkl]
  rw [← hkl, ← hlen] at hle
  clear hkl hlen
  go_enter Try.func30, Try.ntmps30
  go_wp2_with (go_at_call 43
               refine (HD.out _ (Gr.refl _)).mono ?_
               rintro en w8 ⟨v8, rfl, hr8, hm8, ho8⟩
               have HR8 := hid hr8
               have M8 := hid hm8
               have HC8 := hid ((M8.out.block g hlt H.out.ne).trans H.out.cell)
               obtain ⟨_, _, q2, q3, _, _, qf2, qf3⟩ := heap4 HC8.out
               have hl8 : g < w8.heap.size := (Array.getElem?_eq_some_iff.1 HC8.out).1
               obtain ⟨A8, c8, rfl⟩ := own_shape hr8
               clear hr8 hm8 ho8)
  go_ret
  have hd8 := Dat.mod M8.out H.out.no5 HD0.out
  have hm8 : MP w8 mb n S := H.out.mp.keep (M8.out.block mb H.out.mp.lt H.out.nem.2)
  exact ⟨rfl, ⟨_, NB.put H.out.lo H.out.mlo H.out.hn HC8.out HR8.out hm8 hd8⟩, (M8.out.mono (fun _ _ h => .inr (.inr h))).set (p := ⟨g, 2, none⟩) (fun _ => .inl rfl) _⟩

theorem clear_any (base g n : Nat) (nodes sent a : Int) (S : Int × Int → Bool) (P : List Pk) (w : World) (h : Nt base w g nodes sent n S P) (hl : P.length ≤ 1000000) :
    Calls Try.prog 15 #[.pointer (some ⟨g, 0, none⟩), .int .i64 a] w (RetN base g nodes sent n S (P.filter fun p => !qK a p) (.int .i64 ((P.length : Int) - (P.filter fun p => !qK a p).length)) w) := by
  obtain ⟨mb, v, L, h⟩ := h
  have hlen := h.dat.len
  have hol : v.ownBlock ≠ some w.heap.size := fun e => by have := (h.row.lt _ e).2; omega
  have G1 : Gr w (w.alloc (.cells #[.int .i64 a] 3)) := (Gr.refl w).alloc _
  have HC := hid (loseK_any base g mb n w.heap.size nodes sent a v L S P _ (h.gr G1) (by omega) (cell1 (heap_alloc_new w (.cells #[.int .i64 a] 3))) hol)
  have H := hid h
  clear h hlen
  go_enter Try.func15, Try.ntmps15
  go_wp2_with (go_at_call 30; refine HC.out.mono ?_; rintro en w7 ⟨rfl, h7, m7⟩; have H7 := hid h7; have M7 := hid m7; clear h7 m7)
  go_ret
  obtain ⟨v', h7⟩ := H7.out
  exact ⟨rfl, ⟨mb, v', _, h7⟩, (MN.of_gr G1).trans ((H.out.gr G1).mn M7.out)⟩

theorem step_mapUpdate_own {H : Type} {P : Program} {w : World} {ops : Array Oper} {o : Oper} {a : Act} {K : Act → World → Prop} {Q : Exit → Act → World → Prop} {E : Prop}
    (hg : o.guard = none) (m x v : Operand) (t : TypeId) (hop : o.op = Op.mapUpdate t m x v)
    (k e : TypeId) (KK : Keyed P k) (ht : P.underlying t = some (.map k e)) (R : Value → Option (DataW H × List MemPlace)) (b n : Nat) (D : DataW H)
    (hm : a.eval m = .map (some b)) (hown : w.ownsMap P k R b n D) (hn : n < maxLen) (key val : Value) (kl : Lit) (hx : a.eval x = key) (hv : a.eval v = val) (hkey : keyOf P k key = some kl)
    (d : DataW H) (ps : List MemPlace) (hval : R val = some (d, ps))
    (hK : ∀ w', w'.ownsMap P k R b (n + 1) (D.put kl d) → w.grownBy w' (some b) → K (a.put o.dst undef) w') :
    if Region.wanted o (yielded ops a.tmps) = true then Oper.wp P o a w K Q else E := by
  have hw : Region.wanted o (yielded ops a.tmps) = true := by simp [Region.wanted, hg]
  rw [if_pos hw]
  obtain ⟨w', hrun, r1, r2⟩ := hown.update KK ht hn hkey hval
  unfold Oper.wp
  simp [execOp, hop, hm, hx, hv, hrun, Result.andThen]
  exact hK w' r1 r2
end Go.Proofs.Ytlencagfkajcnaa
