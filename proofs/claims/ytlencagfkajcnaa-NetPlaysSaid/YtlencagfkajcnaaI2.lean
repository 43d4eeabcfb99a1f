import Derived.Test.YtlencagfkajcnaaI
namespace Go.Proofs.Ytlencagfkajcnaa
open Go.RowKit Go.Ext Go.BigFrame
attribute [local go_sem] Ext.cell Ext.frozen Ext.lt Ext.le s1 s2 s3 s4 s5 s6 t1 t2 t3 t4 t5 t6
attribute [local go_sem ↓] Go.wp_at_zero Go.wp_at_succ

set_option maxHeartbeats 600000 in
/-- In the midst, there is none. -/
theorem insert_grow (base vb g cap i : Nat) (C : List Value) (L : List It) (x : It) (w : World) (hg : w.heap[g]? = some (.cells C.toArray 33 (0, 0))) (hC : C.take (L.length * 4) = cs6 L)
    (hb : w.heap[vb]? = some (.cells (ic x).toArray 33 (0, 0))) (hl : L.length ≤ 1000000) (hi : i < L.length) (hnc : L.length ≤ cap) (hroom : cap < L.length + 1) (hbase : base ≤ w.heap.size) :
    Calls Try.prog 25 #[.slice (some ⟨g, 0, none⟩) L.length cap, .int .i64 i, .slice (some ⟨vb, 0, none⟩) 1 1] w (RetRow base (.slice (some ⟨g, 0, none⟩) L.length cap) (L.take i ++ x :: L.drop i) w) := by
  obtain ⟨i0, hi0, hz0, hz1, hz2⟩ := info_parts info33
  have hlt : g < w.heap.size := (Array.getElem?_eq_some_iff.1 hg).1
  have hD : (cs6 (L.drop i)).length = (L.length - i) * 4 := by rw [cs6_length, List.length_drop]
  have hOl : (cs6 (L.take i)).length = i * 4 := by rw [cs6_length, List.length_take, Nat.min_eq_left (by omega)]
  have hsrc : ∀ j u, (cs6 (L.drop i))[j]? = some u → C[i * 4 + j]? = some u := by
    intro j u hu
    have hj := (List.getElem?_eq_some_iff.1 hu).1
    rw [cs6_drop, List.getElem?_drop, ← hC, List.getElem?_take] at hu
    split at hu
    · exact hu
    · cases hu
  have hsrc0 : ∀ j u, (cs6 (L.take i))[j]? = some u → C[0 + j]? = some u := by
    intro j u hu
    rw [cs6_take, ← hC, List.take_take, List.getElem?_take] at hu
    split at hu
    · rwa [Nat.zero_add]
    · cases hu
  have hkk : (L.length : Int) + 1 - (i : Int) = ((L.length + 1 - i : Nat) : Int) := by omega
  have hold : (Builtin.firstCells i0.size i (.slice (some ⟨g, 0, none⟩) i cap)).run Try.prog w.drew = .ok (cs6 (L.take i)).toArray w.drew := by
    rw [hz1]
    exact run_firstCells_some w.drew 4 i ⟨g, 0, none⟩ i cap _ hOl (row_add (w := w.drew) hg _ _ hsrc0)
  have hG1 := grownCap_ge w (L.length + 1) cap 33
  have hG2 := grownCap_le_maxLen w (L.length + 1) cap 33 (by unfold maxLen; omega)
  have hap : ∀ ty, (Builtin.append_ #[30, 3] ty #[.slice (some ⟨g, 0, none⟩) i cap, .int .i64 ((L.length : Int) + 1 - (i : Int))]).run Try.prog w = .ok (.slice (some ⟨w.heap.size, 0, none⟩) (i + (L.length + 1 - i)) (grownCap w (i + (L.length + 1 - i)) cap 33)) (w.drew.alloc (.cells ((cs6 (L.take i)).toArray ++ Builtin.zeroCells (Value.agg #[.int .i64 0, .int .i64 0, .int .i64 0, .slice none 0 0]).cells (L.length + 1 - i) ++ Builtin.zeroCells (Value.agg #[.int .i64 0, .int .i64 0, .int .i64 0, .slice none 0 0]).cells (grownCap w (i + (L.length + 1 - i)) cap 33 - (i + (L.length + 1 - i)))) 33)) := fun ty => by
    rw [hkk]
    exact Lib.run_append_grow_zeros w 30 3 ty 33 i0 _ .i64 .i64 Try.underlying30 Try.underlying3 hi0 hz0 (some ⟨g, 0, none⟩) i cap _ hold (L.length + 1 - i) (by omega) (by omega) (by omega) (by omega) (by rw [hz2]; omega) (by rw [hz2, show i + (L.length + 1 - i) = L.length + 1 by omega]; exact growslice_fits hroom (by omega))
  rw [show i + (L.length + 1 - i) = L.length + 1 by omega] at hap
  obtain ⟨Z, hZ⟩ : ∃ Z, Z = (Builtin.zeroCells (Value.agg #[.int .i64 0, .int .i64 0, .int .i64 0, .slice none 0 0]).cells (L.length + 1 - i)).toList ++ (Builtin.zeroCells (Value.agg #[.int .i64 0, .int .i64 0, .int .i64 0, .slice none 0 0]).cells (grownCap w (L.length + 1) cap 33 - (L.length + 1))).toList := ⟨_, rfl⟩
  have hZl : Z.length = (grownCap w (L.length + 1) cap 33 - i) * 4 := by
    rw [hZ]
    simp only [List.length_append, Array.length_toList, size_zeroCells, Value.cells]
    show (L.length + 1 - i) * 4 + _ * 4 = _
    omega
  have hZe : (cs6 (L.take i)).toArray ++ Builtin.zeroCells (Value.agg #[.int .i64 0, .int .i64 0, .int .i64 0, .slice none 0 0]).cells (L.length + 1 - i) ++ Builtin.zeroCells (Value.agg #[.int .i64 0, .int .i64 0, .int .i64 0, .slice none 0 0]).cells (grownCap w (L.length + 1) cap 33 - (L.length + 1)) = (cs6 (L.take i) ++ Z).toArray := by
    rw [hZ]
    apply Array.ext'
    simp
  rw [hZe] at hap
  clear hZe hZ
  generalize grownCap w (L.length + 1) cap 33 = G at *
  have hfull := hid (splice_grow Z L x i (by omega) (by rw [hZl]; exact Nat.mul_le_mul_right _ (by omega)))
  obtain ⟨H, hH⟩ : ∃ H, H = w.heap.size := ⟨_, rfl⟩
  have hh0 : (w.drew.alloc (.cells (cs6 (L.take i) ++ Z).toArray 33)).heap[H]? = some (.cells (cs6 (L.take i) ++ Z).toArray 33 (0, 0)) := by rw [hH]; exact heap_alloc_new w.drew _
  have hg0 : Gr w (w.drew.alloc (.cells (cs6 (L.take i) ++ Z).toArray 33)) := (Gr.refl w).drew.alloc _
  have hl0 : (cs6 (L.take i) ++ Z).length = G * 4 := by rw [List.length_append, hOl, hZl, ← Nat.add_mul]; congr 1; omega
  rw [← hH] at hap
  generalize hw0 : w.drew.alloc (.cells (cs6 (L.take i) ++ Z).toArray 33) = W0 at *
  generalize cs6 (L.take i) ++ Z = C0 at *
  have hb0 : W0.heap[vb]? = some (.cells (ic x).toArray 33 (0, 0)) := (hg0.block vb (Array.getElem?_eq_some_iff.1 hb).1).trans hb
  have hg00 : W0.heap[g]? = some (.cells C.toArray 33 (0, 0)) := (hg0.block g hlt).trans hg
  have hcp1 : ∀ ty dc, (Builtin.copy_ #[30, 30] ty #[.slice (some ⟨H, i * 4, none⟩) (L.length + 1 - i) dc, .slice (some ⟨vb, 0, none⟩) 1 1]).run Try.prog W0 = .ok (goInt 1) (W0.setRow H (splice C0 (i * 4) (ic x)).toArray) := fun ty dc =>
    run_copy_rowk W0 30 30 ty 33 4 H (i * 4) (L.length + 1 - i) dc ⟨vb, 0, none⟩ 1 1 1 C0 33 (ic x) Try.underlying30 i0 hi0 hz1 hh0 (by simp only [Nat.min_def]; split <;> omega) rfl (World.news_of_block (cs := (ic x).toArray) hb0) (by rw [hl0, ic_length]; omega) (ic_one x)
  have hl1 : (splice C0 (i * 4) (ic x)).length = G * 4 := (length_splice _ _ _ (by rw [hl0, ic_length]; omega)).trans hl0
  have hh1 := setRow_heap W0 H _ (splice C0 (i * 4) (ic x)).toArray 33 _ hh0
  have hm1 := setRow_mod W0 H (splice C0 (i * 4) (ic x)).toArray
  have hg1 : (W0.setRow H (splice C0 (i * 4) (ic x)).toArray).heap[g]? = some (.cells C.toArray 33 (0, 0)) := (hm1.block g (Nat.lt_of_lt_of_le hlt hg0.size) (by omega)).trans hg00
  generalize hw1 : W0.setRow H (splice C0 (i * 4) (ic x)).toArray = W1 at *
  generalize splice C0 (i * 4) (ic x) = C1 at *
  have hcp2 : ∀ ty dc sc, (Builtin.copy_ #[30, 30] ty #[.slice (some ⟨H, (i + 1) * 4, none⟩) (L.length - i) dc, .slice (some ⟨g, i * 4, none⟩) (L.length - i) sc]).run Try.prog W1.drew = .ok (goInt (L.length - i : Nat)) (W1.drew.setRow H (splice C1 ((i + 1) * 4) (cs6 (L.drop i))).toArray) := fun ty dc sc =>
    run_copy_rowk W1.drew 30 30 ty 33 4 H ((i + 1) * 4) (L.length - i) dc ⟨g, i * 4, none⟩ (L.length - i) sc (L.length - i) C1 33 (cs6 (L.drop i)) Try.underlying30 i0 hi0 hz1 hh1 (by simp only [Nat.min_def]; split <;> omega) (by rw [hD]) (row_add (w := W1.drew) hg1 _ _ hsrc) (by rw [hD, hl1]; omega) (cs6_one _)
  have hl2 : (splice C1 ((i + 1) * 4) (cs6 (L.drop i))).length = G * 4 := (length_splice _ _ _ (by rw [hD, hl1]; omega)).trans hl1
  have hh2 := hid (setRow_heap W1.drew H _ (splice C1 ((i + 1) * 4) (cs6 (L.drop i))).toArray 33 _ hh1)
  have hm2 := hid (hm1.trans (((Gr.refl W1).drew.mod fun b => b = H).trans (setRow_mod W1.drew H (splice C1 ((i + 1) * 4) (cs6 (L.drop i))).toArray) (fun _ _ h => h)) (fun _ _ h => h))
  generalize hw2 : W1.drew.setRow H (splice C1 ((i + 1) * 4) (cs6 (L.drop i))).toArray = W2 at *
  generalize splice C1 ((i + 1) * 4) (cs6 (L.drop i)) = C2 at *
  have HX0 := hid hw0
  have HX1 := hid hw1
  have HX2 := hid hw2
  have HG0 := hid hg0
  have HH := hid hH
  clear hkk hw0 hw1 hw2 hg0 hg1 hg00 hh0 hh1 hm1 hb0 hsrc hsrc0 hold hg hb hD hH hZl
  have hw1 : IntKind.i64.wrap ((i : Int) + 1) = (i : Int) + 1 := by rw [IntKind.wrap_i64]; omega
  have htn : ((i : Int) + 1).toNat = i + 1 := by omega
  have hb1 : (0 : Int) ≤ (i : Int) + 1 := by omega
  have hb2 : ¬ (G = i + 1) := by omega
  have hb3 : ¬ (G = i) := by omega
  have hb6 : ¬ (cap = i) := by omega
  have hb4 : ¬ ((i : Int) = (L.length : Int)) := by omega
  have hin : i ≤ L.length := by omega
  have hb5 : (i : Int) ≤ (L.length : Int) + 1 := by omega
  go_enter Try.func25, Try.ntmps25
  go_wp2_with (first | (at_builtin; refine wpList_append_at _ rfl _ _ 30 3 rfl _ _ rfl rfl (hap _) ?_) | (at_builtin; refine wpList_copy_at _ rfl _ _ 30 30 rfl _ _ rfl rfl (hcp1 _ _) ?_))
  go_region_law (refine step_copy_at rfl _ _ 30 30 rfl _ _ (by simp [Act.eval, Act.put]) (by simp [Act.eval, Act.put]) (hcp2 _ _ _) ?_)
  all_goals (
    go_wp2_with fail
    go_ret
    have e := HH.out
    refine ⟨_, rfl, ⟨by rw [cs6_length], .inr ⟨H, G, C2.toArray, ?_, by omega, hh2.out, ?_, hG2, by simp; omega, ?_⟩⟩, ?_, .inr ⟨H, rfl, by omega⟩⟩
    · simp; omega
    · simp; omega
    · rw [show (L.take i ++ x :: L.drop i).length = L.length + 1 by simp; omega]
      exact hfull.out
    · exact (HG0.out.mod _).trans hm2.out (fun b hb e => by omega))

/-- Anywhere. -/
theorem insert_any (base vb i : Nat) (v : Value) (L : List It) (x : It) (w : World) (h : w.ownsRow base 33 4 v L.length (cs6 L)) (hb : w.heap[vb]? = some (.cells (ic x).toArray 33 (0, 0))) (hne : v.ownBlock ≠ some vb) (hl : L.length ≤ 1000000) (hi : i ≤ L.length) (hbase : base ≤ w.heap.size) :
    Calls Try.prog 25 #[v, .int .i64 i, .slice (some ⟨vb, 0, none⟩) 1 1] w (RetRow base v (L.take i ++ x :: L.drop i) w) := by
  rcases Nat.lt_or_ge i L.length with hlt | hge
  · rcases id h.2 with ⟨_, h0⟩ | ⟨g, cap, cur, rfl, hbg, hg, hnc, hcm, hcs, ht⟩
    · omega
    · have hne' : vb ≠ g := fun e => hne (by rw [e]; rfl)
      have hgl : w.heap[g]? = some (.cells cur.toList.toArray 33 (0, 0)) := by simpa using hg
      rcases Nat.lt_or_ge cap (L.length + 1) with hr | hr
      · exact insert_grow base vb g cap i cur.toList L x w hgl ht hb hl hlt hnc hr hbase
      · exact insert_shift base vb g cap i cur.toList L x w hgl hbg hcm (by simpa using hcs) ht hb hne' hl hlt hr
  · have e : i = L.length := by omega
    subst e
    have := insert_end base vb v L x w h hb hl hbase
    simpa using this

end Go.Proofs.Ytlencagfkajcnaa
