import Derived.Test.YtlencagfkajcnaaI
namespace Go.Proofs.Ytlencagfkajcnaa
open Go.RowKit Go.Ext Go.BigFrame
attribute [local go_sem] Ext.cell Ext.frozen Ext.lt Ext.le s1 s2 s3 s4 s5 s6 t1 t2 t3 t4 t5 t6
attribute [local go_sem ↓] Go.wp_at_zero Go.wp_at_succ

theorem zero33 (w : World) : (zeroValue 33).run Try.prog w = .ok (.agg #[.int .i64 0, .int .i64 0, .int .i64 0, .slice none 0 0]) w := by kernel_rfl

theorem splice_take (C Z : List Value) (o : Nat) (h : o ≤ C.length) : (splice C o Z).take o = C.take o := by
  unfold splice
  exact List.take_left' (by rw [List.length_take]; omega)
theorem splice_del (C Z : List Value) (L : List It) (i m : Nat) (hi : i < L.length) (hm : m + 1 = L.length) (hC : C.take (L.length * 4) = cs6 L) (hlen : L.length * 4 ≤ C.length) :
    (splice (splice C (i * 4) (cs6 (L.drop (i + 1)))) (m * 4) Z).take (m * 4) = cs6 (L.take i ++ L.drop (i + 1)) := by
  have hO : C.take (i * 4) = cs6 (L.take i) := by rw [cs6_take, ← hC, List.take_take, Nat.min_eq_left (by omega)]
  have hD : (cs6 (L.drop (i + 1))).length = (L.length - (i + 1)) * 4 := by rw [cs6_length, List.length_drop]
  have hOl : (cs6 (L.take i)).length = i * 4 := by rw [cs6_length, List.length_take, Nat.min_eq_left (by omega)]
  have hl1 : (splice C (i * 4) (cs6 (L.drop (i + 1)))).length = C.length := length_splice _ _ _ (by rw [hD]; omega)
  have e : (splice (splice C (i * 4) (cs6 (L.drop (i + 1)))) (m * 4) Z).take (m * 4) = (splice C (i * 4) (cs6 (L.drop (i + 1)))).take (m * 4) := by
    exact splice_take _ _ _ (by rw [hl1]; omega)
  rw [e, cs6_app]
  unfold splice
  rw [hO, ← List.append_assoc, List.take_left' (by rw [List.length_append, hOl, hD]; omega)]

set_option maxHeartbeats 600000 in
theorem delete_any (base i : Nat) (v : Value) (L : List It) (w : World) (h : w.ownsRow base 33 4 v L.length (cs6 L)) (hl : L.length ≤ 1000000) (hi : i < L.length) :
    Calls Try.prog 28 #[v, .int .i64 i, .int .i64 ((i : Int) + 1)] w (RetRow base v (L.take i ++ L.drop (i + 1)) w) := by
  obtain ⟨i0, hi0, hz0, hz1, hz2⟩ := info_parts info33
  rcases id h.2 with ⟨_, h0⟩ | ⟨g, cap, cur, rfl, hbg, hg', hnc, hcm, hcs, ht⟩
  · omega
  obtain ⟨C, hC0⟩ : ∃ C, C = cur.toList := ⟨_, rfl⟩
  have hg : w.heap[g]? = some (.cells C.toArray 33 (0, 0)) := by rw [hC0]; simpa using hg'
  have hCl : C.length = cap * 4 := by rw [hC0]; simpa using hcs
  rw [← hC0] at ht
  clear hC0 hg' hcs h
  have hD : (cs6 (L.drop (i + 1))).length = (L.length - (i + 1)) * 4 := by rw [cs6_length, List.length_drop]
  obtain ⟨m, hm⟩ : ∃ m, i + (L.length - (i + 1)) = m := ⟨_, rfl⟩
  have hfull := hid (fun Z => splice_del C Z L i m hi (by omega) ht (by omega))
  have hsrc : ∀ j u, (cs6 (L.drop (i + 1)))[j]? = some u → C[(i + 1) * 4 + j]? = some u := by
    intro j u hu
    rw [cs6_drop, List.getElem?_drop, ← ht, List.getElem?_take] at hu
    split at hu
    · exact hu
    · cases hu
  obtain ⟨ad, had⟩ : ∃ ad, (if cap = i + 1 then some (⟨g, 0, none⟩ : Addr) else some ⟨g, (i + 1) * 4, none⟩) = some ad := by split <;> exact ⟨_, rfl⟩
  have hnews : ∀ j u, (cs6 (L.drop (i + 1)))[j]? = some u → w.cell? (ad.add j) = some u := by
    split at had
    · intro j u hu
      have := (List.getElem?_eq_some_iff.1 hu).1
      rw [hD] at this
      omega
    · injection had with had
      subst had
      exact row_add hg _ _ hsrc
  have hap : ∀ ty c', (Builtin.append_ #[30, 30] ty #[.slice (some ⟨g, 0, none⟩) i cap, .slice (some ad) (L.length - (i + 1)) c']).run Try.prog w.drew = .ok (.slice (some ⟨g, 0, none⟩) m cap) (w.drew.setRow g (splice C (i * 4) (cs6 (L.drop (i + 1)))).toArray) := fun ty c' => by
    rw [← hm]
    exact run_append_rowk w.drew 30 ty 33 i0 Try.underlying30 hi0 4 hz1 g i cap C hg ad (L.length - (i + 1)) c' (cs6 (L.drop (i + 1))) hD (fun j u hu => by have := hnews j u hu; simpa using this) (cs6_one _) (by omega) (by rw [hD]; omega)
  have hlen1 : (splice C (i * 4) (cs6 (L.drop (i + 1)))).length = C.length := length_splice _ _ _ (by rw [hD]; omega)
  have hh1 : (w.drew.setRow g (splice C (i * 4) (cs6 (L.drop (i + 1)))).toArray).heap[g]? = some (.cells (splice C (i * 4) (cs6 (L.drop (i + 1)))).toArray 33 (0, 0)) := setRow_heap w.drew g _ _ 33 _ hg
  have hm1 : Mod (fun b => b = g) w (w.drew.setRow g (splice C (i * 4) (cs6 (L.drop (i + 1)))).toArray) := ((Gr.refl w).drew.mod _).trans (setRow_mod _ g _) (fun _ _ h => h)
  generalize hw1 : w.drew.setRow g (splice C (i * 4) (cs6 (L.drop (i + 1)))).toArray = W1 at *
  generalize splice C (i * 4) (cs6 (L.drop (i + 1))) = C1 at *
  have hcl : ∀ ty c', (Builtin.clear_ #[30] ty #[.slice (some ⟨g, m * 4, none⟩) 1 c']).run Try.prog W1 = .ok (.tuple #[]) (W1.setRow g (splice C1 (m * 4) (Builtin.zeroCells (Value.agg #[.int .i64 0, .int .i64 0, .int .i64 0, .slice none 0 0]).cells 1).toList).toArray) := fun ty c' =>
    run_clear_rowk W1 30 33 ty _ 4 Try.underlying30 (zero33 W1) rfl (by intro v hv; simp [Value.cells] at hv; rcases hv with rfl | rfl <;> rfl) g (m * 4) 1 c' (by omega) C1 33 hh1 (by omega)
  have hh2 := hid (setRow_heap W1 g _ (splice C1 (m * 4) (Builtin.zeroCells (Value.agg #[.int .i64 0, .int .i64 0, .int .i64 0, .slice none 0 0]).cells 1).toList).toArray 33 _ hh1)
  have hm2 := hid (hm1.trans (setRow_mod W1 g (splice C1 (m * 4) (Builtin.zeroCells (Value.agg #[.int .i64 0, .int .i64 0, .int .i64 0, .slice none 0 0]).cells 1).toList).toArray) (fun _ _ h => h))
  have hlen2 : (splice C1 (m * 4) (Builtin.zeroCells (Value.agg #[.int .i64 0, .int .i64 0, .int .i64 0, .slice none 0 0]).cells 1).toList).length = C.length := (length_splice _ _ _ (by rw [Array.length_toList, size_zeroCells]; simp only [Value.cells]; show _ + 1 * 4 ≤ _; omega)).trans hlen1
  have hfull2 := hid (hfull.out (Builtin.zeroCells (Value.agg #[.int .i64 0, .int .i64 0, .int .i64 0, .slice none 0 0]).cells 1).toList)
  clear hfull
  generalize hw2 : W1.setRow g (splice C1 (m * 4) (Builtin.zeroCells (Value.agg #[.int .i64 0, .int .i64 0, .int .i64 0, .slice none 0 0]).cells 1).toList).toArray = W2 at *
  generalize splice C1 (m * 4) (Builtin.zeroCells (Value.agg #[.int .i64 0, .int .i64 0, .int .i64 0, .slice none 0 0]).cells 1).toList = C2 at *
  have HX := hid hw1
  have HX2 := hid hw2
  have HM := hid hm
  clear hw1 hw2 hsrc hm1 hh1 hg hD hnews
  have hma : m + 1 ≤ L.length := by omega
  have hmb : L.length ≤ m + 1 := by omega
  clear hm
  have hn1 : L.length - m = 1 := by omega
  have hmn : m ≤ L.length := by omega
  have hw1 : IntKind.i64.wrap ((i : Int) + 1) = (i : Int) + 1 := by rw [IntKind.wrap_i64]; omega
  have htn : ((i : Int) + 1).toNat = i + 1 := by omega
  have hb1 : (0 : Int) ≤ (i : Int) + 1 := by omega
  have hb2 : ¬ (cap = m) := by omega
  have hb4 : ¬ ((i : Int) = (i : Int) + 1) := by omega
  have hb5 : (i : Int) + 1 ≤ (L.length : Int) := by omega
  have hb6 : i + 1 ≤ L.length := by omega
  have hin : i ≤ L.length := by omega
  have hcn : L.length ≤ cap := by omega
  have hic : i ≤ cap := by omega
  go_enter Try.func28, Try.ntmps28
  go_wp2_with fail
  go_region_law (refine step_append_at (by rfl) (.tmp 22) (.tmp 25) 30 30 (by rfl) (.slice (some ⟨g, 0, none⟩) i cap) (.slice (some ad) (L.length - (i + 1)) (cap - (i + 1))) (by rfl) (by rfl) (hap _ _) ?_)
  all_goals (
    go_wp2_with (at_builtin; refine wpList_clear_at _ rfl _ 30 rfl _ rfl (hcl _ _) ?_)
    go_ret
    have e := HM.out
    refine ⟨_, rfl, ⟨by rw [cs6_length], .inr ⟨g, cap, C2.toArray, ?_, hbg, hh2.out, ?_, hcm, by simp; omega, ?_⟩⟩, hm2.out.mono (fun _ _ h => by simp [Value.ownBlock, h]), .inl rfl⟩
    · simp; omega
    · simp; omega
    · rw [show (L.take i ++ L.drop (i + 1)).length = m by simp; omega]
      exact hfull2.out)
end Go.Proofs.Ytlencagfkajcnaa
