import Derived.Test.YtlencagfkajcnaaO
import Derived.Test.YtlencagfkajcnaaV
namespace Go.Proofs.Ytlencagfkajcnaa
open Go.RowKit Go.Ext Go.BigFrame
attribute [local go_sem] Ext.cell Ext.frozen Ext.lt Ext.le s1 s2 s3 s4 s5 s6 t1 t2 t3 t4 t5 t6
attribute [local go_sem ↓] Go.wp_at_zero Go.wp_at_succ

theorem info33 : (Try.prog.info? 33).map (fun i => (i.zero, i.size, i.bytes)) = some (some (.agg #[.int .i64 0, .int .i64 0, .int .i64 0, .slice none 0 0]), 4, 48) := by kernel_rfl
theorem ic_one (x : It) : ∀ u ∈ ic x, u.oneCell' = true := by
  intro u hu
  simp only [ic, List.mem_cons, List.not_mem_nil, or_false] at hu
  rcases hu with rfl | rfl | rfl | rfl <;> rfl

/-- A row of the heap's own that has turned; what it has turned. -/
def RetRow (base : Nat) (v : Value) (L' : List It) (w : World) (e : Ending) (w' : World) : Prop :=
  ∃ v', e = .returned v' ∧ w'.ownsRow base 33 4 v' L'.length (cs6 L') ∧ Mod (fun k => some k = v.ownBlock) w w' ∧ (v'.ownBlock = v.ownBlock ∨ ∃ k, v'.ownBlock = some k ∧ w.heap.size ≤ k)

theorem mod_grown {row : Option Nat} {w w' : World} (h : w.grownBy w' row) : Mod (fun b => some b = row) w w' := ⟨h.os, h.tape, h.output, h.size, fun k hk hn => h.block k hk hn⟩

/-- At the end. -/
theorem insert_end (base vb : Nat) (v : Value) (L : List It) (x : It) (w : World) (h : w.ownsRow base 33 4 v L.length (cs6 L)) (hb : w.heap[vb]? = some (.cells (ic x).toArray 33 (0, 0))) (hl : L.length ≤ 1000000) (hbase : base ≤ w.heap.size) :
    Calls Try.prog 25 #[v, .int .i64 L.length, .slice (some ⟨vb, 0, none⟩) 1 1] w (RetRow base v (L ++ [x]) w) := by
  obtain ⟨i0, hi0, hz0, hz1, hz2⟩ := info_parts info33
  have H := hid h
  have HBk := hid hb
  have hsh : ∃ A c, v = .slice A L.length c := by
    rcases h.2 with ⟨rfl, h0⟩ | ⟨g, cap, cur, rfl, _⟩
    · exact ⟨none, 0, by rw [h0]⟩
    · exact ⟨_, _, rfl⟩
  have hcp : ∀ A c, v = .slice A L.length c → L.length ≤ c := by
    intro A c e
    rcases h.2 with ⟨rfl, h0⟩ | ⟨g, cap, cur, rfl, _, _, hc, _⟩
    · omega
    · injection e with _ _ e; omega
  obtain ⟨A, c, rfl⟩ := hsh
  have hc := hcp A c rfl
  clear hcp h hb
  obtain ⟨D, hD⟩ : ∃ D, (if c = L.length then A else Option.map (fun x => x.add (L.length * 4)) A) = D := ⟨_, rfl⟩
  go_enter Try.func25, Try.ntmps25
  go_wp2_with (at_builtin; refine wpList_append_lies _ rfl _ _ 30 rfl base 33 i0 _ 4 48 Try.underlying30 hi0 hz0 hz1 hz2 rfl (by omega) (.slice A L.length c) L.length (cs6 L) rfl H.out ⟨vb, 0, none⟩ 1 1 (ic x) rfl rfl (World.news_of_block (cs := (ic x).toArray) HBk.out) (ic_one x) (by omega) (by unfold maxLen; omega) (by omega) hbase _ rfl ?_; intro gg cap w1 hown hgrow hat hlt)
  go_ret
  refine ⟨_, rfl, ?_, mod_grown hgrow, ?_⟩
  · rw [cs6_app, List.length_append, List.length_singleton]
    exact hown
  · rcases hat with h | h
    · exact .inl h.symm
    · exact .inr ⟨gg, rfl, by omega⟩

theorem len_cs (L : List It) : (cs6 L).length = L.length * 4 := cs6_length L
theorem take3 (O X D R : List Value) (n : Nat) (hn : n = O.length + X.length + D.length) : (O ++ (X ++ (D ++ R))).take n = O ++ (X ++ D) := by
  rw [← List.append_assoc X D R, ← List.append_assoc O (X ++ D) R]
  rw [List.take_left' (by simp; omega)]
theorem splice_shift (C : List Value) (L : List It) (x : It) (i : Nat) (hi : i ≤ L.length) (hC : C.take (L.length * 4) = cs6 L) (_hlen : (L.length + 1) * 4 ≤ C.length) :
    (splice (splice C ((i + 1) * 4) (cs6 (L.drop i))) (i * 4) (ic x)).take ((L.length + 1) * 4) = cs6 (L.take i ++ x :: L.drop i) := by
  have hO : C.take (i * 4) = cs6 (L.take i) := by rw [cs6_take, ← hC, List.take_take, Nat.min_eq_left (by omega)]
  have hD : (cs6 (L.drop i)).length = (L.length - i) * 4 := by rw [cs6_length, List.length_drop]
  have hOl : (cs6 (L.take i)).length = i * 4 := by rw [cs6_length, List.length_take, Nat.min_eq_left hi]
  have h1 : (splice C ((i + 1) * 4) (cs6 (L.drop i))).take (i * 4) = cs6 (L.take i) := by
    unfold splice
    rw [List.take_append_of_le_length (by rw [List.length_take]; omega), List.take_take, Nat.min_eq_left (by omega), hO]
  have h2 : (splice C ((i + 1) * 4) (cs6 (L.drop i))).drop (i * 4 + (ic x).length) = cs6 (L.drop i) ++ C.drop ((i + 1) * 4 + (cs6 (L.drop i)).length) := by
    unfold splice
    rw [List.drop_left' (by rw [List.length_take, ic_length]; omega)]
  have e : splice (splice C ((i + 1) * 4) (cs6 (L.drop i))) (i * 4) (ic x) = cs6 (L.take i) ++ (ic x ++ (cs6 (L.drop i) ++ C.drop ((i + 1) * 4 + (cs6 (L.drop i)).length))) := by
    rw [← h1, ← h2]; rfl
  rw [e, take3 _ _ _ _ _ (by rw [hOl, hD, ic_length]; omega), cs6_app, show cs6 (x :: L.drop i) = ic x ++ cs6 (L.drop i) from rfl]
theorem splice_grow (Z : List Value) (L : List It) (x : It) (i : Nat) (hi : i ≤ L.length) (_hlen : (L.length + 1 - i) * 4 ≤ Z.length) :
    (splice (splice (cs6 (L.take i) ++ Z) (i * 4) (ic x)) ((i + 1) * 4) (cs6 (L.drop i))).take ((L.length + 1) * 4) = cs6 (L.take i ++ x :: L.drop i) := by
  have hD : (cs6 (L.drop i)).length = (L.length - i) * 4 := by rw [cs6_length, List.length_drop]
  have hOl : (cs6 (L.take i)).length = i * 4 := by rw [cs6_length, List.length_take, Nat.min_eq_left hi]
  have e1 : splice (cs6 (L.take i) ++ Z) (i * 4) (ic x) = cs6 (L.take i) ++ (ic x ++ Z.drop 4) := by
    unfold splice
    rw [List.take_left' hOl, List.drop_append, hOl, List.drop_eq_nil_of_le (by rw [hOl]; omega), List.nil_append, ic_length, show i * 4 + 4 - i * 4 = 4 by omega]
  rw [e1]
  have e2 : splice (cs6 (L.take i) ++ (ic x ++ Z.drop 4)) ((i + 1) * 4) (cs6 (L.drop i)) = cs6 (L.take i) ++ (ic x ++ (cs6 (L.drop i) ++ ((cs6 (L.take i) ++ (ic x ++ Z.drop 4)).drop ((i + 1) * 4 + (cs6 (L.drop i)).length)))) := by
    unfold splice
    rw [← List.append_assoc (cs6 (L.take i)) (ic x) (Z.drop 4), List.take_left' (by rw [List.length_append, hOl, ic_length]; omega), List.append_assoc]
  rw [e2, take3 _ _ _ _ _ (by rw [hOl, hD, ic_length]; omega), cs6_app, show cs6 (x :: L.drop i) = ic x ++ cs6 (L.drop i) from rfl]

theorem row_add {w : World} {g : Nat} {C : List Value} {t : TypeId} (hg : w.heap[g]? = some (.cells C.toArray t (0, 0))) (o : Nat) (cs : List Value) (hcs : ∀ j u, cs[j]? = some u → C[o + j]? = some u) : ∀ j u, cs[j]? = some u → w.cell? ((⟨g, o, none⟩ : Addr).add j) = some u := by
  intro j u hu
  rw [Addr.add_lit]
  simpa [World.cell?, hg] using hcs j u hu

theorem over_any (g off vb lb cb : Nat) (C : Array Value) (x : It) (w : World) (hg : w.heap[g]? = some (.cells C 33 (0, 0))) (hC : 0 < C.size) (hb : w.heap[vb]? = some (.cells (ic x).toArray 33 (0, 0))) (hne : vb ≠ g) :
    (callFunc 41 #[.slice (some ⟨vb, 0, none⟩) 1 1, .slice (some ⟨g, off, none⟩) lb cb]).run Try.prog w = .ok (.value (.bool false)) w := by
  rw [run_callFunc_extern Try.func41 (by kernel_rfl) (by kernel_rfl) (by kernel_rfl) (e := Extern.SlicesOverlaps.overlaps #[30, 30] #[4]) (by kernel_rfl),
    Lib.run_overlaps_apart w 30 4 33 Try.underlying30 4 Try.sizeOf33 ⟨vb, 0, none⟩ ⟨g, off, none⟩ 1 1 lb cb hne 33 33 4 C.size (by simp [World.shape?, hb, ic]) (by simp [World.shape?, hg]) (by omega) (by simp [World.frozen?, hb]) (by simp [World.frozen?, hb])]
  rfl

set_option maxHeartbeats 600000 in
/-- In the midst, there is room. -/
theorem insert_shift (base vb g cap i : Nat) (C : List Value) (L : List It) (x : It) (w : World) (hg : w.heap[g]? = some (.cells C.toArray 33 (0, 0))) (hbg : base ≤ g) (hcm : cap ≤ maxLen) (hCl : C.length = cap * 4) (hC : C.take (L.length * 4) = cs6 L)
    (hb : w.heap[vb]? = some (.cells (ic x).toArray 33 (0, 0))) (hne : vb ≠ g) (hl : L.length ≤ 1000000) (hi : i < L.length) (hroom : L.length + 1 ≤ cap) :
    Calls Try.prog 25 #[.slice (some ⟨g, 0, none⟩) L.length cap, .int .i64 i, .slice (some ⟨vb, 0, none⟩) 1 1] w (RetRow base (.slice (some ⟨g, 0, none⟩) L.length cap) (L.take i ++ x :: L.drop i) w) := by
  obtain ⟨i0, hi0, hz0, hz1, hz2⟩ := info_parts info33
  have hD : (cs6 (L.drop i)).length = (L.length - i) * 4 := by rw [cs6_length, List.length_drop]
  have hfull := hid (splice_shift C L x i (by omega) hC (by omega))
  have hsrc : ∀ j u, (cs6 (L.drop i))[j]? = some u → C[i * 4 + j]? = some u := by
    intro j u hu
    have hj := (List.getElem?_eq_some_iff.1 hu).1
    rw [cs6_drop, List.getElem?_drop, ← hC, List.getElem?_take] at hu
    split at hu
    · exact hu
    · cases hu
  have hov := fun lb cb => over_any g ((i + 1) * 4) vb lb cb C.toArray x w hg (by simp; omega) hb hne
  have hcp1 : ∀ ty dc sc, (Builtin.copy_ #[30, 30] ty #[.slice (some ⟨g, (i + 1) * 4, none⟩) (L.length - i) dc, .slice (some ⟨g, i * 4, none⟩) (L.length + 1 - i) sc]).run Try.prog w.drew = .ok (goInt (L.length - i : Nat)) (w.drew.setRow g (splice C ((i + 1) * 4) (cs6 (L.drop i))).toArray) := fun ty dc sc =>
    run_copy_rowk w.drew 30 30 ty 33 4 g ((i + 1) * 4) (L.length - i) dc ⟨g, i * 4, none⟩ (L.length + 1 - i) sc (L.length - i) C 33 (cs6 (L.drop i)) Try.underlying30 i0 hi0 hz1 hg (by simp only [Nat.min_def]; split <;> omega) (by rw [hD]) (row_add (w := w.drew) hg _ _ hsrc) (by rw [hD]; omega) (cs6_one _)
  have hlen1 : (splice C ((i + 1) * 4) (cs6 (L.drop i))).length = C.length := length_splice _ _ _ (by rw [hD]; omega)
  have hh1 : (w.drew.setRow g (splice C ((i + 1) * 4) (cs6 (L.drop i))).toArray).heap[g]? = some (.cells (splice C ((i + 1) * 4) (cs6 (L.drop i))).toArray 33 (0, 0)) := setRow_heap w.drew g _ _ 33 _ hg
  have hm1 : Mod (fun b => b = g) w (w.drew.setRow g (splice C ((i + 1) * 4) (cs6 (L.drop i))).toArray) := ((Gr.refl w).drew.mod _).trans (setRow_mod _ g _) (fun _ _ h => h)
  generalize hw1 : w.drew.setRow g (splice C ((i + 1) * 4) (cs6 (L.drop i))).toArray = W1 at *
  generalize splice C ((i + 1) * 4) (cs6 (L.drop i)) = C1 at *
  have hvb1 : W1.heap[vb]? = some (.cells (ic x).toArray 33 (0, 0)) := (hm1.block vb (Array.getElem?_eq_some_iff.1 hb).1 hne).trans hb
  have hcp2 : ∀ ty dc, (Builtin.copy_ #[30, 30] ty #[.slice (some ⟨g, i * 4, none⟩) (L.length + 1 - i) dc, .slice (some ⟨vb, 0, none⟩) 1 1]).run Try.prog W1 = .ok (goInt 1) (W1.setRow g (splice C1 (i * 4) (ic x)).toArray) := fun ty dc =>
    run_copy_rowk W1 30 30 ty 33 4 g (i * 4) (L.length + 1 - i) dc ⟨vb, 0, none⟩ 1 1 1 C1 33 (ic x) Try.underlying30 i0 hi0 hz1 hh1 (by simp only [Nat.min_def]; split <;> omega) rfl (World.news_of_block (cs := (ic x).toArray) hvb1) (by rw [hlen1, ic_length]; omega) (ic_one x)
  have hh2 := hid (setRow_heap W1 g _ (splice C1 (i * 4) (ic x)).toArray 33 _ hh1)
  have hm2 := hid (hm1.trans (setRow_mod W1 g (splice C1 (i * 4) (ic x)).toArray) (fun _ _ h => h))
  have hlen2 : (splice C1 (i * 4) (ic x)).length = C.length := (length_splice _ _ _ (by rw [hlen1, ic_length]; omega)).trans hlen1
  generalize hw2 : W1.setRow g (splice C1 (i * 4) (ic x)).toArray = W2 at *
  generalize splice C1 (i * 4) (ic x) = C2 at *
  have HX := hid hw1
  have HX2 := hid hw2
  clear hw1 hw2 hsrc hm1 hh1 hvb1 hg hb hD
  have hw1 : IntKind.i64.wrap ((i : Int) + 1) = (i : Int) + 1 := by rw [IntKind.wrap_i64]; omega
  have htn : ((i : Int) + 1).toNat = i + 1 := by omega
  have hb1 : (0 : Int) ≤ (i : Int) + 1 := by omega
  have hb2 : ¬ (cap = i + 1) := by omega
  have hb3 : ¬ (cap = i) := by omega
  have hb4 : ¬ ((i : Int) = (L.length : Int)) := by omega
  have hin : i ≤ L.length := by omega
  have hb5 : (i : Int) ≤ (L.length : Int) + 1 := by omega
  go_enter Try.func25, Try.ntmps25
  go_wp2_with (simp only [hov])
  go_region_law (refine step_copy_at rfl _ _ 30 30 rfl _ _ (by simp [Act.eval, Act.put]) (by simp [Act.eval, Act.put]) (hcp1 _ _ _) ?_)
  all_goals (
    go_wp2_with (at_builtin; refine wpList_copy_at _ rfl _ _ 30 30 rfl _ _ rfl rfl (hcp2 _ _) ?_)
    go_ret
    refine ⟨_, rfl, ⟨by rw [cs6_length], .inr ⟨g, cap, C2.toArray, ?_, hbg, hh2.out, ?_, hcm, by simp; omega, ?_⟩⟩, hm2.out.mono (fun _ _ h => by simp [Value.ownBlock, h]), .inl rfl⟩
    · simp; omega
    · simp; omega
    · rw [show (L.take i ++ x :: L.drop i).length = L.length + 1 by simp; omega]
      exact hfull.out)

end Go.Proofs.Ytlencagfkajcnaa
