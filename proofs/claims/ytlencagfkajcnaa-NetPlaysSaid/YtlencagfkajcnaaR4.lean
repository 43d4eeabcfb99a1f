import Derived.Test.YtlencagfkajcnaaR0
namespace Go.Proofs.Ytlencagfkajcnaa
open Go.RowKit Go.Ext Go.BigFrame Go.Maps
attribute [local go_sem] Ext.cell Ext.frozen Ext.lt Ext.le s1 s2 s3 s4 s5 s6 t1 t2 t3 t4 t5 t6
attribute [local go_sem ↓] Go.wp_at_zero Go.wp_at_succ

theorem cs6_take4 (L : List It) (k : Nat) : cs6 (L.take k) = (cs6 L).take (k * 4) := cs6_take L k
theorem cs6_drop4 (L : List It) (k : Nat) : cs6 (L.drop k) = (cs6 L).drop (k * 4) := cs6_drop L k

theorem tail_rd {w : World} {r cap k : Nat} {xs : List Value} (h : Rd w (some ⟨r, 0, none⟩) xs) (hl : cap = k → xs.length ≤ k * 4) : Rd w (if cap = k then some (⟨r, 0, none⟩ : Addr) else some ⟨r, k * 4, none⟩) (xs.drop (k * 4)) := fun hn => by
  by_cases e : cap = k
  · exact absurd (List.drop_eq_nil_of_le (hl e)) hn
  · rw [if_neg e]
    obtain ⟨b, off, e2, hc⟩ := h (fun e => hn (by rw [e]; simp))
    injection e2 with e2
    injection e2 with e2 e3 _
    subst e2 e3
    refine ⟨r, k * 4, rfl, fun j u hu => ?_⟩
    rw [List.getElem?_drop] at hu
    have := hc _ _ hu
    rwa [Nat.zero_add] at this
theorem tail_some {cap k r : Nat} {p q : Prop} (e : (if cap = k then some (⟨r, 0, none⟩ : Addr) else some ⟨r, k * 4, none⟩) = none) : p ∧ q := by split at e <;> cases e

set_option maxRecDepth 100000 in
set_option maxHeartbeats 2000000 in
theorem without_any (base g i : Nat) (nodes sent : Int) (v vc : Value) (L : List It) (C : List (Int × Int)) (P : List Pk) (w : World) (h : RB base w g nodes sent v vc L C P) (hi : i < L.length) (hl : L.length ≤ 1000000) (hbase : base ≤ w.heap.size) :
    Calls Try.prog 44 #[.pointer (some ⟨g, 0, none⟩), .int .i64 i] w (fun e w' => e = .returned (.tuple #[]) ∧ (∃ v', RB base w' g nodes sent v' vc (outF L i) C (outF P i) ∧ ∀ k, v'.ownBlock = some k → w.heap.size ≤ k) ∧ Mod (fun k => k = g) w w') := by
  have hlt := h.lt
  have H := hid h
  obtain ⟨r, cp, rfl, hcap, hm, hb, hr, hc⟩ := own_open h.row (by omega)
  have RD := hid (Rd.of_own h.row)
  obtain ⟨_, _, k2, _, _, kf2, _⟩ := h.cs
  obtain ⟨i0, hi0, hz0, hz1, hz2⟩ := info_parts (info71.trans info33)
  clear h hc hb
  have ew1 : IntKind.i64.wrap ((i : Int) + 1) = (i : Int) + 1 := IntWalk.i64_in _ (by omega)
  have hk1z : (0 : Int) ≤ (i : Int) + 1 := by omega
  have hk1l : (i : Int) + 1 ≤ (L.length : Int) := by omega
  have hkc : i ≤ cp := by omega
  have hcp0 : ¬ cp = 0 := by omega
  have hkc1 : i + 1 ≤ L.length := by omega
  have hkc2 : i + 1 ≤ cp := by omega
  go_enter Try.func44, Try.ntmps44
  go_wp2_with fail
  refine wp_region_noPanic ?_
  refine wp_region_planM [(0, false), (2, false), (3, false), (4, false), (5, false), (6, false), (7, false), (9, false), (10, false), (11, false), (12, false), (13, false), (14, false), (15, false), (1, true), (8, true), (16, true), (17, false), (18, false), (19, true)]
    (fun w' => w'.cell? ⟨g, 2, none⟩ = some (.slice (some ⟨r, 0, none⟩) L.length cp)) (by kernel_rfl) (by kernel_rfl) (fun _ _ _ _ _ h => h) k2 (fun hHeld => ?_)
  iterate 14 (refine pm_take (v := ?_) rfl (by rfl) ?_ ?_; rotate_left; (focus (intro W9 hW9; (try dsimp only at hW9); go_simp; (try with_reducible rfl); done)); (try simp only [Act.put, List.setIfInBounds_toArray, List.set_cons_zero, List.set_cons_succ]))
  refine pm_call rfl (by rfl) (fun K hK => ?_)
  go_simp
  refine hK.out _ _ _ (by go_simp; done) (fun _ h => h) (fun _ => ?_)
  clear hK K hHeld
  have HMD := hid (World.ownsRow_made (base := w.heap.size) (e := 71) (size := 4) w.drew #[] 0 (Nat.le_refl _) (by decide) rfl)
  (try simp only [Act.put, List.setIfInBounds_toArray, List.set_cons_zero, List.set_cons_succ])
  refine pm_law rfl (by rfl) (fun K hK => ?_)
  refine step_append_any (by rfl) (.tmp 5) (.tmp 11) 50 (by rfl) w.heap.size 71 i0 _ 4 48 Try.underlying50 hi0 hz0 hz1 hz2 rfl (by decide) none50 (.slice (some ⟨w.heap.size, 0, none⟩) 0 0) 0 [] (by rfl) HMD.out (some ⟨r, 0, none⟩) i cp (cs6 (L.take i)) (by rfl) (by rw [cs6_length, List.length_take, Nat.min_eq_left (by omega)]) (by rw [cs6_take4]; exact Rd.gr (Rd.take RD.out _) ((Gr.refl w).drew.alloc _)) (fun e => by cases e) (cs6_one _) (by unfold maxLen; omega) (by omega) (by simp) ?_
  intro v1 w2 hown1 hgr1
  obtain ⟨D1, n1, rfl⟩ : ∃ D1 n1, v1 = .slice D1 i n1 := by have := own_shape hown1; rwa [Nat.zero_add] at this
  have HW2 := hid (show Gr w w2 from gr_grown ((Gr.refl w).drew.alloc (.cells #[] 71)) hgr1 (by intro k hk; simp [Value.ownBlock] at hk; omega))
  have HO1 := hid (show w2.ownsRow w.heap.size 71 4 (.slice D1 i n1) i (cs6 (L.take i)) by have := hown1; rwa [Nat.zero_add, List.nil_append] at this)
  have hk22 := (HW2.out.cell (p := ⟨g, 2, none⟩) hlt).trans k2
  refine hK.out _ _ _ hk22 (fun _ h => h) (fun _ => ?_)
  clear hK K hown1 hgr1 HMD
  (try simp only [Act.put, List.setIfInBounds_toArray, List.set_cons_zero, List.set_cons_succ])
  refine pm_law rfl (by rfl) (fun K hK => ?_)
  refine step_append_any (by rfl) (.tmp 12) (.tmp 19) 50 (by rfl) w.heap.size 71 i0 _ 4 48 Try.underlying50 hi0 hz0 hz1 hz2 rfl (by decide) none50 (.slice D1 i n1) i (cs6 (L.take i)) (by rfl) HO1.out _ (L.length - (i + 1)) (cp - (i + 1)) (cs6 (L.drop (i + 1))) (by rfl) (by rw [cs6_length, List.length_drop]) (by rw [cs6_drop4]; exact Rd.gr (tail_rd RD.out (by intro e; rw [cs6_length]; omega)) HW2.out) tail_some (cs6_one _) (by unfold maxLen; omega) (by omega) HW2.out.size ?_
  intro v2 w3 hown2 hgr2
  have HW3 := hid (show Gr w w3 from gr_grown HW2.out hgr2 (fun q e => (HO1.out.lt q e).1))
  have HO2 := hid hown2
  obtain ⟨D2, n2, c2, rfl⟩ : ∃ D2 n2 c2, v2 = .slice D2 n2 c2 := by obtain ⟨D2, c2, e⟩ := own_shape hown2; exact ⟨_, _, _, e⟩
  have hk23 := (HW3.out.cell (p := ⟨g, 2, none⟩) hlt).trans k2
  have hf23 := (H.out.gr HW3.out).cs.2.2.2.2.2.1
  have hg3 : g < w3.heap.size := Nat.lt_of_lt_of_le hlt HW3.out.size
  refine hK.out _ _ _ hk23 (fun _ h => h) (fun _ => ?_)
  clear hK K hown2 hgr2
  (try simp only [Act.put, List.setIfInBounds_toArray, List.set_cons_zero, List.set_cons_succ])
  iterate 2 (refine pm_take (v := ?_) rfl (by rfl) ?_ ?_; rotate_left; (focus (intro W9 hW9; (try dsimp only at hW9); go_simp; (try with_reducible rfl); done)); (try simp only [Act.put, List.setIfInBounds_toArray, List.set_cons_zero, List.set_cons_succ]))
  refine pm_last rfl (by rfl) (fun K hK => ?_)
  go_simp
  refine hK.out _ _ (NoPanic.normal ?_)
  clear hK K
  go_wp2_with fail
  all_goals (
    go_end0
    have HC3 := (HW3.out.block g hlt).trans H.out.cell
    have hr3 : w3.ownsRow base 71 4 (.slice D2 n2 c2) (outF L i).length (cs6 (outF L i)) := by
      have := HO2.out.mono hbase
      unfold outF
      rw [cs6_app, List.length_append, List.length_take, List.length_drop, Nat.min_eq_left (by omega)]
      exact this
    have hd3 : Dat base w3 (outF L i) (outF P i) := by
      have := H.out.dat.gr HW3.out
      exact Dat.app (Dat.take i this) (Dat.drop (i + 1) this)
    exact ⟨rfl, ⟨_, RB.put8 H.out.lo H.out.hn HC3 (own_gr H.out.cuts HW3.out) hr3 hd3, fun k e => (HO2.out.lt k e).1⟩, (HW3.out.mod (fun k => k = g)).set (p := ⟨g, 2, none⟩) (fun _ => rfl) _⟩)
end Go.Proofs.Ytlencagfkajcnaa
