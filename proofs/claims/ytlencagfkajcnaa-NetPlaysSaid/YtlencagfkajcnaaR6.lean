import Derived.Test.YtlencagfkajcnaaR5
namespace Go.Proofs.Ytlencagfkajcnaa
open Go.RowKit Go.Ext Go.BigFrame Go.Maps
attribute [local go_sem] Ext.cell Ext.frozen Ext.lt Ext.le s1 s2 s3 s4 s5 s6 t1 t2 t3 t4 t5 t6
attribute [local go_sem ↓] Go.wp_at_zero Go.wp_at_succ

set_option maxRecDepth 100000 in
set_option maxHeartbeats 2000000 in
theorem loseR_K (base g : Nat) (nodes sent a : Int) (v vc : Value) (L : List It) (C : List (Int × Int)) (P : List Pk) (w : World) (h : RB base w g nodes sent v vc L C P) (hnn : ∀ p ∈ P, 0 ≤ p.1 ∧ 0 ≤ p.2.1) (hl : L.length ≤ 1000000) (hbase : base ≤ w.heap.size) :
    Calls Try.prog 45 #[.pointer (some ⟨g, 0, none⟩), .int .i64 a, .int .i64 (-1)] w (fun e w' => e = .returned (.int .i64 (P.length - (P.filter fun p => !qK a p).length)) ∧ (∃ v' L', RB base w' g nodes sent v' vc L' C (P.filter fun p => !qK a p)) ∧ Mod (fun k => k = g) w w') := by
  have hlt := h.lt
  have H := hid h
  have hlen := h.dat.len
  have HF := hid (fun W (y : Gr w W) => Dat.filter (gK a) (qK a) (fun x p (h : One base W x p) => by unfold gK qK; rw [h.2.1]) (h.dat.gr y))
  obtain ⟨A, cp, rfl⟩ := h.shape
  obtain ⟨i0, hi0, hz0, hz1, hz2⟩ := info_parts (info71.trans info33)
  have HK1 := hid (fun k (hk : k < L.length) => keepF_succ (gK a) L k hk)
  have HKL := hid (show ∀ k, (keepF (gK a) (L.take k)).length ≤ k from fun k => Nat.le_trans (List.length_filter_le _ _) (by simp; omega))
  have HPP := hid (show ∀ k, k < L.length → (L.getD k z0).1 = (P.getD k p0).1 ∧ (L.getD k z0).2.1 = (P.getD k p0).2.1 ∧ P.getD k p0 ∈ P from fun k hk => by
    have := h.dat.get k hk
    refine ⟨this.1, this.2.1, ?_⟩
    have h2 : k < P.length := by omega
    simp [List.getD, h2])
  have HNN := hid hnn
  clear h hnn
  go_enter Try.func45, Try.ntmps45
  go_wp2_with fail
  go_loopw [7, 8] (fun lv i wr => ∃ k : Nat, k ≤ L.length ∧ i = .int .i64 k ∧ Gr w wr ∧ wr.ownsRow w.heap.size 71 4 lv (keepF (gK a) (L.take k)).length (cs6 (keepF (gK a) (L.take k)))) (fun _ i _ => L.length - (intOf i).toNat)
  case atStart => exact ⟨0, Nat.zero_le _, rfl, Gr.refl _, by simp only [List.take_zero]; exact World.ownsRow_nil _ _ _ _⟩
  case round =>
    obtain ⟨k, hk, rfl, hg, ho⟩ := hrel
    have HG := hid hg
    have HO := hid ho
    have hsz := hg.size
    obtain ⟨_, _, q2, _, _, qf2, _⟩ := (H.out.gr hg).cs
    have hlt2 : g < wr.heap.size := by omega
    clear hg ho
    by_cases hlt3 : k < L.length
    · obtain ⟨r, cap, e, hcap, hm, hb, hr, hc⟩ := own_open (H.out.gr HG.out).row (by omega)
      injection e with e1 _ e3
      subst e1 e3
      have d0 := hc _ _ (cs6_get L k 0 hlt3 (by omega))
      have d1 := hc _ _ (cs6_get L k 1 hlt3 (by omega))
      have d2 := hc _ _ (cs6_get L k 2 hlt3 (by omega))
      have d3 := hc _ _ (cs6_get L k 3 hlt3 (by omega))
      clear hc
      have hK := hid (HK1.out k hlt3)
      have HM := hid (HPP.out k hlt3)
      obtain ⟨⟨x, y, q, A', l', c'⟩, hy⟩ : ∃ y, L.getD k z0 = y := ⟨_, rfl⟩
      rw [hy] at d0 d1 d2 d3 hK HM
      simp only [Nat.add_zero] at d0 d1 d2 d3 HM
      clear hy
      have hkl := HKL.out k
      generalize hX : keepF (gK a) (L.take k) = X at *
      have HX := hid hX
      clear hX
      have HPQ := hid (pr_eq x y a (-1))
      have hx0 : 0 ≤ x := by have := (HNN.out _ HM.out.2.2).1; have := HM.out.1; omega
      have hy0 : 0 ≤ y := by have := (HNN.out _ HM.out.2.2).2; have := HM.out.2.1; omega
      have p2 : (y == (-1 : Int)) = false := by rw [beq_eq_false_iff_ne]; omega
      have p3 : (x == (-1 : Int)) = false := by rw [beq_eq_false_iff_ne]; omega
      clear hx0 hy0
      cases p1 : (x == a)
      · cases p4 : (y == a)
        · have HK2 := hid (show keepF (gK a) (L.take (k + 1)) = X ++ [(x, y, q, A', l', c')] by rw [hK.out, show gK a (x, y, q, A', l', c') = false from p4]; rfl)
          go_wp2_with (at_builtin; refine wpList_append_lies _ rfl _ _ 50 rfl w.heap.size 71 i0 _ 4 48 Try.underlying50 hi0 hz0 hz1 hz2 rfl (by omega) u7 X.length (cs6 X) rfl (own_gr HO.out (((Gr.refl wr).alloc _).alloc _)) ⟨wr.heap.size + 1, 0, none⟩ 1 1 [.int .i64 x, .int .i64 y, .int .i64 q, .slice A' l' c'] rfl rfl (World.news_of_block (cs := #[.int .i64 x, .int .i64 y, .int .i64 q, .slice A' l' c']) (t := 71) (fr := (0, 0)) (two_of wr _ _)) (by simp [Value.oneCell']) (by omega) (by unfold maxLen; omega) (by omega) (Nat.le_trans hsz (by simp; omega)) _ rfl ?_; intro gg cap w1 hown1 hgrow hat hlt1)
          go_roundw
          case rel => exact ⟨k + 1, by omega, by go_num, gr_grown ((HG.out.alloc _).alloc _) hgrow (fun r hr => (HO.out.lt r hr).1), by rw [HK2.out, cs6_app, List.length_append, List.length_singleton]; exact hown1⟩
          case measure => simp [intOf]; omega
        · have HK2 := hid (show keepF (gK a) (L.take (k + 1)) = X by rw [hK.out, show gK a (x, y, q, A', l', c') = true from p4]; rfl)
          go_wp2_with fail
          go_roundw
          case rel => exact ⟨k + 1, by omega, by go_num, HG.out.alloc _, by rw [HK2.out]; exact own_gr HO.out ((Gr.refl wr).alloc _)⟩
          case measure => simp [intOf]; omega
      · cases p4 : (y == a)
        · have HK2 := hid (show keepF (gK a) (L.take (k + 1)) = X ++ [(x, y, q, A', l', c')] by rw [hK.out, show gK a (x, y, q, A', l', c') = false from p4]; rfl)
          go_wp2_with (at_builtin; refine wpList_append_lies _ rfl _ _ 50 rfl w.heap.size 71 i0 _ 4 48 Try.underlying50 hi0 hz0 hz1 hz2 rfl (by omega) u7 X.length (cs6 X) rfl (own_gr HO.out (((Gr.refl wr).alloc _).alloc _)) ⟨wr.heap.size + 1, 0, none⟩ 1 1 [.int .i64 x, .int .i64 y, .int .i64 q, .slice A' l' c'] rfl rfl (World.news_of_block (cs := #[.int .i64 x, .int .i64 y, .int .i64 q, .slice A' l' c']) (t := 71) (fr := (0, 0)) (two_of wr _ _)) (by simp [Value.oneCell']) (by omega) (by unfold maxLen; omega) (by omega) (Nat.le_trans hsz (by simp; omega)) _ rfl ?_; intro gg cap w1 hown1 hgrow hat hlt1)
          go_roundw
          case rel => exact ⟨k + 1, by omega, by go_num, gr_grown ((HG.out.alloc _).alloc _) hgrow (fun r hr => (HO.out.lt r hr).1), by rw [HK2.out, cs6_app, List.length_append, List.length_singleton]; exact hown1⟩
          case measure => simp [intOf]; omega
        · have HK2 := hid (show keepF (gK a) (L.take (k + 1)) = X by rw [hK.out, show gK a (x, y, q, A', l', c') = true from p4]; rfl)
          go_wp2_with fail
          go_roundw
          case rel => exact ⟨k + 1, by omega, by go_num, HG.out.alloc _, by rw [HK2.out]; exact own_gr HO.out ((Gr.refl wr).alloc _)⟩
          case measure => simp [intOf]; omega
    · have hke : k = L.length := by omega
      subst hke
      have HF2 := hid (HF.out _ HG.out)
      rw [List.take_length] at HO
      have hkl2 : (keepF (gK a) L).length ≤ L.length := by have := HKL.out L.length; rwa [List.take_length] at this
      have HFL := hid HF2.out.len
      obtain ⟨X, hX⟩ : ∃ X, keepF (gK a) L = X := ⟨_, rfl⟩
      rw [hX] at HO HF2 HFL hkl2
      have HE := hid (show (L.length : Int) - X.length = P.length - (P.filter fun p => !qK a p).length by rw [hlen, HFL.out])
      clear hX hlen HFL
      obtain ⟨Al, cl, rfl⟩ := own_shape HO.out
      go_wp2_with fail
      go_ret
      have HC := (HG.out.block g hlt).trans H.out.cell
      exact ⟨by rw [← HE.out]; rfl, ⟨_, X, RB.put8 H.out.lo H.out.hn HC (own_gr H.out.cuts HG.out) (HO.out.mono hbase) HF2.out⟩, (HG.out.mod (fun k => k = g)).set (p := ⟨g, 2, none⟩) (fun _ => rfl) _⟩
end Go.Proofs.Ytlencagfkajcnaa
