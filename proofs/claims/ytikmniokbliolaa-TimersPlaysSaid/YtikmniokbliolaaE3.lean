import Derived.Test.YtikmniokbliolaaE2
namespace Go.Proofs.Ytikmniokbliolaa
open Go.RowKit Go.Ext Go.BigFrame
attribute [local go_sem] Ext.cell Ext.frozen Ext.lt Ext.le s1 s2 s3 s4 s5 s6 t1 t2 t3 t4 t5 t6
attribute [local go_sem ↓] Go.wp_at_zero Go.wp_at_succ

theorem own_gr {w w' : World} {B e size n : Nat} {v : Value} {xs : List Value} (h : w.ownsRow B e size v n xs) (g : Gr w w') : w'.ownsRow B e size v n xs := own_mod h (g.mod fun _ => False) fun _ _ h => h
theorem own_shape {w : World} {B e s : Nat} {v : Value} {n : Nat} {xs : List Value} (h : w.ownsRow B e s v n xs) : ∃ A c, v = .slice A n c := by
  rcases h.2 with ⟨rfl, h0⟩ | ⟨g, cap, cur, rfl, _⟩
  · exact ⟨none, 0, by rw [h0]⟩
  · exact ⟨_, _, rfl⟩

set_option maxHeartbeats 1000000 in
theorem dropR_any (base g : Nat) (v : Value) (L : List It) (flow run : Int) (w : World) (h : RB base w g v L) (hl : L.length ≤ 1000000) (hbase : base ≤ w.heap.size) :
    Calls Try.prog 26 #[.pointer (some ⟨g, 0, none⟩), .int .i64 flow, .int .i64 run] w (RetR base g (dropF L flow run) (.int .i64 (L.length - (dropF L flow run).length)) w) := by
  have hlt := h.lt
  have H := hid h
  obtain ⟨A, cp, rfl⟩ := h.shape
  clear h
  obtain ⟨i0, hi0, hz0, hz1, hz2⟩ := info_parts info40
  have hk1 : ∀ k, k < L.length → keepF (gone flow run) (L.take (k + 1)) = if gone flow run (L.getD k z0) then keepF (gone flow run) (L.take k) else keepF (gone flow run) (L.take k) ++ [L.getD k z0] := fun k hk => keepF_succ _ L k hk
  have HK1 := hid hk1
  have hkl : ∀ k, (keepF (gone flow run) (L.take k)).length ≤ k := fun k => Nat.le_trans (List.length_filter_le _ _) (by simp; omega)
  have HKL := hid hkl
  clear hk1 hkl
  go_enter Try.func26, Try.ntmps26
  go_wp2_with fail
  go_loopw [7, 8] (fun lv i wr => ∃ k : Nat, k ≤ L.length ∧ i = .int .i64 k ∧ Gr w wr ∧ wr.ownsRow w.heap.size 40 6 lv (keepF (gone flow run) (L.take k)).length (cs6 (keepF (gone flow run) (L.take k)))) (fun _ i _ => L.length - (intOf i).toNat)
  case atStart => exact ⟨0, Nat.zero_le _, rfl, Gr.refl _, by simp only [List.take_zero]; exact World.ownsRow_nil _ _ _ _⟩
  case round =>
    obtain ⟨k, hk, rfl, hg, ho⟩ := hrel
    have HG := hid hg
    have HO := hid ho
    have hsz := hg.size
    have c0 := (H.out.gr hg).c0
    have f0 := (H.out.gr hg).f0
    have hlt2 : g < wr.heap.size := by omega
    clear hg ho
    by_cases hlt3 : k < L.length
    · obtain ⟨r, cap, e, hcap, hm, hb, hr, hc⟩ := (H.out.gr HG.out).open (by omega)
      injection e with e1 _ e3
      subst e1 e3
      obtain ⟨d0, d1, d2, d3, d4, d5⟩ := six_at hc hlt3
      clear hc
      have hK := hid (HK1.out k hlt3)
      obtain ⟨⟨a, b, c, d, e, f⟩, hy⟩ : ∃ y, L.getD k z0 = y := ⟨_, rfl⟩
      rw [hy] at d0 d1 d2 d3 d4 d5 hK
      simp only at d0 d1 d2 d3 d4 d5
      clear hy
      have hkl := HKL.out k
      generalize hX : keepF (gone flow run) (L.take k) = X at *
      have HX := hid hX
      clear hX
      by_cases hb1 : b = flow
      · subst hb1
        by_cases hc1 : c = run
        · subst hc1
          have hK2 : keepF (gone b c) (L.take (k + 1)) = X := by rw [hK.out]; simp [gone]
          have HK2 := hid hK2
          clear hK2
          go_wp2_with fail
          go_roundw
          case rel => exact ⟨k + 1, by omega, by go_num, HG.out, by rw [HK2.out]; exact HO.out⟩
          case measure => simp [intOf]; omega
        · have hK2 : keepF (gone b run) (L.take (k + 1)) = X ++ [(a, b, c, d, e, f)] := by rw [hK.out]; simp [gone, hc1]
          have HK2 := hid hK2
          clear hK2
          have hne : (c == run) = false := by simpa using hc1
          have hne2 : (c != run) = true := by simpa using hc1
          go_wp2_with (at_builtin; refine wpList_append_lies _ rfl _ _ 49 rfl w.heap.size 40 i0 _ 6 48 Try.underlying49 hi0 hz0 hz1 hz2 rfl (by omega) u7 X.length (cs6 X) rfl (own_gr HO.out ((Gr.refl wr).alloc _)) ⟨wr.heap.size, 0, none⟩ 1 1 [.int .i64 a, .int .i64 b, .int .i64 c, .int .i64 d, .int .i64 e, .int .i64 f] rfl rfl (World.news_of_block (cs := #[.int .i64 a, .int .i64 b, .int .i64 c, .int .i64 d, .int .i64 e, .int .i64 f]) (t := 40) (fr := (0, 0)) (heap_alloc_new wr _)) (by simp [Value.oneCell']) (by omega) (by unfold maxLen; omega) (by omega) (Nat.le_trans hsz (by simp)) _ rfl ?_; intro gg cap w1 hown1 hgrow hat hlt1)
          go_roundw
          case rel => exact ⟨k + 1, by omega, by go_num, gr_grown (HG.out.alloc _) hgrow (fun r hr => (HO.out.lt r hr).1), by rw [HK2.out, cs6_app, List.length_append, List.length_singleton]; exact hown1⟩
          case measure => simp [intOf]; omega
      · have hK2 : keepF (gone flow run) (L.take (k + 1)) = X ++ [(a, b, c, d, e, f)] := by rw [hK.out]; simp [gone, hb1]
        have HK2 := hid hK2
        clear hK2
        have hne : (b == flow) = false := by simpa using hb1
        have hne2 : (b != flow) = true := by simpa using hb1
        go_wp2_with (at_builtin; refine wpList_append_lies _ rfl _ _ 49 rfl w.heap.size 40 i0 _ 6 48 Try.underlying49 hi0 hz0 hz1 hz2 rfl (by omega) u7 X.length (cs6 X) rfl (own_gr HO.out ((Gr.refl wr).alloc _)) ⟨wr.heap.size, 0, none⟩ 1 1 [.int .i64 a, .int .i64 b, .int .i64 c, .int .i64 d, .int .i64 e, .int .i64 f] rfl rfl (World.news_of_block (cs := #[.int .i64 a, .int .i64 b, .int .i64 c, .int .i64 d, .int .i64 e, .int .i64 f]) (t := 40) (fr := (0, 0)) (heap_alloc_new wr _)) (by simp [Value.oneCell']) (by omega) (by unfold maxLen; omega) (by omega) (Nat.le_trans hsz (by simp)) _ rfl ?_; intro gg cap w1 hown1 hgrow hat hlt1)
        go_roundw
        case rel => exact ⟨k + 1, by omega, by go_num, gr_grown (HG.out.alloc _) hgrow (fun r hr => (HO.out.lt r hr).1), by rw [HK2.out, cs6_app, List.length_append, List.length_singleton]; exact hown1⟩
        case measure => simp [intOf]; omega
    · have hke : k = L.length := by omega
      subst hke
      have hX2 : dropF L flow run = keepF (gone flow run) (L.take L.length) := by rw [List.take_length]; rfl
      have hkl := HKL.out L.length
      generalize keepF (gone flow run) (L.take L.length) = X at *
      have HX2 := hid hX2
      clear hX2
      obtain ⟨Al, cl, rfl⟩ := own_shape HO.out
      go_wp2_with fail
      go_ret
      have HC := (HG.out.block g hlt).trans H.out.cell
      rw [HX2.out]
      exact ⟨_, rfl, RB.set H.out.lo HC (HO.out.mono hbase), (HG.out.mod (fun k => k = g)).set (p := ⟨g, 0, none⟩) (fun _ => rfl) _⟩
end Go.Proofs.Ytikmniokbliolaa
