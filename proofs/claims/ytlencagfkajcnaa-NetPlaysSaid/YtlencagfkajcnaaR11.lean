import Derived.Test.YtlencagfkajcnaaR1
import Derived.Test.YtlencagfkajcnaaV
namespace Go.Proofs.Ytlencagfkajcnaa
open Go.RowKit Go.Ext Go.BigFrame Go.Maps
open Go.ChangeMaps (setBlock)
attribute [local go_sem] Ext.cell Ext.frozen Ext.lt Ext.le s1 s2 s3 s4 s5 s6 t1 t2 t3 t4 t5 t6
attribute [local go_sem ↓] Go.wp_at_zero Go.wp_at_succ

theorem run_clear_map (w : World) (b : Nat) (ty : TypeId) (es : Array MapEntry) (c : Nat) (h : w.heap[b]? = some (.map es c)) :
    (Builtin.clear_ #[56] ty #[.map (some b)]).run Try.prog w = .ok (.tuple #[]) (setBlock w b (.map #[] c)) := by
  simp [Builtin.clear_, run_underlying Try.underlying56, MapKept.run_getObj_map h, MapKept.run_setObj_map _ h, Result.andThen, setBlock]
theorem block_set {w : World} {b : Nat} (o : Obj) (h : b < w.heap.size) : (setBlock w b o).heap[b]? = some o := by
  simp [setBlock, h]
theorem block_ne {w : World} {b k : Nat} (o : Obj) (h : k ≠ b) : (setBlock w b o).heap[k]? = w.heap[k]? := by
  simp [setBlock, Array.getElem?_setIfInBounds_ne (Ne.symm h)]
theorem MP.clear {w : World} {b : Nat} (c : Nat) (h : b < w.heap.size) : MP (setBlock w b (.map #[] c)) b 0 (fun _ => false) :=
  ⟨.map [], ⟨#[], c, block_set _ h, ⟨by simp, Go.MapKept.stamped_empty c, by simp⟩, Nat.le_refl _, rfl⟩, fun _ _ _ => rfl⟩
theorem mod_block (w : World) (b : Nat) (o : Obj) : Ext.Mod (fun k => k = b) w (setBlock w b o) :=
  ⟨rfl, rfl, rfl, by simp [Go.ChangeMaps.setBlock], fun k _ hk => block_ne o hk⟩

theorem heal_any (base g n : Nat) (nodes sent : Int) (S : Int × Int → Bool) (P : List Pk) (w : World) (h : Nt base w g nodes sent n S P) :
    Calls Try.prog 38 #[.pointer (some ⟨g, 0, none⟩)] w (RetN base g nodes sent 0 (fun _ => false) P (.tuple #[]) w) := by
  obtain ⟨mb, v, L, h⟩ := h
  obtain ⟨_, c1, _, _, _, _⟩ := h.cs
  have hlt := h.lt
  obtain ⟨es, c, hm⟩ := h.mp.isMap
  have H := hid h
  have HM := hid hm
  clear h hm
  go_enter Try.func38, Try.ntmps38
  have hc := run_clear_map w mb 0 es c HM.out
  go_wp2_with fail
  go_end0
  have m := mod_block w mb (.map #[] c)
  have n5 : ∀ k, (∃ cs fz, w.heap[k]? = some (.cells cs 5 fz)) → ¬ k = mb := by
    rintro k ⟨cs, fz, hk⟩ rfl
    have := hk.symm.trans HM.out; injection this with this; cases this
  refine ⟨rfl, ⟨mb, v, L, ⟨H.out.lo, (m.block g hlt H.out.nem.1.symm).trans H.out.cell, own_mod H.out.row m (fun k e e2 => H.out.nem.2 (by rw [← e2, e])), MP.clear c H.out.mp.lt, H.out.mlo, H.out.hn, Dat.mod m n5 H.out.dat⟩⟩, H.out.mn (m.mono fun _ _ e => .inr (.inl e))⟩

set_option maxRecDepth 100000 in
set_option maxHeartbeats 1000000 in
theorem drop_any (base g n : Nat) (nodes sent k : Int) (S : Int × Int → Bool) (P : List Pk) (w : World) (h : Nt base w g nodes sent n S P) (hl : P.length ≤ 1000000) :
    Calls Try.prog 35 #[.pointer (some ⟨g, 0, none⟩), .int .i64 k] w (fun e w' => e = .returned (.int .i64 (if okN P k then 0 else 2)) ∧ Nt base w' g nodes sent n S (if okN P k then outF P k.toNat else P) ∧ MN base w w') := by
  have HT := hid (take_any base g n nodes sent k S P w h hl)
  clear h
  cases hok : okN P k
  · have HT2 := hid (Calls.mono HT.out (show ∀ e w', RetTake base g nodes sent n S P k w e w' → (e = .returned (.tuple #[.agg #[.int .i64 0, .int .i64 0, .int .i64 0, .slice none 0 0], .int .i64 2]) ∧ Nt base w' g nodes sent n S P ∧ MN base w w') from fun e w' h => by
      rcases h with h | h
      · exact h.2
      · rw [hok] at h; cases h.1))
    clear HT hok
    simp only [Bool.false_eq_true, if_false]
    go_enter Try.func35, Try.ntmps35
    go_wp2_with (go_at_call 12; refine HT2.out.mono ?_; rintro en w7 ⟨rfl, h7, m7⟩; have H7 := hid h7; have M7 := hid m7; clear h7 m7)
    go_ret
    have g1 : Gr w7 (w7.alloc (.cells #[.int .i64 0, .int .i64 0, .int .i64 0, .slice none 0 0] 33)) := (Gr.refl _).alloc _
    exact ⟨rfl, H7.out.gr g1, M7.out.trans (MN.of_gr g1)⟩
  · obtain ⟨i, rfl, hi⟩ := okN_yes hok
    have HT2 := hid (Calls.mono HT.out (show ∀ e w', RetTake base g nodes sent n S P i w e w' → (∃ x : It, e = .returned (.tuple #[iv x, .int .i64 0]) ∧ Nt base w' g nodes sent n S (outF P i) ∧ MN base w w') from fun e w' h => by
      rcases h with h | ⟨_, i', x, e1, _, h1, _, h2, h3⟩
      · rw [hok] at h; cases h.1
      · obtain rfl : i = i' := by omega
        exact ⟨x, h1, h2, h3⟩))
    clear HT hok
    simp only [if_true, Int.toNat_natCast]
    go_enter Try.func35, Try.ntmps35
    go_wp2_with (go_at_call 12; refine HT2.out.mono ?_; rintro en w7 ⟨⟨f, t, q, A', l', c'⟩, rfl, h7, m7⟩; simp only [iv]; have H7 := hid h7; have M7 := hid m7; clear h7 m7)
    go_ret
    have g1 : Gr w7 (w7.alloc (.cells #[.int .i64 f, .int .i64 t, .int .i64 q, .slice A' l' c'] 33)) := (Gr.refl _).alloc _
    exact ⟨rfl, H7.out.gr g1, M7.out.trans (MN.of_gr g1)⟩
end Go.Proofs.Ytlencagfkajcnaa
