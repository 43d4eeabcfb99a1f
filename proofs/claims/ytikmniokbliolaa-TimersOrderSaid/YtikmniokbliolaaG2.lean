import Derived.Test.YtikmniokbliolaaG1
import Derived.Test.YtikmniokbliolaaA2
import Derived.Test.YtikmniokbliolaaDu
import Derived.Shelf.Abstract
namespace Go.Proofs.Ytikmniokbliolaa
open Go.RowKit Go.Ext Go.BigFrame
attribute [local go_sem] Ext.cell Ext.frozen Ext.lt Ext.le s1 s2 s3 s4 s5 s6 t1 t2 t3 t4 t5 t6
attribute [local go_sem ↓] Go.wp_at_zero Go.wp_at_succ

/-- The least of some items, by Less. -/
def LeastI (L : List It) (m : It) : Prop := (L = [] ∧ m = z0) ∨ (m ∈ L ∧ ∀ x ∈ L, 0 ≤ cmpI x m)
def RetLeast (L : List It) (w : World) (e : Ending) (w' : World) : Prop := ∃ m, e = .returned (.tuple #[iv m, .bool (decide (0 < L.length))]) ∧ Gr w w' ∧ LeastI L m

theorem take_succ_getD (L : List It) (k : Nat) (hk : k < L.length) : L.take (k + 1) = L.take k ++ [L.getD k z0] := by
  rw [List.take_add_one]; simp [List.getD, hk]
theorem least_step {L : List It} {k : Nat} (hk : k < L.length) {m : It} (h : LeastI (L.take k) m) (hc : k = 0 ∨ cmpI (L.getD k z0) m < 0) : LeastI (L.take (k + 1)) (L.getD k z0) := by
  rw [take_succ_getD L k hk]
  refine .inr ⟨by simp, fun x hx => ?_⟩
  rcases List.mem_append.1 hx with hx | hx
  · rcases hc with rfl | hc
    · simp at hx
    · rcases h with ⟨e, _⟩ | ⟨_, h⟩
      · rw [e] at hx; simp at hx
      · have h1 := h x hx
        by_cases h2 : cmpI x (L.getD k z0) < 0
        · have := cmpI_trans h2 hc; omega
        · omega
  · simp at hx
    rw [hx, ← List.getD_eq_getElem?_getD, cmpI_self]
    omega
theorem least_keep {L : List It} {k : Nat} (hk : k < L.length) {m : It} (h : LeastI (L.take k) m) (h0 : k ≠ 0) (hc : ¬ cmpI (L.getD k z0) m < 0) : LeastI (L.take (k + 1)) m := by
  rw [take_succ_getD L k hk]
  rcases h with ⟨e, _⟩ | ⟨h1, h2⟩
  · have := congrArg List.length e
    rw [List.length_take, List.length_nil] at this
    omega
  · refine .inr ⟨by simp [h1], fun x hx => ?_⟩
    rcases List.mem_append.1 hx with hx | hx
    · exact h2 x hx
    · simp at hx
      rw [hx, ← List.getD_eq_getElem?_getD]
      omega

set_option maxHeartbeats 2000000 in
theorem leastI_any (A : Option Addr) (c : Nat) (L : List It) (w : World) (hr : Row w A L) (hl : L.length ≤ 1000000) : Calls Try.prog 18 #[.slice A L.length c, .func (.func 14) #[] #[]] w (RetLeast L w) := by
  have HR := hid hr
  clear hr
  go_enter Try.func18, Try.ntmps18
  go_wp2_with fail
  go_loopw [7, 8, 11] (fun u8 v8 i wr => ∃ (k : Nat) (m : It), k ≤ L.length ∧ i = .int .i64 k ∧ Gr w wr ∧ wr.heap[w.heap.size]? = some (.cells #[.int .i64 0, .int .i64 0, .int .i64 0, .int .i64 0, .int .i64 0, .int .i64 0] 33 (0, 0)) ∧ wr.heap[w.heap.size + 1]? = some (.cells (ic m).toArray 33 (0, 0)) ∧ LeastI (L.take k) m) (fun _ _ i _ => L.length - (intOf i).toNat)
  case atStart =>
    refine ⟨0, z0, Nat.zero_le _, rfl, ((Gr.refl w).alloc _).alloc _, ?_, ?_, .inl ⟨by simp, rfl⟩⟩
    · exact (((Gr.refl _).alloc _).block w.heap.size (by simp)).trans (heap_alloc_new w _)
    · have := heap_alloc_new (w.alloc (.cells #[.int .i64 0, .int .i64 0, .int .i64 0, .int .i64 0, .int .i64 0, .int .i64 0] 33)) (.cells #[.int .i64 0, .int .i64 0, .int .i64 0, .int .i64 0, .int .i64 0, .int .i64 0] 33)
      simpa [ic] using this
  case round =>
    obtain ⟨k, ⟨m0, m1, m2, m3, m4, m5⟩, hk, rfl, hg, hb0, hb1, hle⟩ := hrel
    have HG := hid hg
    have HB0 := hid hb0
    replace hb1 : wr.heap[w.heap.size + 1]? = some (.cells #[.int .i64 m0, .int .i64 m1, .int .i64 m2, .int .i64 m3, .int .i64 m4, .int .i64 m5] 33 (0, 0)) := hb1
    have HB1 := hid hb1
    have HL := hid hle
    obtain ⟨k0, k1, k2, k3, k4, k5, f0, f1, f2, f3, f4, f5⟩ := heap6 hb0
    obtain ⟨j0, j1, j2, j3, j4, j5, e0, e1, e2, e3, e4, e5⟩ := heap6 hb1
    have hbl0 : w.heap.size < wr.heap.size := (Array.getElem?_eq_some_iff.1 hb0).1
    have hbl1 : w.heap.size + 1 < wr.heap.size := (Array.getElem?_eq_some_iff.1 hb1).1
    clear hg hb0 hb1 hle
    by_cases hlt : k < L.length
    · obtain ⟨bb, off, rfl, hbw, c0, c1, c2, c3, c4, c5⟩ := HR.out.at_ hlt
      have HS := hid (fun hc => least_step hlt HL.out hc)
      have HKP := hid (fun h0 hc => least_keep hlt HL.out h0 hc)
      obtain ⟨⟨a, b, c', d, e, f⟩, hy⟩ : ∃ y, L.getD k z0 = y := ⟨_, rfl⟩
      rw [hy] at c0 c1 c2 c3 c4 c5 HS HKP
      simp only at c0 c1 c2 c3 c4 c5
      clear hy
      rw [← HG.out.cell (show (⟨bb, off + k * 6, none⟩ : Addr).block < w.heap.size from hbw)] at c0
      rw [← HG.out.cell (show (⟨bb, off + k * 6 + 1, none⟩ : Addr).block < w.heap.size from hbw)] at c1
      rw [← HG.out.cell (show (⟨bb, off + k * 6 + 2, none⟩ : Addr).block < w.heap.size from hbw)] at c2
      rw [← HG.out.cell (show (⟨bb, off + k * 6 + 3, none⟩ : Addr).block < w.heap.size from hbw)] at c3
      rw [← HG.out.cell (show (⟨bb, off + k * 6 + 4, none⟩ : Addr).block < w.heap.size from hbw)] at c4
      rw [← HG.out.cell (show (⟨bb, off + k * 6 + 5, none⟩ : Addr).block < w.heap.size from hbw)] at c5
      have hbr : bb < wr.heap.size := Nat.lt_of_lt_of_le hbw HG.out.size
      by_cases hk0 : k = 0
      · subst hk0
        simp only [Nat.zero_mul, Nat.add_zero] at c0 c1 c2 c3 c4 c5
        go_wp2_with fail
        go_roundw
        case rel =>
          have M := set6 wr (w.heap.size + 1) (.int .i64 a) (.int .i64 b) (.int .i64 c') (.int .i64 d) (.int .i64 e) (.int .i64 f)
          refine ⟨1, (a, b, c', d, e, f), by omega, rfl, (gr6 HG.out (w.heap.size + 1) (by omega) _ _ _ _ _ _).alloc _, ?_, ?_, HS.out (.inl rfl)⟩
          · exact (((Gr.refl _).alloc _).block _ (Nat.lt_of_lt_of_le hbl0 M.size)).trans ((M.block w.heap.size hbl0 (by omega)).trans HB0.out)
          · exact (((Gr.refl _).alloc _).block _ (Nat.lt_of_lt_of_le hbl1 M.size)).trans (set6_heap HB1.out _ _ _ _ _ _)
        case measure => simp [intOf]; omega
      · have hk1 : ¬ (k : Int) = 0 := by omega
        by_cases hc : cmpI (a, b, c', d, e, f) (m0, m1, m2, m3, m4, m5) < 0
        · go_wp2_with (go_at_call 14; refine (less6 _ _ _ _ _ _ _ _ _ _ _ _ _).mono ?_; rintro en _ ⟨rfl, y9, rfl⟩; rw [decide_eq_true hc])
          go_roundw
          case rel =>
            have M := set6 y9.val (w.heap.size + 1) (.int .i64 a) (.int .i64 b) (.int .i64 c') (.int .i64 d) (.int .i64 e) (.int .i64 f)
            have GG : Gr wr y9.val := ((Gr.refl wr).alloc _).ext y9
            refine ⟨k + 1, (a, b, c', d, e, f), by omega, by go_num, gr6 (HG.out.trans GG) (w.heap.size + 1) (by omega) _ _ _ _ _ _, ?_, ?_, HS.out (.inr hc)⟩
            · exact (M.block w.heap.size (Nat.lt_of_lt_of_le hbl0 GG.size) (by omega)).trans ((GG.block _ hbl0).trans HB0.out)
            · exact set6_heap ((GG.block _ hbl1).trans HB1.out) _ _ _ _ _ _
          case measure => simp [intOf]; omega
        · go_wp2_with (go_at_call 14; refine (less6 _ _ _ _ _ _ _ _ _ _ _ _ _).mono ?_; rintro en _ ⟨rfl, y9, rfl⟩; rw [decide_eq_false hc])
          go_roundw
          case rel =>
            have GG : Gr wr y9.val := ((Gr.refl wr).alloc _).ext y9
            exact ⟨k + 1, (m0, m1, m2, m3, m4, m5), by omega, by go_num, HG.out.trans GG, (GG.block _ hbl0).trans HB0.out, (GG.block _ hbl1).trans HB1.out, HKP.out hk0 hc⟩
          case measure => simp [intOf]; omega
    · have hke : k = L.length := by omega
      have HL2 := hid (show LeastI L (m0, m1, m2, m3, m4, m5) by have := HL.out; rw [List.take_of_length_le (by omega)] at this; exact this)
      subst hke
      have hd : decide ((L.length : Int) > 0) = decide (0 < L.length) := by simp
      go_wp2_with fail
      have M := set6 wr w.heap.size (.int .i64 m0) (.int .i64 m1) (.int .i64 m2) (.int .i64 m3) (.int .i64 m4) (.int .i64 m5)
      obtain ⟨b0, b1, b2, b3, b4, b5, _⟩ := heap6 (set6_heap HB0.out (.int .i64 m0) (.int .i64 m1) (.int .i64 m2) (.int .i64 m3) (.int .i64 m4) (.int .i64 m5))
      refine bodyPost_ret (v := .tuple #[.agg #[.int .i64 m0, .int .i64 m1, .int .i64 m2, .int .i64 m3, .int .i64 m4, .int .i64 m5], .bool (decide (0 < L.length))]) (by simp [results, Try.results18, go_sem, b0, b1, b2, b3, b4, b5]) rfl ⟨(m0, m1, m2, m3, m4, m5), rfl, ?_, HL2.out⟩
      exact gr6 HG.out w.heap.size (Nat.le_refl _) _ _ _ _ _ _

/-- The greatest of some numbers. -/
def MostN (L : List Int) (n : Int) : Prop := (L = [] ∧ n = 0) ∨ (n ∈ L ∧ ∀ x ∈ L, x ≤ n)
def RetMost (L : List Int) (w : World) (e : Ending) (w' : World) : Prop := ∃ n, e = .returned (.tuple #[.int .i64 n, .bool (decide (0 < L.length))]) ∧ Gr w w' ∧ MostN L n
theorem takeN_succ (L : List Int) (k : Nat) (hk : k < L.length) : L.take (k + 1) = L.take k ++ [L.getD k 0] := by
  rw [List.take_add_one]; simp [List.getD, hk]
theorem most_step {L : List Int} {k : Nat} (hk : k < L.length) {m : Int} (h : MostN (L.take k) m) (hc : k = 0 ∨ L.getD k 0 > m) : MostN (L.take (k + 1)) (L.getD k 0) := by
  rw [takeN_succ L k hk]
  refine .inr ⟨by simp, fun x hx => ?_⟩
  rcases List.mem_append.1 hx with hx | hx
  · rcases hc with rfl | hc
    · simp at hx
    · rcases h with ⟨e, _⟩ | ⟨_, h⟩
      · rw [e] at hx; simp at hx
      · have h1 := h x hx
        omega
  · simp at hx
    rw [hx, ← List.getD_eq_getElem?_getD]
    exact Int.le_refl _
theorem most_keep {L : List Int} {k : Nat} (hk : k < L.length) {m : Int} (h : MostN (L.take k) m) (h0 : k ≠ 0) (hc : ¬ L.getD k 0 > m) : MostN (L.take (k + 1)) m := by
  rw [takeN_succ L k hk]
  rcases h with ⟨e, _⟩ | ⟨h1, h2⟩
  · have := congrArg List.length e
    rw [List.length_take, List.length_nil] at this
    omega
  · refine .inr ⟨by simp [h1], fun x hx => ?_⟩
    rcases List.mem_append.1 hx with hx | hx
    · exact h2 x hx
    · simp at hx
      rw [hx, ← List.getD_eq_getElem?_getD]
      omega

theorem gtr_any (x y : Int) (w : World) : Calls Try.prog 20 #[.int .i64 x, .int .i64 y] w (fun e w' => e = .returned (.bool (decide (y < x))) ∧ w = w') := by
  go_enter Try.func20, Try.ntmps20
  go_wp2_with fail
  go_ret
  exact ⟨rfl, rfl⟩

set_option maxHeartbeats 2000000 in
theorem leastN_any (v : Value) (L : List Int) (w : World) (hr : Ints w v L) (hl : L.length ≤ 1000000) : Calls Try.prog 19 #[v, .func (.func 20) #[] #[]] w (RetMost L w) := by
  obtain ⟨A, c, rfl, _, hcell⟩ := hr
  have HR := hid hcell
  clear hcell
  go_enter Try.func19, Try.ntmps19
  go_wp2_with fail
  go_loopw [6, 7, 8, 11] (fun m u7 v8 i wr => ∃ (k : Nat) (n : Int), k ≤ L.length ∧ i = .int .i64 k ∧ m = .int .i64 n ∧ w = wr ∧ MostN (L.take k) n) (fun _ _ _ i _ => L.length - (intOf i).toNat)
  case atStart => exact ⟨0, 0, Nat.zero_le _, rfl, rfl, rfl, .inl ⟨by simp, rfl⟩⟩
  case round =>
    obtain ⟨k, n, hk, rfl, rfl, rfl, hle⟩ := hrel
    have HL := hid hle
    clear hle
    by_cases hlt : k < L.length
    · obtain ⟨b, off, rfl, hc⟩ := HR.out (by intro e; rw [e] at hlt; simp at hlt)
      have c0 := hc k hlt
      clear hc
      have HS := hid (fun hc => most_step hlt HL.out hc)
      have HKP := hid (fun h0 hc => most_keep hlt HL.out h0 hc)
      generalize L.getD k 0 = x at *
      by_cases hk0 : k = 0
      · subst hk0
        simp only [Nat.add_zero] at c0
        go_wp2_with fail
        go_roundw
        case rel => exact ⟨1, x, by omega, rfl, rfl, trivial, HS.out (.inl rfl)⟩
        case measure => simp [intOf]; omega
      · have hk1 : ¬ (k : Int) = 0 := by omega
        by_cases hc : n < x
        · go_wp2_with (go_at_call 20; refine (gtr_any _ _ _).mono ?_; rintro en _ ⟨rfl, rfl⟩; rw [decide_eq_true hc])
          go_roundw
          case rel => exact ⟨k + 1, x, by omega, by go_num, rfl, trivial, HS.out (.inr hc)⟩
          case measure => simp [intOf]; omega
        · go_wp2_with (go_at_call 20; refine (gtr_any _ _ _).mono ?_; rintro en _ ⟨rfl, rfl⟩; rw [decide_eq_false hc])
          go_roundw
          case rel => exact ⟨k + 1, n, by omega, by go_num, rfl, trivial, HKP.out hk0 hc⟩
          case measure => simp [intOf]; omega
    · have hke : k = L.length := by omega
      have HL2 := hid (show MostN L n by have := HL.out; rw [List.take_of_length_le (by omega)] at this; exact this)
      subst hke
      have hd : decide ((L.length : Int) > 0) = decide (0 < L.length) := by simp
      go_wp2_with fail
      refine bodyPost_ret (v := .tuple #[.int .i64 n, .bool (decide (0 < L.length))]) (by simp [results, Try.results19, go_sem]) rfl ⟨n, rfl, Gr.refl _, HL2.out⟩
end Go.Proofs.Ytikmniokbliolaa
