import Derived.Test.YtlencagfkajcnaaK1
import Derived.Test.YtlencagfkajcnaaN8
namespace Go.Proofs.Ytlencagfkajcnaa
open Go.RowKit Go.Ext Go.BigFrame Go.Maps
attribute [local go_sem] Ext.cell Ext.frozen Ext.lt Ext.le s1 s2 s3 s4 s5 s6 t1 t2 t3 t4 t5 t6
attribute [local go_sem ↓] Go.wp_at_zero Go.wp_at_succ

/-- A byte that is not the net's is turned. -/
theorem NB.store {base g mb n q j : Nat} {w : World} {nodes sent : Int} {v u : Value} {x : It} {S : Int × Int → Bool} {p : Pk} {cs : Array Value} {fr : Nat × Nat} (h : NB base w g nodes sent mb n v [x] S [p]) (hq : w.heap[q]? = some (.cells cs 5 fr)) (hx : (sl x).ownBlock ≠ some q) :
    NB base (w.setCell ⟨q, j, none⟩ u) g nodes sent mb n v [x] S [p] := by
  have m := ((Gr.refl w).mod (fun b => b = q)).set (p := ⟨q, j, none⟩) (fun _ => rfl) u
  refine ⟨h.lo, (m.block g h.lt ?_).trans h.cell, own_mod h.row m ?_, h.mp.keep (m.block mb h.mp.lt ?_), h.mlo, h.hn, ⟨?_, trivial⟩⟩
  · rintro rfl
    have e2 := h.cell.symm.trans hq; injection e2 with e2; injection e2 with _ e2 _; cases e2
  · intro k e e2
    exact h.no5 k ⟨cs, fr, by rw [e2]; exact hq⟩ e.symm
  · obtain ⟨es, c, hm⟩ := h.mp.isMap
    rintro rfl
    have e2 := hq.symm.trans hm; injection e2 with e2; cases e2
  · obtain ⟨h1, h2, h3, h4, h5⟩ := h.dat.1
    exact ⟨h1, h2, h3, own_mod h4 m (fun k e e2 => hx (by rw [e, e2])), h5⟩
/-- A row of bytes that is not empty: where it lies. -/
theorem own_bytes {base : Nat} {w : World} {v : Value} {n : Nat} {b : UInt8} {r : List UInt8} (h : w.ownsRow base 5 1 v n (bc (b :: r))) : ∃ q cap cur, v = .slice (some ⟨q, 0, none⟩) n cap ∧ base ≤ q ∧ q < w.heap.size ∧ n ≤ cap ∧ w.heap[q]? = some (.cells cur 5 (0, 0)) ∧ cur[0]? = some (.int .u8 b.toNat) ∧ w.cell? ⟨q, 0, none⟩ = some (.int .u8 b.toNat) ∧ w.frozen? ⟨q, 0, none⟩ = false := by
  have hl := h.1
  simp [bc] at hl
  rcases h.2 with ⟨_, h0⟩ | ⟨q, cap, cur, e, hb, hh, hc, hm, hs, ht⟩
  · omega
  · have key : cur[0]? = some (.int .u8 b.toNat) := by
      have h0 : (cur.toList.take (n * 1))[0]? = some (.int .u8 b.toNat) := by rw [ht]; simp [bc]
      rw [List.getElem?_take] at h0
      split at h0
      · simpa using h0
      · cases h0
    exact ⟨q, cap, cur, e, hb, (Array.getElem?_eq_some_iff.1 hh).1, hc, hh, key, by simp only [World.cell?, hh]; exact key, by simp [World.frozen?, hh]⟩

set_option maxRecDepth 100000 in
set_option maxHeartbeats 2000000 in
/-- The law NetOwn. -/
theorem netown_any (A : Option Addr) (c : Nat) (bs : List UInt8) (t : UInt8) (w : World) (hd : Bys w (.slice A bs.length c) bs) : Calls Try.prog 3 #[.slice A bs.length c, .int .u8 (t.toNat : Int)] w (RetE (.bool true) w) := by
  refine retE ?_
  have HD := hid hd
  clear hd
  rcases bs with _ | ⟨b, r⟩
  · simp only [List.length_nil]
    go_enter Try.func3, Try.ntmps3
    go_wp2_with (go_at_call 7; refine (known_any _).mono ?_; rintro e _ ⟨rfl, y1, rfl⟩)
    go_ret
    exact ⟨rfl, y1.gr⟩
  obtain ⟨N, hN⟩ : ∃ N, (b :: r).length = N := ⟨_, rfl⟩
  have hN0 : 0 < N := by rw [← hN]; simp
  have HN := hid hN
  rw [hN] at HD ⊢
  by_cases h1 : 1000 < N
  · have hz : (1000 : Int) < (N : Int) := by omega
    have hz0 : ¬ (N : Int) = 0 := by omega
    clear hN
    go_enter Try.func3, Try.ntmps3
    go_wp2_with (go_at_call 7; refine (known_any _).mono ?_; rintro e _ ⟨rfl, y1, rfl⟩)
    go_ret
    exact ⟨rfl, y1.gr⟩
  have hz : ¬ (1000 : Int) < (N : Int) := by omega
  have hz0 : ¬ (N : Int) = 0 := by omega
  have hzn : ¬ N = 0 := by omega
  have hzb : ((N : Int) == 0) = false := by simpa using hzn
  obtain ⟨A1, c1, e1, hbl, hrd, _⟩ := HD.out
  obtain ⟨b0, o0, e0, hcs⟩ := hrd (by simp [bc])
  injection e1 with e1 e2 e3
  rw [← e1] at e0
  subst e0
  have HRD := hid hrd
  rw [← e1] at HRD
  clear hrd hcs e1 e2 e3 hbl
  obtain ⟨i0, hi0, hzz0, hz1, hz2⟩ := info_parts info5
  have hbcl : (bc (b :: r)).length = N * 1 := by rw [bc_length, hN]; omega
  have HBC := hid hbcl
  clear hN hbcl
  go_enter Try.func3, Try.ntmps3
  go_wp2_with (go_at_call 7; refine (known_any _).mono ?_; rintro e _ ⟨rfl, y1, rfl⟩)
  refine (new_any 2 y1.val w.heap.size y1.gr.size).mono ?_
  rintro en w1 (⟨hno, _⟩ | ⟨_, g, rfl, hn1, g1⟩)
  · exact absurd ⟨by omega, by omega⟩ hno
  have H1 := hid hn1
  have G1 := hid (y1.gr.trans g1)
  clear hn1 g1
  have hcv := conv_bys (HD.out.gr G1.out)
  obtain ⟨s0, hs0⟩ : ∃ s0, sb (b :: r) = s0 := ⟨_, rfl⟩
  rw [hs0] at hcv
  have HS0 := hid hs0
  clear hs0
  go_wp2_with (at_builtin; refine wpList_append_own _ rfl _ _ 22 rfl w1.heap.size 5 i0 _ 1 1 Try.underlying22 hi0 hzz0 hz1 hz2 rfl (by decide) (.slice (some ⟨w1.heap.size, 0, none⟩) 0 0) 0 [] rfl (World.ownsRow_made w1 #[] 0 (Nat.le_refl _) (by decide) rfl) ⟨b0, o0, none⟩ N c (bc (b :: r)) rfl HBC.out (HRD.out.gr (G1.out.alloc (.cells #[] 5))).add (bc_one _) (by unfold maxLen; omega) (by omega) (by simp) ?_; intro v1 w3 hown1 hg1 _)
  have G3 := hid (gr_grown (G1.out.alloc (.cells #[] 5)) hg1 (by intro k hk; simp [Value.ownBlock] at hk; have := G1.out.size; omega))
  have G13 := hid (gr_grown ((Gr.refl w1).alloc (.cells #[] 5)) hg1 (by intro k hk; simp [Value.ownBlock] at hk; omega))
  rw [Nat.zero_add, List.nil_append] at hown1
  obtain ⟨q, cap, cur, rfl, hq0, hq1, hqc, hq2, hcur, hq3, hq4⟩ := own_bytes hown1
  have hby := Bys.of_own (bs := b :: r) (by rw [HN.out]; exact hown1) (by rw [HN.out]; omega)
  obtain ⟨mb, v, L, hnb⟩ := H1.out
  obtain rfl : L = [] := List.eq_nil_of_length_eq_zero (by have := hnb.dat.len; simpa using this)
  have HQ := hid hq2
  clear hcv hown1 hg1 hq3 hq4
  refine (send_good w.heap.size g mb 0 2 0 0 1 v [] (fun _ => false) [] _ (b :: r) w3 (hnb.gr G13.out) (by simp [isN]) (by simp [isN]) (by rw [HN.out]; omega) (by simp [opF, isN]) hby (by simp) (by omega) G3.out.size).mono ?_
  rintro en w4 ⟨rfl, ⟨v', x, h4, hx⟩, m4⟩
  have hq5 : w4.heap[q]? = some (.cells cur 5 (0, 0)) := (m4.block q hq1 (fun e => OurT.not5 ⟨_, _, HQ.out⟩ e.2)).trans HQ.out
  have G4 := hid (m4.gr (Nat.le_refl _) G3.out)
  have H4 := hid h4
  have HX := hid (show (sl x).ownBlock ≠ some q from fun e => by have := hx q e; omega)
  clear h4 hx m4 hnb hby
  have c40 : w4.cell? ⟨q, 0, none⟩ = some (.int .u8 b.toNat) := by simp only [World.cell?, hq5]; exact hcur
  have f40 : w4.frozen? ⟨q, 0, none⟩ = false := by simp [World.frozen?, hq5]
  have hq6 : q < w4.heap.size := (Array.getElem?_eq_some_iff.1 hq5).1
  have HQ5 := hid hq5
  clear hq5 hq1 hq2
  go_wp2_with fail
  have hbq : w.heap.size ≤ q := Nat.le_trans G1.out.size hq0
  obtain ⟨X, hX⟩ : ∃ X, Value.int IntKind.u8 (bits BinOp.xor IntKind.u8 (b.toNat : Int) (t.toNat : Int)) = X := ⟨_, rfl⟩
  rw [hX]
  have H5 := hid (show Nt w.heap.size (w4.setCell ⟨q, 0, none⟩ X) g 2 1 0 (fun _ => false) [(0, 1, 0, b :: r)] from ⟨mb, v', [x], NB.store (show NB w.heap.size w4 g 2 1 mb 0 v' [x] (fun _ => false) [(0, 1, 0, b :: r)] from H4.out) HQ5.out HX.out⟩)
  have G5 := hid (G4.out.set (p := ⟨q, 0, none⟩) hbq X)
  clear hX c40 f40
  generalize w4.setCell ⟨q, 0, none⟩ X = w5 at *
  refine (again_any w.heap.size g 0 2 1 0 (fun _ => false) [(0, 1, 0, b :: r)] w5 H5.out (by simp)).mono ?_
  rintro en w6 ⟨rfl, h6, m6⟩
  have e6 : againP [(0, 1, 0, b :: r)] 0 = [(0, 1, 0, b :: r), (0, 1, 0, b :: r)] := by simp [againP, okN, dupF, atF]
  rw [e6] at h6
  have H6 := hid h6
  have G6 := hid (m6.gr (Nat.le_refl _) G5.out)
  clear h6 m6 e6
  go_wp2_with fail
  refine (wait_any w.heap.size g 0 2 1 (fun _ => false) [(0, 1, 0, b :: r), (0, 1, 0, b :: r)] _ H6.out (by simp)).mono ?_
  rintro en _ ⟨u, y7, rfl, rfl, L', ho7, hd7⟩
  obtain ⟨x1, x2, rfl⟩ : ∃ x1 x2, L' = [x1, x2] := by
    match L', hd7 with
    | [x1, x2], _ => exact ⟨x1, x2, rfl⟩
  obtain ⟨⟨_, _, _, f4, _⟩, _⟩ := hd7
  obtain ⟨a1, a2, a3, A2, l2, c2⟩ := x1
  simp only [sl] at f4
  obtain ⟨AU, cU, rfl⟩ := own_shape ho7
  obtain ⟨bu, ou, e0, hbu, u0, u1, u2, u3⟩ := (Row.of_own (L := [((a1, a2, a3, A2, l2, c2) : It), x2]) ho7).at_ (i := 0) (by simp)
  subst e0
  simp only [List.getD_cons_zero, Nat.zero_mul, Nat.add_zero] at u0 u1 u2 u3
  rw [HN.out] at f4
  obtain ⟨qd, cap2, cur2, e2, hd0, hd1, hdc, hd2, hcur2, hd3, hd4⟩ := own_bytes f4
  injection e2 with e2 e3 e4
  subst e2 e3 e4
  have G7 := hid (G6.out.ext y7)
  clear hcur2 ho7 f4 u0 u1 u2
  have HD0 := hid hd0
  clear hd0 hd2
  go_wp2_with fail
  obtain ⟨X2, hX2⟩ : ∃ X2, Value.int IntKind.u8 (((b.toNat : Int) + 1) % 256) = X2 := ⟨_, rfl⟩
  rw [hX2]
  have G68 : Gr w6 (y7.val.setCell ⟨qd, 0, none⟩ X2) := y7.gr.set (p := ⟨qd, 0, none⟩) HD0.out X2
  have H8 := hid (H6.out.gr G68)
  have G8 := hid (G6.out.trans G68)
  clear hX2 hd3 hd4 u3 G68
  generalize y7.val.setCell ⟨qd, 0, none⟩ X2 = w8 at *
  refine (take_any w.heap.size g 0 2 1 0 (fun _ => false) [(0, 1, 0, b :: r), (0, 1, 0, b :: r)] w8 H8.out (by simp)).mono ?_
  rintro en w9 (⟨hno, _⟩ | ⟨_, i, ⟨y1', y2', y3', A9, l9, c9⟩, hi1, hi2, rfl, hone, h9, m9⟩)
  · simp [okN] at hno
  obtain rfl : i = 0 := by omega
  simp only [List.getD_cons_zero] at hone
  have H9 := hid (show Nt w.heap.size w9 g 2 1 0 (fun _ => false) [(0, 1, 0, b :: r)] from h9)
  have G9 := hid (m9.gr (Nat.le_refl _) G8.out)
  have HONE := hid hone
  clear h9 m9 hone hi1 hi2
  simp only [iv]
  go_wp2_with fail
  obtain ⟨mb9, v9, L9, hn9⟩ := H9.out
  have GX : Gr w9 (w9.alloc (.cells #[.int .i64 y1', .int .i64 y2', .int .i64 y3', .slice A9 l9 c9] 33)) := (Gr.refl w9).alloc _
  have one9 : One w.heap.size (w9.alloc (.cells #[.int .i64 y1', .int .i64 y2', .int .i64 y3', .slice A9 l9 c9] 33)) (y1', y2', y3', A9, l9, c9) (0, 1, 0, b :: r) := One.mod HONE.out (GX.mod fun _ => False) (fun _ _ e => e)
  have hb9 := heap_alloc_new w9 (.cells #[.int .i64 y1', .int .i64 y2', .int .i64 y3', .slice A9 l9 c9] 33)
  have hn5 : ¬ (w9.heap.size = g ∨ w9.heap.size = mb9 ∨ some w9.heap.size = v9.ownBlock) := by
    rintro (e | e | e)
    · have := hn9.lt; omega
    · have := hn9.mp.lt; omega
    · have := (hn9.row.lt _ e.symm).2; omega
  refine (take_anyM w.heap.size g mb9 0 2 1 0 v9 L9 (fun _ => false) [(0, 1, 0, b :: r)] _ (hn9.gr GX) (by simp)).mono ?_
  rintro en w10 ⟨⟨hno, _⟩ | ⟨_, i, ⟨z1', z2', z3', A10, l10, c10⟩, hi1, hi2, rfl, hone2, h10, m10⟩, z10⟩
  · simp [okN] at hno
  obtain rfl : i = 0 := by omega
  simp only [List.getD_cons_zero] at hone2
  have HB10 := hid ((z10.block w9.heap.size (by simp) hn5).trans hb9)
  have HO10 := hid (One.mod one9 m10 (fun k hk hs => OurT.not5 hk hs.2))
  have G10 := hid (m10.gr (Nat.le_refl _) (G9.out.trans GX))
  have GX2 : Gr w10 (w10.alloc (.cells #[.int .i64 z1', .int .i64 z2', .int .i64 z3', .slice A10 l10 c10] 33)) := (Gr.refl w10).alloc _
  have hca := conv_bys (Bys.gr (Bys.of_own (bs := b :: r) (by have := HO10.out.2.2.2.1; exact this) (by rw [HN.out]; omega)) GX2)
  have hcb := conv_bys (Bys.gr (Bys.of_own (bs := b :: r) (by have := hone2.2.2.2.1; exact this) (by rw [HN.out]; omega)) GX2)
  simp only [sl] at hca hcb
  rw [HS0.out] at hca hcb
  obtain ⟨k0, k1, k2, k3, _⟩ := heap4 HB10.out
  have hl10 : w9.heap.size < w10.heap.size := (Array.getElem?_eq_some_iff.1 HB10.out).1
  clear h10 m10 z10 hone2 hb9 hn5 one9 GX GX2 hn9 hi1 hi2
  simp only [iv]
  go_wp2_with fail
  go_ret
  exact ⟨by simp, G10.out.alloc _⟩
end Go.Proofs.Ytlencagfkajcnaa
