import Derived.Test.YtlencagfkajcnaaN7
import Derived.Test.YtlencagfkajcnaaM1
import Derived.Deep.Cut
import Derived.Deep.CutRange
namespace Go.Proofs.Ytlencagfkajcnaa
open Go.RowKit Go.Ext Go.BigFrame Go.Maps
attribute [local go_sem] Ext.cell Ext.frozen Ext.lt Ext.le s1 s2 s3 s4 s5 s6 t1 t2 t3 t4 t5 t6
attribute [local go_sem ↓] Go.wp_at_zero Go.wp_at_succ

/-- Where the packets of a number end. -/
def atF (P : List Pk) (i : Nat) : Nat := i + ((P.drop i).takeWhile fun p => decide (p.2.2.1 = (P.getD i p0).2.2.1)).length
theorem tw_len : ∀ (R : List Pk) (q : Int) (m : Nat), m ≤ R.length → (∀ t, t < m → (R.getD t p0).2.2.1 = q) → (m < R.length → (R.getD m p0).2.2.1 ≠ q) → (R.takeWhile fun p => decide (p.2.2.1 = q)).length = m
  | [], q, m, h, _, _ => by simp at h; simp [h]
  | p :: R, q, 0, _, _, h2 => by
    have := h2 (by simp)
    simp only [List.getD_cons_zero] at this
    simp [this]
  | p :: R, q, m + 1, h, h1, h2 => by
    have e0 := h1 0 (by omega)
    simp only [List.getD_cons_zero] at e0
    have ih := tw_len R q m (by simpa using h) (fun t ht => by have := h1 (t + 1) (by omega); simpa using this) (fun hm => by have := h2 (by simpa using hm); simpa using this)
    simp [e0, ih]
theorem atF_eq (P : List Pk) (i k : Nat) (h0 : i ≤ k) (hk : k ≤ P.length) (h1 : ∀ t, i ≤ t → t < k → (P.getD t p0).2.2.1 = (P.getD i p0).2.2.1) (h2 : k < P.length → (P.getD k p0).2.2.1 ≠ (P.getD i p0).2.2.1) : atF P i = k := by
  unfold atF
  have hd : ∀ t, (P.drop i).getD t p0 = P.getD (i + t) p0 := fun t => by simp [List.getD]
  rw [tw_len (P.drop i) _ (k - i) (by rw [List.length_drop]; omega) (fun t ht => by rw [hd]; exact h1 _ (by omega) (by omega)) (fun hm => by rw [hd, show i + (k - i) = k by omega]; rw [List.length_drop] at hm; exact h2 (by omega))]
  omega
/-- Doubled. -/
def dupF (P : List Pk) (i : Nat) : List Pk := P.take (atF P i) ++ P.getD i p0 :: P.drop (atF P i)

theorem againfn_full (g B2 B3 : Nat) (L : List It) (A : Option Addr) (cp : Nat) (f t q : Int) (A' : Option Addr) (l c : Nat) (w : World) (hc : w.cell? ⟨g, 2, none⟩ = some (.slice A L.length cp))
    (h2 : w.cell? ⟨B2, 0, none⟩ = some (.pointer (some ⟨g, 0, none⟩))) (hl : 4096 ≤ L.length) :
    Calls Try.prog 24 #[.agg #[.int .i64 f, .int .i64 t, .int .i64 q, .slice A' l c], .pointer (some ⟨B2, 0, none⟩), .pointer (some ⟨B3, 0, none⟩)] w (fun e w' => e = .returned (.int .i64 4) ∧ Gr w w') := by
  have l2 := World.block_lt_of_cell? _ _ h2
  have lg := World.block_lt_of_cell? _ _ hc
  simp only at l2 lg
  have hz : (4096 : Int) ≤ (L.length : Int) := by omega
  go_enter Try.func24, Try.ntmps24
  go_wp2_with fail
  go_ret
  exact ⟨rfl, (Gr.refl w).alloc _⟩

set_option maxRecDepth 100000 in
set_option maxHeartbeats 40000000 in
theorem againfn_ok (base g mb n i B2 B3 : Nat) (nodes sent : Int) (v : Value) (L : List It) (S : Int × Int → Bool) (P : List Pk) (w : World) (h : NB base w g nodes sent mb n v L S P) (hi : i < L.length) (hl : L.length < 4096)
    (h2 : w.cell? ⟨B2, 0, none⟩ = some (.pointer (some ⟨g, 0, none⟩))) (h3 : w.cell? ⟨B3, 0, none⟩ = some (.int .i64 i)) (n2' : v.ownBlock ≠ some B2) (hbase : base ≤ w.heap.size) :
    Calls Try.prog 24 #[iv (L.getD i z0), .pointer (some ⟨B2, 0, none⟩), .pointer (some ⟨B3, 0, none⟩)] w
      (fun e w' => e = .returned (.int .i64 0) ∧ (∃ v' L', NB base w' g nodes sent mb n v' L' S (dupF P i)) ∧ MN base w w') := by
  have hlen := h.dat.len
  have HLEN := hid hlen
  have hone := h.dat.get i hi
  obtain ⟨⟨f, t, q, A', l', c'⟩, hy⟩ : ∃ y, L.getD i z0 = y := ⟨_, rfl⟩
  rw [hy] at hone ⊢
  obtain ⟨o1, o2, o3, o4, o5⟩ := hone
  simp only [sl] at o1 o2 o3 o4
  simp only [iv]
  have H := hid h
  have hlt := h.lt
  have l2 := World.block_lt_of_cell? _ _ h2
  have l3 := World.block_lt_of_cell? _ _ h3
  simp only at l2 l3
  obtain ⟨A, cp, rfl⟩ := h.shape
  have HQ := hid (show ∀ t, t < L.length → (L.getD t z0).2.2.1 = (P.getD t p0).2.2.1 from fun t ht => (h.dat.get t ht).2.2.1)
  have HO3 := hid o3
  have HO4 := hid o4
  have HBL := hid o5
  have HO1 := hid o1
  have HO2 := hid o2
  have H2 := hid h2
  have H3 := hid h3
  clear h hy o1 o2 o3 o4 o5 h2 h3 hlen
  have hz : ¬ (4096 : Int) ≤ (L.length : Int) := by omega
  have c2 := H.out.cs.2.2.1
  have h2 := H2.out
  have h3 := H3.out
  go_enter Try.func24, Try.ntmps24
  go_wp2_with fail
  clear c2 h2 h3
  have G1 := hid ((Gr.refl w).alloc (.cells #[.int .i64 f, .int .i64 t, .int .i64 q, .slice A' l' c'] 33))
  have HB := hid (heap_alloc_new w (.cells #[.int .i64 f, .int .i64 t, .int .i64 q, .slice A' l' c'] 33))
  generalize w.alloc (.cells #[.int .i64 f, .int .i64 t, .int .i64 q, .slice A' l' c'] 33) = W1 at *
  go_loopw [5] (fun a wr => ∃ k : Nat, i ≤ k ∧ k ≤ L.length ∧ a = .int .i64 k ∧ Gr W1 wr ∧ ∀ t, i ≤ t → t < k → (L.getD t z0).2.2.1 = q) (fun a _ => L.length - (intOf a).toNat)
  case atStart => exact ⟨i, Nat.le_refl _, by omega, rfl, Gr.refl _, fun t h1 h2 => by omega⟩
  case round =>
    obtain ⟨k, hik, hk, rfl, hg, hall⟩ := hrel
    have HG := hid hg
    have HALL := hid hall
    have GG := hid (G1.out.trans hg)
    have hsz := GG.out.size
    obtain ⟨_, _, c2, _, f2, _⟩ := (H.out.gr GG.out).cs
    have hlt2 : g < wr.heap.size := by omega
    have h2 : wr.cell? ⟨B2, 0, none⟩ = some (.pointer (some ⟨g, 0, none⟩)) := (GG.out.cell (p := ⟨B2, 0, none⟩) l2).trans H2.out
    have ll2 : B2 < wr.heap.size := by omega
    have HBR := hid ((HG.out.block w.heap.size (Array.getElem?_eq_some_iff.1 HB.out).1).trans HB.out)
    obtain ⟨b0, b1, b2, b3, _⟩ := heap4 HBR.out
    have hbl : w.heap.size < wr.heap.size := (Array.getElem?_eq_some_iff.1 HBR.out).1
    clear hg hall
    by_cases hgo : k < L.length ∧ (L.getD k z0).2.2.1 = q
    · obtain ⟨hlt3, hq3⟩ := hgo
      obtain ⟨bb, off, e0, hbw, d0, d1, d2, d3⟩ := (Row.of_own (H.out.gr GG.out).row).at_ hlt3
      subst e0
      rw [hq3] at d2
      clear d0 d1 d3
      have HQ3 := hid hq3
      clear hq3
      go_wp2_with fail
      refine wp_region_ext (by kernel_rfl) (by kernel_rfl) ?_
      repeat (go_big_quiet_step (fail))
      refine wpQuiet_nil ?_
      rintro _ ⟨z, rfl⟩
      go_wp2_with fail
      go_roundw
      case rel =>
        refine ⟨k + 1, by omega, by omega, by go_num, HG.out.ext z, fun t h1 h2 => ?_⟩
        by_cases e : t = k
        · subst e; exact HQ3.out
        · exact HALL.out t h1 (by omega)
      case measure => simp [intOf]; omega
    · have hP : atF P i = k := by
        have hlen := HLEN.out
        refine atF_eq P i k hik (by omega) (fun t h1 h2 => ?_) (fun hkl => ?_)
        · rw [← HQ.out t (by omega), ← HO3.out]; exact HALL.out t h1 h2
        · rw [← HQ.out k (by omega), ← HO3.out]; exact fun h => hgo ⟨by omega, h⟩
      have HAT := hid hP
      clear hP
      have hcase : k = L.length ∨ (k < L.length ∧ (L.getD k z0).2.2.1 ≠ q) := by
        by_cases h : k < L.length
        · exact .inr ⟨h, fun e => hgo ⟨h, e⟩⟩
        · exact .inl (by omega)
      have HCASE := hid hcase
      clear hcase hgo
      go_upto_region 4 with fail
      go_cut [32] from 13 to 34 (fun s wx => s = .bool false ∧ ∃ z : Ext wr, wx = z.val)
      case first =>
        rcases HCASE.out with hke | ⟨hlt3, hnq⟩
        · have hkd0 : ¬ k < L.length := by omega
          have hkd : decide ((k : Int) < (L.length : Int)) = false := decide_eq_false (by omega)
          have HKE := hid hke
          clear hke
          refine wp_region_ext (by kernel_rfl) (by kernel_rfl) ?_
          repeat (go_big_quiet_step (fail))
          refine wpQuiet_nil ?_
          rintro _ ⟨z, rfl⟩
          go_wp2_with fail
          go_meet
          exact ⟨rfl, z, rfl⟩
        · obtain ⟨bb, off, e0, hbw, d0, d1, d2, d3⟩ := (Row.of_own (H.out.gr GG.out).row).at_ hlt3
          subst e0
          obtain ⟨qq, hqq⟩ : ∃ qq, (L.getD k z0).2.2.1 = qq := ⟨_, rfl⟩
          rw [hqq] at d2 hnq
          have hnb : (qq == q) = false := by simpa using hnq
          clear d0 d1 d3 hqq
          refine wp_region_ext (by kernel_rfl) (by kernel_rfl) ?_
          repeat (go_big_quiet_step (fail))
          refine wpQuiet_nil ?_
          rintro _ ⟨z, rfl⟩
          go_wp2_with fail
          go_meet
          exact ⟨rfl, z, rfl⟩
      case rest =>
        obtain ⟨rfl, z, rfl⟩ := hcut
        go_wp2_with fail
        have GZ := hid (GG.out.ext z)
        have hWz := z.gr
        have HBZ := hid ((z.gr.block w.heap.size hbl).trans HBR.out)
        clear b0 b1 b2 b3 c2 f2 h2
        generalize z.val = W2 at *
        have HZ := hid (H.out.gr GZ.out)
        obtain ⟨_, _, c2, _, f2, _⟩ := HZ.out.cs
        have hz2 : g < W2.heap.size := HZ.out.lt
        have h2 : W2.cell? ⟨B2, 0, none⟩ = some (.pointer (some ⟨g, 0, none⟩)) := (GZ.out.cell (p := ⟨B2, 0, none⟩) l2).trans H2.out
        have hszz := GZ.out.size
        have lz2 : B2 < W2.heap.size := by omega
        obtain ⟨b0, b1, b2, b3, _⟩ := heap4 HBZ.out
        have hblz : w.heap.size < W2.heap.size := (Array.getElem?_eq_some_iff.1 HBZ.out).1
        have HTW := hid (fun W (y : Gr W2 W) => twin_any f t q A' l' c' (P.getD i p0).2.2.2 W (Bys.of_own (own_gr HO4.out (GZ.out.trans y)) HBL.out))
        have hbz : base ≤ W2.heap.size := by omega
        go_region_law (first
          | (go_simp; go_at_call 26
             refine (HTW.out _ (by repeat (first | exact Gr.refl _ | assumption | refine Gr.alloc ?_ _ | refine Gr.drew ?_))).mono ?_
             rintro en w6 ⟨A6, c6, rfl, g6, ho6⟩
             have G6 := hid (show Gr W2 w6 from Gr.trans (by repeat (first | exact Gr.refl _ | assumption | refine Gr.alloc ?_ _ | refine Gr.drew ?_)) g6)
             have HO6 := hid (show w6.ownsRow base 5 1 (.slice A6 (P.getD i p0).2.2.2.length c6) (P.getD i p0).2.2.2.length (bc (P.getD i p0).2.2.2) from ho6.mono (Nat.le_trans hbz (by simp)))
             have h62 : w6.cell? ⟨B2, 0, none⟩ = some (.pointer (some ⟨g, 0, none⟩)) := (G6.out.cell (p := ⟨B2, 0, none⟩) lz2).trans h2
             have H6 := hid (HZ.out.gr G6.out)
             obtain ⟨_, _, c62, _, f62, _⟩ := H6.out.cs
             have hl6 : g < w6.heap.size := H6.out.lt
             have hs6 := G6.out.size
             have hl62 : B2 < w6.heap.size := by omega
             clear g6 ho6)
          | (go_simp; go_at_call 25
             refine (insert_any base w6.heap.size k (.slice A L.length cp) L (f, t, q, A6, (P.getD i p0).2.2.2.length, c6) _ (own_gr H6.out.row (by repeat (first | exact Gr.refl _ | assumption | refine Gr.alloc ?_ _ | refine Gr.drew ?_))) (by first | exact heap_alloc_new w6 _ | exact heap_alloc_new w6.drew _) (fun e => by have := (H6.out.row.lt _ e).2; omega) (by omega) hk (by simp; omega)).mono ?_
             rintro en w8 ⟨v8, rfl, hr8, hm8, ho8⟩
             have HR8 := hid hr8
             have M8 := hid (show Mod (fun b => some b = (Value.slice A L.length cp).ownBlock) w6 w8 from Mod.trans (Gr.mod (by repeat (first | exact Gr.refl _ | assumption | refine Gr.alloc ?_ _ | refine Gr.drew ?_)) _) hm8 (fun _ _ h => h))
             have HC8 := hid ((M8.out.block g hl6 H6.out.ne).trans H6.out.cell)
             obtain ⟨_, _, q2, q3, _, _, qf2, qf3⟩ := heap4 HC8.out
             have hl8 : g < w8.heap.size := (Array.getElem?_eq_some_iff.1 HC8.out).1
             have h82 : w8.cell? ⟨B2, 0, none⟩ = some (.pointer (some ⟨g, 0, none⟩)) := (World.cell?_of_block (M8.out.block B2 hl62 (fun e => n2' e.symm))).trans h62
             have hl82 : B2 < w8.heap.size := Nat.lt_of_lt_of_le hl62 M8.out.size
             obtain ⟨A8, n8, c8, rfl⟩ : ∃ A n c, v8 = .slice A n c := by obtain ⟨A, c, e⟩ := own_shape hr8; exact ⟨_, _, _, e⟩
             clear hr8 hm8 ho8))
        all_goals (
          go_wp2_with fail
          go_ret
          have hd8 := Dat.mod M8.out H6.out.no5 H6.out.dat
          have hm8 : MP w8 mb n S := H6.out.mp.keep (M8.out.block mb H6.out.mp.lt H6.out.nem.2)
          have hone8 : One base w8 (f, t, q, A6, (P.getD i p0).2.2.2.length, c6) (P.getD i p0) := One.mod ⟨HO1.out, HO2.out, HO3.out, HO6.out, HBL.out⟩ M8.out H6.out.no5
          have hd9 : Dat base w8 (L.take k ++ (f, t, q, A6, (P.getD i p0).2.2.2.length, c6) :: L.drop k) (dupF P i) := by
            unfold dupF
            rw [HAT.out]
            exact Dat.app (Dat.take k hd8) ⟨hone8, Dat.drop k hd8⟩
          refine ⟨rfl, ⟨_, _, NB.put H.out.lo H.out.mlo H.out.hn HC8.out HR8.out hm8 hd9⟩, ?_⟩
          refine H.out.mn ?_
          exact ((((GZ.out.trans G6.out).mod (fun k => k = g ∨ k = mb ∨ some k = (Value.slice A L.length cp).ownBlock)).trans M8.out (fun _ _ h => .inr (.inr h))).set (p := ⟨g, 2, none⟩) (fun _ => .inl rfl) _))
end Go.Proofs.Ytlencagfkajcnaa
