import Derived.Test.YtikmniokbliolaaW2
import Derived.Test.YtikmniokbliolaaQ
import Derived.Shelf.Abstract
namespace Go.Proofs.Ytikmniokbliolaa
open Go.RowKit Go.Ext Go.BigFrame
attribute [local go_sem] Ext.cell Ext.frozen Ext.lt Ext.le s1 s2 s3 s4 s5 s6 t1 t2 t3 t4 t5 t6
attribute [local go_sem ↓] Go.wp_at_zero Go.wp_at_succ

theorem box6 {a b c d e f : Int} {w W : World} (g : Gr (w.alloc (.cells #[.int .i64 a, .int .i64 b, .int .i64 c, .int .i64 d, .int .i64 e, .int .i64 f] 33)) W) :
    W.cell? ⟨w.heap.size, 0, none⟩ = some (.int .i64 a) ∧ W.cell? ⟨w.heap.size, 1, none⟩ = some (.int .i64 b) ∧ W.cell? ⟨w.heap.size, 2, none⟩ = some (.int .i64 c) ∧ W.cell? ⟨w.heap.size, 3, none⟩ = some (.int .i64 d) ∧ W.cell? ⟨w.heap.size, 4, none⟩ = some (.int .i64 e) ∧ W.cell? ⟨w.heap.size, 5, none⟩ = some (.int .i64 f) ∧ w.heap.size < W.heap.size := by
  refine ⟨?_, ?_, ?_, ?_, ?_, ?_, ?_⟩
  iterate 6 (rw [g.cell (by simp)]; go_simp)
  have := g.size
  simp at this
  omega

set_option maxHeartbeats 2000000 in
theorem search_any (A : Option Addr) (cp : Nat) (L : List It) (x : It) (w : World) (hr : Row w A L) (hs : Srt L) (hl : L.length ≤ 4398046511103) :
    Calls Try.prog 39 #[.slice A L.length cp, iv x, .func (.func 40) #[] #[]] w (RetP (fun _ v => ∃ r, v = .tuple #[.int .i64 (pos L x), .bool r]) w) := by
  have HR := hid hr
  have HS := hid hs
  clear hr hs
  have HP := hid (fun i h1 h2 (h3 : i < L.length → 0 ≤ cmpI (L.getD i z0) x) => pos_eq L x i h1 h2 (fun h => Int.not_lt.2 (h3 h)))
  obtain ⟨p, hp⟩ : ∃ p, pos L x = p := ⟨_, rfl⟩
  rw [hp] at HP ⊢
  clear hp
  obtain ⟨a, b, c, d, e, f⟩ := x
  simp only [iv]
  go_enter Try.func39, Try.ntmps39
  go_wp2_with fail
  have HG0 := hid (Gr.refl (w.alloc (.cells #[.int .i64 a, .int .i64 b, .int .i64 c, .int .i64 d, .int .i64 e, .int .i64 f] 33)))
  go_loopw [9, 10, 11] (fun i j _ wr => ∃ lo hi : Nat, lo ≤ hi ∧ hi ≤ L.length ∧ i = .int .i64 lo ∧ j = .int .i64 hi ∧ (∀ t, t < lo → cmpI (L.getD t z0) (a, b, c, d, e, f) < 0) ∧ (hi < L.length → 0 ≤ cmpI (L.getD hi z0) (a, b, c, d, e, f)) ∧ Gr (w.alloc (.cells #[.int .i64 a, .int .i64 b, .int .i64 c, .int .i64 d, .int .i64 e, .int .i64 f] 33)) wr) (fun i j _ _ => (intOf j).toNat - (intOf i).toNat)
  case atStart => exact ⟨0, L.length, Nat.zero_le _, Nat.le_refl _, rfl, rfl, fun t ht => absurd ht (by omega), fun h => absurd h (by omega), HG0.out⟩
  case round =>
    obtain ⟨lo, hi, hlh, hhl, rfl, rfl, hlo, hhi, hg⟩ := hrel
    have HG := hid hg
    have HLO := hid hlo
    have HHI := hid hhi
    clear hlo hhi hg
    obtain ⟨b0, b1, b2, b3, b4, b5, hbl⟩ := box6 HG.out
    by_cases hlt : lo < hi
    · obtain ⟨m, hm⟩ : ∃ m : Nat, (lo + hi) / 2 = m := ⟨_, rfl⟩
      have hm1 : lo ≤ m := by omega
      have hm2 : m < hi := by omega
      obtain ⟨bb, off, rfl, hbb, c0, c1, c2, c3, c4, c5⟩ := (HR.out.gr (((Gr.refl w).alloc _).trans HG.out)).at_ (i := m) (by omega)
      obtain ⟨⟨a', b', c', d', e', f'⟩, hy⟩ : ∃ y, L.getD m z0 = y := ⟨_, rfl⟩
      rw [hy] at c0 c1 c2 c3 c4 c5
      simp only at c0 c1 c2 c3 c4 c5
      have HY := hid hy
      clear hy
      have hmi : ((lo : Int) + (hi : Int)) / 2 = (m : Int) := by omega
      have HM := hid hm
      clear hm
      have HC := fun W => closure6 a' b' c' d' e' f' a b c d e f W
      obtain ⟨r, hrr⟩ : ∃ r, cmpI (a', b', c', d', e', f') (a, b, c, d, e, f) = r := ⟨_, rfl⟩
      rw [hrr] at HC
      have HRR := hid hrr
      clear hrr
      go_wp2_with fail
      refine wp_region_ext (by kernel_rfl) (by kernel_rfl) ?_
      repeat (go_big_quiet_step (first | (go_at_fn 40; rename_i x; exact calls_ext _ (HC _)) | (go_at_call 40; rename_i x; exact calls_ext _ (HC _))))
      refine wpQuiet_nil ?_
      rintro _ ⟨x, rfl⟩
      by_cases hr0 : r < 0
      · go_wp2_with fail
        go_roundw
        case rel => exact ⟨m + 1, hi, by omega, hhl, by go_num, rfl, fun t ht => HS.out.mono (j := m) (by omega) (by omega) (by rw [HY.out, HRR.out]; exact hr0), HHI.out, HG.out.ext _⟩
        case measure => simp [intOf]; omega
      · go_wp2_with fail
        go_roundw
        case rel => exact ⟨lo, m, by omega, by omega, rfl, by go_num, HLO.out, fun _ => by rw [HY.out, HRR.out]; exact Int.not_lt.1 hr0, HG.out.ext _⟩
        case measure => simp [intOf]; omega
    · have hle : lo = hi := by omega
      subst hle
      have hpe : p = lo := HP.out lo (by omega) HLO.out HHI.out
      subst hpe
      clear HP
      by_cases hn : p < L.length
      · obtain ⟨bb, off, rfl, hbb, c0, c1, c2, c3, c4, c5⟩ := (HR.out.gr (((Gr.refl w).alloc _).trans HG.out)).at_ (i := p) (by omega)
        obtain ⟨⟨a', b', c', d', e', f'⟩, hy⟩ : ∃ y, L.getD p z0 = y := ⟨_, rfl⟩
        rw [hy] at c0 c1 c2 c3 c4 c5
        simp only at c0 c1 c2 c3 c4 c5
        clear hy
        have HC := fun W => closure6 a' b' c' d' e' f' a b c d e f W
        generalize cmpI (a', b', c', d', e', f') (a, b, c, d, e, f) = r at HC
        have hpn : (p : Int) < (L.length : Int) := by omega
        go_wp2_with fail
        refine wp_region_ext (by kernel_rfl) (by kernel_rfl) ?_
        repeat (go_big_quiet_step (first | (go_at_fn 40; rename_i x; exact calls_ext _ (HC _)) | (go_at_call 40; rename_i x; exact calls_ext _ (HC _))))
        refine wpQuiet_nil ?_
        rintro _ ⟨x, rfl⟩
        go_wp2_with fail
        go_ret2
        exact ⟨_, ⟨x.val, (((Gr.refl w).alloc _).trans HG.out).ext x⟩, rfl, rfl, _, rfl⟩
      · have hpn : ¬ (p : Int) < (L.length : Int) := by omega
        go_wp2_with fail
        refine wp_region_ext (by kernel_rfl) (by kernel_rfl) ?_
        repeat (go_big_quiet_step (fail))
        refine wpQuiet_nil ?_
        rintro _ ⟨x, rfl⟩
        go_wp2_with fail
        go_ret2
        exact ⟨_, ⟨x.val, (((Gr.refl w).alloc _).trans HG.out).ext x⟩, rfl, rfl, _, rfl⟩

/-- The heap at g: its slice v, its items L. -/
structure HB (base : Nat) (w : World) (g : Nat) (v : Value) (L : List It) : Prop where
  lo : base ≤ g
  cell : w.heap[g]? = some (.cells #[v] 64 (0, 0))
  row : w.ownsRow base 33 6 v L.length (cs6 L)
theorem HB.shape {base : Nat} {w : World} {g : Nat} {v : Value} {L : List It} (h : HB base w g v L) : ∃ A c, v = .slice A L.length c := by
  rcases h.row.2 with ⟨rfl, h0⟩ | ⟨g, cap, cur, rfl, _⟩
  · exact ⟨none, 0, by rw [h0]⟩
  · exact ⟨_, _, rfl⟩
theorem HB.lt {base : Nat} {w : World} {g : Nat} {v : Value} {L : List It} (h : HB base w g v L) : g < w.heap.size := (Array.getElem?_eq_some_iff.1 h.cell).1
theorem HB.c0 {base : Nat} {w : World} {g : Nat} {v : Value} {L : List It} (h : HB base w g v L) : w.cell? ⟨g, 0, none⟩ = some v := by simp [World.cell?, h.cell]
theorem HB.f0 {base : Nat} {w : World} {g : Nat} {v : Value} {L : List It} (h : HB base w g v L) : w.frozen? ⟨g, 0, none⟩ = false := by simp [World.frozen?, h.cell]
theorem HB.ne {base : Nat} {w : World} {g : Nat} {v : Value} {L : List It} (h : HB base w g v L) : some g ≠ v.ownBlock := fun e => by
  rcases h.row.2 with ⟨rfl, _⟩ | ⟨g', cap, cur, rfl, _, hh, _⟩
  · simp [Value.ownBlock] at e
  · simp [Value.ownBlock] at e; subst e; rw [h.cell] at hh; injection hh with hh; injection hh with _ ht _; cases ht
theorem HB.mod {base : Nat} {S : Nat → Prop} {w w' : World} {g : Nat} {v : Value} {L : List It} (h : HB base w g v L) (m : Mod S w w') (h1 : ¬ S g) (h2 : ∀ k, v.ownBlock = some k → ¬ S k) : HB base w' g v L := by
  refine ⟨h.lo, (m.block g h.lt h1).trans h.cell, h.row.1, ?_⟩
  rcases h.row.2 with h3 | ⟨g', cap, cur, hv, hb, hh, r⟩
  · exact .inl h3
  · exact .inr ⟨g', cap, cur, hv, hb, (m.block g' (Array.getElem?_eq_some_iff.1 hh).1 (h2 g' (by rw [hv]; rfl))).trans hh, r⟩
theorem HB.gr {base : Nat} {w w' : World} {g : Nat} {v : Value} {L : List It} (h : HB base w g v L) (g1 : Gr w w') : HB base w' g v L := h.mod (g1.mod fun _ => False) (fun e => e) (fun _ _ e => e)
theorem HB.arow {base : Nat} {w : World} {g n c : Nat} {A : Option Addr} {L : List It} (h : HB base w g (.slice A n c) L) (hn : n = L.length) : Row w A L := by subst hn; exact Row.of_own h.row

set_option maxHeartbeats 2000000 in
theorem find_any (base g : Nat) (v : Value) (L : List It) (x : It) (w : World) (h : HB base w g v L) (hs : Srt L) (hl : L.length ≤ 4398046511103) :
    Calls Try.prog 29 #[.pointer (some ⟨g, 0, none⟩), iv x] w (RetE (.tuple #[.int .i64 (pos L x), .bool (has L x)]) w) := by
  refine retE ?_
  obtain ⟨A, cp, rfl⟩ := h.shape
  have HS := hid hs
  clear hs
  have c0 := h.c0
  have hgl := h.lt
  have HR := hid (h.arow rfl)
  have hpl := pos_le L x
  have HH := hid (show has L x = (decide (pos L x < L.length) && decide (L.getD (pos L x) z0 = x)) from rfl)
  have HSR := hid (fun W (g : Gr w W) => search_any A cp L x W (HR.out.gr g) HS.out hl)
  generalize pos L x = p at *
  generalize has L x = res at *
  obtain ⟨a, b, c, d, e, f⟩ := x
  simp only [iv] at HSR ⊢
  clear h
  go_enter Try.func29, Try.ntmps29
  go_wp2_with fail
  have G0 := hid ((Gr.refl w).alloc (.cells #[.int .i64 a, .int .i64 b, .int .i64 c, .int .i64 d, .int .i64 e, .int .i64 f] 33))
  go_region_held3 (fun w' => (w'.cell? ⟨w.heap.size, 0, none⟩ = some (.int .i64 a) ∧ w'.cell? ⟨w.heap.size, 1, none⟩ = some (.int .i64 b) ∧ w'.cell? ⟨w.heap.size, 2, none⟩ = some (.int .i64 c) ∧ w'.cell? ⟨w.heap.size, 3, none⟩ = some (.int .i64 d) ∧ w'.cell? ⟨w.heap.size, 4, none⟩ = some (.int .i64 e) ∧ w'.cell? ⟨w.heap.size, 5, none⟩ = some (.int .i64 f)) ∧ w'.cell? ⟨g, 0, none⟩ = some (.slice A L.length cp))
    (first | go_keep | (refine ⟨⟨?_, ?_, ?_, ?_, ?_, ?_⟩, ?_⟩ <;> go_simp; done))
    (first
      | (go_at_call 39
         refine (HSR.out _ G0.out.drew).mono ?_
         rintro e _ ⟨_, y1, rfl, rfl, r, rfl⟩))
  have G1 := hid (show Gr w y1.val from G0.out.drew.ext y1)
  have HG := hid (show Gr (w.alloc (.cells #[.int .i64 a, .int .i64 b, .int .i64 c, .int .i64 d, .int .i64 e, .int .i64 f] 33)) y1.val from (Gr.refl _).drew.ext y1)
  obtain ⟨b0, b1, b2, b3, b4, b5, hbl⟩ := box6 HG.out
  have k0 : y1.val.cell? ⟨g, 0, none⟩ = some (.slice A L.length cp) := (G1.out.cell hgl).trans c0
  have hgl1 : g < y1.val.heap.size := Nat.lt_of_lt_of_le hgl G1.out.size
  by_cases hn : p < L.length
  · obtain ⟨bb, off, rfl, hbb, d0, d1, d2, d3, d4, d5⟩ := (HR.out.gr G1.out).at_ (i := p) hn
    obtain ⟨⟨a', b', c', d', e', f'⟩, hy⟩ : ∃ y, L.getD p z0 = y := ⟨_, rfl⟩
    rw [hy] at d0 d1 d2 d3 d4 d5 HH
    simp only at d0 d1 d2 d3 d4 d5
    rw [decide_eq_true hn, Bool.true_and] at HH
    have heq := fun (W : World) => eq33 a b c d e f a' b' c' d' e' f' W
    have hgd := guard33
    generalize decide (((a', b', c', d', e', f') : It) = (a, b, c, d, e, f)) = q at heq HH
    clear hy
    have hpn : (p : Int) < (L.length : Int) := by omega
    go_wp2_with fail
    refine wp_region_ext (by kernel_rfl) (by kernel_rfl) ?_
    repeat (go_big_quiet_step (fail))
    refine wpQuiet_nil ?_
    rintro _ ⟨x, rfl⟩
    go_wp2_with fail
    go_ret2
    exact ⟨by rw [HH.out]; rfl, G1.out.ext x⟩
  · have hpn : ¬ (p : Int) < (L.length : Int) := by omega
    rw [decide_eq_false hn, Bool.false_and] at HH
    go_wp2_with fail
    refine wp_region_ext (by kernel_rfl) (by kernel_rfl) ?_
    repeat (go_big_quiet_step (fail))
    refine wpQuiet_nil ?_
    rintro _ ⟨x, rfl⟩
    go_wp2_with fail
    go_ret2
    exact ⟨by rw [HH.out]; rfl, G1.out.ext x⟩
end Go.Proofs.Ytikmniokbliolaa
