import Derived.Test.YtlencagfkajcnaaM8
namespace Go.Proofs.Ytlencagfkajcnaa
open Go.RowKit Go.Ext Go.BigFrame Go.Maps
attribute [local go_sem] Ext.cell Ext.frozen Ext.lt Ext.le s1 s2 s3 s4 s5 s6 t1 t2 t3 t4 t5 t6
attribute [local go_sem ↓] Go.wp_at_zero Go.wp_at_succ

theorem with_full (g i B2 B3 : Nat) (A : Option Addr) (cp : Nat) (L : List It) (w : World) (hc : w.cell? ⟨g, 2, none⟩ = some (.slice A L.length cp)) (hrow : Row w A L) (hi : i < L.length)
    (h2 : w.cell? ⟨B2, 0, none⟩ = some (.pointer (some ⟨g, 0, none⟩))) (hl : 4096 ≤ L.length) (_hcp : L.length ≤ cp) :
    Calls Try.prog 23 #[.pointer (some ⟨g, 0, none⟩), .int .i64 i, .func (.func 24) #[] #[.pointer (some ⟨B2, 0, none⟩), .pointer (some ⟨B3, 0, none⟩)]] w (fun e w' => e = .returned (.int .i64 4) ∧ Gr w w') := by
  have hlt := World.block_lt_of_cell? _ _ hc
  simp only at hlt
  obtain ⟨bb, off, e0, hbw, d0, d1, d2, d3⟩ := hrow.at_ hi
  subst e0
  obtain ⟨⟨f, t, q, A', l', c'⟩, hy⟩ : ∃ y, L.getD i z0 = y := ⟨_, rfl⟩
  rw [hy] at d0 d1 d2 d3
  simp only at d0 d1 d2 d3
  have HT := hid (againfn_full g B2 B3 L _ cp f t q A' l' c' w hc h2 hl)
  clear h2 hy hrow
  go_enter Try.func23, Try.ntmps23
  go_wp2_with (first
    | (go_at_fn 24; refine HT.out.mono ?_; rintro en w7 ⟨rfl, h7⟩; have H7 := hid h7; clear h7)
    | (go_at_call 24; refine HT.out.mono ?_; rintro en w7 ⟨rfl, h7⟩; have H7 := hid h7; clear h7))
  go_ret
  exact ⟨rfl, H7.out⟩

theorem with_again (base g mb n i B2 B3 : Nat) (nodes sent : Int) (A : Option Addr) (cp : Nat) (L : List It) (S : Int × Int → Bool) (P : List Pk) (w : World) (h : NB base w g nodes sent mb n (.slice A L.length cp) L S P) (hi : i < L.length) (hl : L.length < 4096)
    (h2 : w.cell? ⟨B2, 0, none⟩ = some (.pointer (some ⟨g, 0, none⟩))) (h3 : w.cell? ⟨B3, 0, none⟩ = some (.int .i64 i)) (n2' : (Value.slice A L.length cp).ownBlock ≠ some B2) (hbase : base ≤ w.heap.size) (_hcp : L.length ≤ cp) :
    Calls Try.prog 23 #[.pointer (some ⟨g, 0, none⟩), .int .i64 i, .func (.func 24) #[] #[.pointer (some ⟨B2, 0, none⟩), .pointer (some ⟨B3, 0, none⟩)]] w
      (fun e w' => e = .returned (.int .i64 0) ∧ (∃ v' L', NB base w' g nodes sent mb n v' L' S (dupF P i)) ∧ MN base w w') := by
  obtain ⟨_, _, c2, _, _, _⟩ := h.cs
  have hlt := h.lt
  have HT := hid (againfn_ok base g mb n i B2 B3 nodes sent _ L S P w h hi hl h2 h3 n2' hbase)
  obtain ⟨bb, off, e0, hbw, d0, d1, d2, d3⟩ := (Row.of_own h.row).at_ hi
  subst e0
  obtain ⟨⟨f, t, q, A', l', c'⟩, hy⟩ : ∃ y, L.getD i z0 = y := ⟨_, rfl⟩
  rw [hy] at d0 d1 d2 d3 HT
  simp only [iv] at d0 d1 d2 d3 HT
  clear h h2 h3 hy
  go_enter Try.func23, Try.ntmps23
  go_wp2_with (first
    | (go_at_fn 24; refine HT.out.mono ?_; rintro en w7 ⟨rfl, h7a, h7b⟩; have H7A := hid h7a; have H7B := hid h7b; clear h7a h7b)
    | (go_at_call 24; refine HT.out.mono ?_; rintro en w7 ⟨rfl, h7a, h7b⟩; have H7A := hid h7a; have H7B := hid h7b; clear h7a h7b))
  go_ret
  exact ⟨rfl, H7A.out, H7B.out⟩

theorem pair_made (w : World) (o1 o2 : Obj) : ((w.alloc o1).alloc o2).heap[w.heap.size]? = some o1 ∧ ((w.alloc o1).alloc o2).heap[w.heap.size + 1]? = some o2 := by
  refine ⟨(((Gr.refl _).alloc o2).block w.heap.size (by simp)).trans (heap_alloc_new w o1), ?_⟩
  have := heap_alloc_new (w.alloc o1) o2
  rw [show (w.alloc o1).heap.size = w.heap.size + 1 by simp] at this
  exact this

/-- What Again answers, what it leaves. -/
def againC (P : List Pk) (k : Int) : Int := if okN P k then (if 4096 ≤ P.length then 4 else 0) else 2
def againP (P : List Pk) (k : Int) : List Pk := if okN P k then (if 4096 ≤ P.length then P else dupF P k.toNat) else P

theorem again_any (base g n : Nat) (nodes sent k : Int) (S : Int × Int → Bool) (P : List Pk) (w : World) (h : Nt base w g nodes sent n S P) (hl : P.length ≤ 1000000) :
    Calls Try.prog 10 #[.pointer (some ⟨g, 0, none⟩), .int .i64 k] w (RetN base g nodes sent n S (againP P k) (.int .i64 (againC P k)) w) := by
  obtain ⟨mb, v, L, h⟩ := h
  have hlen := h.dat.len
  have H := hid h
  have hlt := h.lt
  obtain ⟨A, cp, rfl⟩ := h.shape
  have hcp : L.length ≤ cp := by
    rcases h.row.2 with ⟨e, h0⟩ | ⟨_, _, _, e, _, _, hc, _⟩
    · injection e with _ e1 e2; omega
    · injection e with _ _ e2; omega
  have hoe : okN P k = okN L k := by unfold okN; rw [hlen]
  have hbn : base ≤ w.heap.size := Nat.le_trans h.lo (Nat.le_of_lt hlt)
  have hol : ∀ q, (Value.slice A L.length cp).ownBlock = some q → q < w.heap.size := fun q e => (h.row.lt q e).2
  have G2 : Gr w ((w.alloc (.cells #[.pointer (some ⟨g, 0, none⟩)] 24)).alloc (.cells #[.int .i64 k] 3)) := ((Gr.refl w).alloc _).alloc _
  have h2m := pair_made w (.cells #[.pointer (some ⟨g, 0, none⟩)] 24) (.cells #[.int .i64 k] 3)
  unfold againC againP
  rw [hoe, ← hlen]
  cases hok : okN L k
  · have CM := hid (fun fv => with_miss g k fv A cp L _ ((h.gr G2).cs.2.2.1) hok)
    have G := hid G2
    simp only [Bool.false_eq_true, if_false]
    clear hok hoe h hol h2m G2 hlen
    go_enter Try.func10, Try.ntmps10
    go_wp2_with (go_at_call 23; refine (CM.out _).mono ?_; rintro en _ ⟨rfl, rfl⟩)
    go_ret
    exact ⟨rfl, ⟨mb, _, L, H.out.gr G.out⟩, MN.of_gr G.out⟩
  · obtain ⟨i, rfl, hi⟩ := okN_yes hok
    simp only [if_true]
    have G := hid G2
    by_cases hf : 4096 ≤ L.length
    · have CM := hid (with_full g i w.heap.size (w.heap.size + 1) A cp L _ ((h.gr G2).cs.2.2.1) (Row.of_own (h.gr G2).row) hi (cell1 h2m.1) hf hcp)
      rw [if_pos hf, if_pos hf]
      clear hok hoe h hol h2m G2 hlen
      go_enter Try.func10, Try.ntmps10
      go_wp2_with (go_at_call 23; refine CM.out.mono ?_; rintro en w7 ⟨rfl, g7⟩; have G7 := hid g7; clear g7)
      go_ret
      exact ⟨rfl, ⟨mb, _, L, H.out.gr (G.out.trans G7.out)⟩, MN.of_gr (G.out.trans G7.out)⟩
    · have CM := hid (with_again base g mb n i w.heap.size (w.heap.size + 1) nodes sent A cp L S P _ (h.gr G2) hi (by omega) (cell1 h2m.1) (cell1 h2m.2) (fun e => by have := hol _ e; omega) (Nat.le_trans hbn G2.size) hcp)
      rw [if_neg hf, if_neg hf]
      simp only [Int.toNat_natCast]
      clear hok hoe h hol h2m G2 hlen
      go_enter Try.func10, Try.ntmps10
      go_wp2_with (go_at_call 23; refine CM.out.mono ?_; rintro en w7 ⟨rfl, h7, m7⟩; have H7 := hid h7; have M7 := hid m7; clear h7 m7)
      go_ret
      obtain ⟨v', L', h7⟩ := H7.out
      exact ⟨rfl, ⟨mb, v', L', h7⟩, (MN.of_gr G.out).trans M7.out⟩
end Go.Proofs.Ytlencagfkajcnaa
