import Derived.Test.YtlencagfkajcnaaN6
namespace Go.Proofs.Ytlencagfkajcnaa
open Go.RowKit Go.Ext Go.BigFrame Go.Maps
attribute [local go_sem] Ext.cell Ext.frozen Ext.lt Ext.le s1 s2 s3 s4 s5 s6 t1 t2 t3 t4 t5 t6
attribute [local go_sem ↓] Go.wp_at_zero Go.wp_at_succ

theorem cell1 {w : World} {b t : Nat} {v : Value} (h : w.heap[b]? = some (.cells #[v] t (0, 0))) : w.cell? ⟨b, 0, none⟩ = some v := by simp [World.cell?, h]
/-- Is there such a place? -/
def okN {α : Type} (P : List α) (k : Int) : Bool := decide (0 ≤ k) && decide (k < P.length)
theorem okN_yes {α : Type} {P : List α} {k : Int} (h : okN P k = true) : ∃ i : Nat, k = i ∧ i < P.length := by
  unfold okN at h
  simp at h
  exact ⟨k.toNat, by omega, by omega⟩

/-- There is no such place. -/
theorem with_miss (g : Nat) (k : Int) (fv : Value) (A : Option Addr) (cp : Nat) (L : List It) (w : World) (hc : w.cell? ⟨g, 2, none⟩ = some (.slice A L.length cp)) (ho : okN L k = false) :
    Calls Try.prog 23 #[.pointer (some ⟨g, 0, none⟩), .int .i64 k, fv] w (fun e w' => e = .returned (.int .i64 2) ∧ w = w') := by
  have hlt := World.block_lt_of_cell? _ _ hc
  simp only at hlt
  by_cases h1 : k < 0
  · go_enter Try.func23, Try.ntmps23
    go_wp2_with fail
    go_ret
    exact ⟨rfl, rfl⟩
  · have h2 : ¬ k < (L.length : Int) := by
      intro h
      unfold okN at ho
      simp at ho
      omega
    have h3 : (L.length : Int) ≤ k := by omega
    go_enter Try.func23, Try.ntmps23
    go_wp2_with fail
    go_ret
    exact ⟨rfl, rfl⟩

theorem with_take (base g mb n i B4 B2 B3 : Nat) (nodes sent : Int) (A : Option Addr) (cp : Nat) (L : List It) (S : Int × Int → Bool) (P : List Pk) (u0 u1 u2 u3 : Value) (w : World) (h : NB base w g nodes sent mb n (.slice A L.length cp) L S P) (hl : L.length ≤ 1000000) (hi : i < L.length)
    (h4 : w.heap[B4]? = some (.cells #[u0, u1, u2, u3] 33 (0, 0))) (h2 : w.cell? ⟨B2, 0, none⟩ = some (.pointer (some ⟨g, 0, none⟩))) (h3 : w.cell? ⟨B3, 0, none⟩ = some (.int .i64 i)) (n4 : (Value.slice A L.length cp).ownBlock ≠ some B4) (n2 : B2 ≠ B4) (n3 : B3 ≠ B4) (n2' : (Value.slice A L.length cp).ownBlock ≠ some B2) :
    Calls Try.prog 23 #[.pointer (some ⟨g, 0, none⟩), .int .i64 i, .func (.func 27) #[] #[.pointer (some ⟨B4, 0, none⟩), .pointer (some ⟨B2, 0, none⟩), .pointer (some ⟨B3, 0, none⟩)]] w
      (fun e w' => e = .returned (.int .i64 0) ∧ (∃ v', NB base w' g nodes sent mb n v' (outF L i) S (outF P i) ∧ v'.ownBlock ≠ some B4) ∧ w'.heap[B4]? = some (.cells (ic (L.getD i z0)).toArray 33 (0, 0)) ∧ Mod (fun k => k = g ∨ k = B4 ∨ some k = (Value.slice A L.length cp).ownBlock) w w') := by
  obtain ⟨_, _, c2, _, _, _⟩ := h.cs
  have hlt := h.lt
  obtain ⟨bb, off, e0, hbw, d0, d1, d2, d3⟩ := (Row.of_own h.row).at_ hi
  have hcp : L.length ≤ cp := by
    rcases h.row.2 with ⟨e, h0⟩ | ⟨_, _, _, e, _, _, hc, _⟩
    · injection e with _ e1 e2; omega
    · injection e with _ _ e2; omega
  subst e0
  obtain ⟨⟨f, t, q, A', l', c'⟩, hy⟩ : ∃ y, L.getD i z0 = y := ⟨_, rfl⟩
  rw [hy] at d0 d1 d2 d3 ⊢
  simp only at d0 d1 d2 d3
  have HT := hid (takefn_any base g mb n i B4 B2 B3 nodes sent _ L S P f t q A' l' c' u0 u1 u2 u3 w h hl hi h4 h2 h3 n4 n2 n3 n2')
  clear h h2 h3 h4 hy
  go_enter Try.func23, Try.ntmps23
  go_wp2_with (first
    | (go_at_fn 27; refine HT.out.mono ?_; rintro en w7 ⟨rfl, h7a, h7b, h7c⟩; have H7A := hid h7a; have H7B := hid h7b; have H7C := hid h7c; clear h7a h7b h7c)
    | (go_at_call 27; refine HT.out.mono ?_; rintro en w7 ⟨rfl, h7a, h7b, h7c⟩; have H7A := hid h7a; have H7B := hid h7b; have H7C := hid h7c; clear h7a h7b h7c))
  go_ret
  exact ⟨rfl, H7A.out, H7B.out, H7C.out⟩

/-- What Take leaves. -/
def RetTake (base g : Nat) (nodes sent : Int) (n : Nat) (S : Int × Int → Bool) (P : List Pk) (k : Int) (w : World) (e : Ending) (w' : World) : Prop :=
  (okN P k = false ∧ e = .returned (.tuple #[.agg #[.int .i64 0, .int .i64 0, .int .i64 0, .slice none 0 0], .int .i64 2]) ∧ Nt base w' g nodes sent n S P ∧ MN base w w') ∨
  (okN P k = true ∧ ∃ (i : Nat) (x : It), k = i ∧ i < P.length ∧ e = .returned (.tuple #[iv x, .int .i64 0]) ∧ One base w' x (P.getD i p0) ∧ Nt base w' g nodes sent n S (outF P i) ∧ MN base w w')

theorem three_made (w : World) (o1 o2 o3 : Obj) : (((w.alloc o1).alloc o2).alloc o3).heap[w.heap.size]? = some o1 ∧ (((w.alloc o1).alloc o2).alloc o3).heap[w.heap.size + 1]? = some o2 ∧ (((w.alloc o1).alloc o2).alloc o3).heap[w.heap.size + 1 + 1]? = some o3 := by
  refine ⟨?_, ?_, ?_⟩
  · exact (((Gr.refl _).alloc o3).block w.heap.size (by simp; omega)).trans ((((Gr.refl _).alloc o2).block w.heap.size (by simp)).trans (heap_alloc_new w o1))
  · refine (((Gr.refl _).alloc o3).block (w.heap.size + 1) (by simp)).trans ?_
    have := heap_alloc_new (w.alloc o1) o2
    rw [show (w.alloc o1).heap.size = w.heap.size + 1 by simp] at this
    exact this
  · have := heap_alloc_new ((w.alloc o1).alloc o2) o3
    rw [show ((w.alloc o1).alloc o2).heap.size = w.heap.size + 1 + 1 by simp] at this
    exact this

set_option maxRecDepth 100000 in
set_option maxHeartbeats 4000000 in
theorem take_any (base g n : Nat) (nodes sent k : Int) (S : Int × Int → Bool) (P : List Pk) (w : World) (h : Nt base w g nodes sent n S P) (hl : P.length ≤ 1000000) :
    Calls Try.prog 12 #[.pointer (some ⟨g, 0, none⟩), .int .i64 k] w (RetTake base g nodes sent n S P k w) := by
  obtain ⟨mb, v, L, h⟩ := h
  have hlen := h.dat.len
  have H := hid h
  have hlt := h.lt
  obtain ⟨A, cp, rfl⟩ := h.shape
  have hol : ∀ q, (Value.slice A L.length cp).ownBlock = some q → q < w.heap.size := fun q e => (h.row.lt q e).2
  have HOL := hid hol
  have hcp : L.length ≤ cp := by
    rcases h.row.2 with ⟨e, h0⟩ | ⟨_, _, _, e, _, _, hc, _⟩
    · injection e with _ e1 e2; omega
    · injection e with _ _ e2; omega
  have hoe : okN P k = okN L k := by unfold okN; rw [hlen]
  clear hol
  cases hok : okN L k
  · have CM := hid (fun W fv (y : Gr w W) => with_miss g k fv A cp L W ((h.gr y).cs.2.2.1) hok)
    have HOK := hid (hoe.trans hok)
    clear hok hoe h
    have hq : ∀ e w', (e = .returned (.tuple #[.agg #[.int .i64 0, .int .i64 0, .int .i64 0, .slice none 0 0], .int .i64 2]) ∧ Gr w w') → RetTake base g nodes sent n S P k w e w' := fun e w' h => .inl ⟨HOK.out, h.1, ⟨mb, _, L, H.out.gr h.2⟩, MN.of_gr h.2⟩
    refine Calls.mono ?_ hq
    clear hq
    go_enter Try.func12, Try.ntmps12
    go_wp2_with (go_at_call 23; refine (CM.out _ _ ((((Gr.refl w).alloc _).alloc _).alloc _)).mono ?_; rintro en _ ⟨rfl, rfl⟩)
    refine bodyPost_ret (v := .tuple #[.agg #[.int .i64 0, .int .i64 0, .int .i64 0, .slice none 0 0], .int .i64 2]) (by simp [results, Try.results12, go_sem]) rfl ⟨rfl, ?_⟩
    repeat (first | exact Gr.refl _ | refine Gr.set ?_ (by simp <;> omega) _ | refine Gr.alloc ?_ _)
  · obtain ⟨i, rfl, hi⟩ := okN_yes hok
    have HOK := hid (hoe.trans hok)
    have hone := h.dat.get i hi
    have h5n := h.no5
    obtain ⟨⟨f, t, q, A', l', c'⟩, hy⟩ : ∃ y, L.getD i z0 = y := ⟨_, rfl⟩
    have CW := hid (fun W (y : Gr w W) (B4 B2 B3 : Nat) (u0 u1 u2 u3 : Value) h4 h2 h3 n4 n2 n3 n2' => with_take base g mb n i B4 B2 B3 nodes sent A cp L S P u0 u1 u2 u3 W (h.gr y) (by omega) hi h4 h2 h3 n4 n2 n3 n2')
    rw [hy] at CW hone
    have HONE := hid hone
    have HI := hid hi
    have HN5 := hid h5n
    have hbn : base ≤ w.heap.size := Nat.le_trans h.lo (Nat.le_of_lt hlt)
    clear hok hoe h hy hone hi h5n
    have hq : ∀ e w', (e = .returned (.tuple #[iv (f, t, q, A', l', c'), .int .i64 0]) ∧ One base w' (f, t, q, A', l', c') (P.getD i p0) ∧ Nt base w' g nodes sent n S (outF P i) ∧ MN base w w') → RetTake base g nodes sent n S P i w e w' := fun e w' h => .inr ⟨HOK.out, i, _, rfl, by rw [← hlen]; exact HI.out, h.1, h.2⟩
    refine Calls.mono ?_ hq
    clear hq
    simp only [iv]
    have h3m := three_made w (.cells #[.pointer (some ⟨g, 0, none⟩)] 24) (.cells #[.int .i64 i] 3) (.cells #[.int .i64 0, .int .i64 0, .int .i64 0, .slice none 0 0] 33)
    have H3M := hid h3m
    clear h3m
    go_enter Try.func12, Try.ntmps12
    go_wp2_with (go_at_call 23
                 refine (CW.out _ ((((Gr.refl w).alloc _).alloc _).alloc _) (w.heap.size + 1 + 1) w.heap.size (w.heap.size + 1) _ _ _ _ H3M.out.2.2 (cell1 H3M.out.1) (cell1 H3M.out.2.1) (fun e => by have := HOL.out _ e; omega) (by omega) (by omega) (fun e => by have := HOL.out _ e; omega)).mono ?_
                 rintro en w7 ⟨rfl, h7a, h7b, h7c⟩
                 have H7A := hid h7a
                 have H7B := hid h7b
                 have H7C := hid h7c
                 obtain ⟨r0, r1, r2, r3, s0, s1, s2, s3⟩ := heap4 (show w7.heap[w.heap.size + 1 + 1]? = some (.cells #[.int .i64 f, .int .i64 t, .int .i64 q, .slice A' l' c'] 33 (0, 0)) from h7b)
                 have hl7 : w.heap.size + 1 + 1 < w7.heap.size := (Array.getElem?_eq_some_iff.1 h7b).1
                 clear h7a h7b h7c)
    obtain ⟨v', hnb, hvb⟩ := H7A.out
    have HB7 : w7.heap[w.heap.size + 1 + 1]? = some (.cells #[.int .i64 f, .int .i64 t, .int .i64 q, .slice A' l' c'] 33 (0, 0)) := H7B.out
    have G3 : Gr w (((w.alloc (.cells #[.pointer (some ⟨g, 0, none⟩)] 24)).alloc (.cells #[.int .i64 i] 3)).alloc (.cells #[.int .i64 0, .int .i64 0, .int .i64 0, .slice none 0 0] 33)) := (((Gr.refl w).alloc _).alloc _).alloc _
    have M9 := set4 w7 (w.heap.size + 1 + 1) (.int .i64 f) (.int .i64 t) (.int .i64 q) (.slice A' l' c')
    have n5 := not5 HB7 (by decide)
    have hgb : g ≠ w.heap.size + 1 + 1 := by omega
    have hmb : mb ≠ w.heap.size + 1 + 1 := by have := H.out.mp.lt; omega
    obtain ⟨t0, t1, t2, t3, _⟩ := heap4 (set4_heap HB7 (.int .i64 f) (.int .i64 t) (.int .i64 q) (.slice A' l' c'))
    refine bodyPost_ret (v := .tuple #[.agg #[.int .i64 f, .int .i64 t, .int .i64 q, .slice A' l' c'], .int .i64 0]) (by simp [results, Try.results12, go_sem, t0, t1, t2, t3]) rfl ⟨rfl, ?_, ⟨mb, v', _, hnb.mod M9 hgb (fun k e e2 => hvb (by rw [e, e2])) hmb n5⟩, ?_⟩
    · refine One.mod (One.mod (One.mod HONE.out (G3.mod fun _ => False) (fun _ _ e => e)) H7C.out ?_) M9 n5
      intro k hk
      rintro (rfl | rfl | e)
      · exact not5 (H.out.gr G3).cell (by decide) _ hk rfl
      · exact not5 H3M.out.2.2 (by decide) _ hk rfl
      · exact (H.out.gr G3).no5 k hk e
    · have m1 : MN base w w7 := by
        refine (MN.of_gr G3).trans ?_
        refine Mod.mono H7C.out fun k _ hk => ?_
        rcases hk with rfl | rfl | e
        · exact ⟨H.out.lo, .inl ⟨_, _, (H.out.gr G3).cell⟩⟩
        · exact ⟨by omega, .inr (.inl ⟨_, _, H3M.out.2.2⟩)⟩
        · rcases (H.out.gr G3).row.2 with ⟨e1, _⟩ | ⟨g', cap, cur, e1, hb, hh, _⟩
          · rw [e1] at e; simp [Value.ownBlock] at e
          · rw [e1] at e; simp [Value.ownBlock] at e; subst e; exact ⟨hb, .inr (.inl ⟨_, _, hh⟩)⟩
      refine m1.trans (Mod.mono M9 fun k _ hk => ?_)
      subst hk
      exact ⟨by omega, .inr (.inl ⟨_, _, HB7⟩)⟩
end Go.Proofs.Ytlencagfkajcnaa
