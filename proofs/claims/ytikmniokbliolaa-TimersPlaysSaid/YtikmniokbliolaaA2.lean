import Derived.Test.YtikmniokbliolaaA1
import Derived.Test.YtikmniokbliolaaD1
import Derived.Laws.ResultCell
namespace Go.Proofs.Ytikmniokbliolaa
open Go.RowKit Go.Ext Go.BigFrame
attribute [local go_sem] Ext.cell Ext.frozen Ext.lt Ext.le s1 s2 s3 s4 s5 s6 t1 t2 t3 t4 t5 t6
attribute [local go_sem ↓] Go.wp_at_zero Go.wp_at_succ

/-- Without an item. -/
def delF (L : List It) (x : It) : List It := if has L x then L.take (pos L x) ++ L.drop (pos L x + 1) else L

set_option maxHeartbeats 1000000 in
theorem remove_any (base g : Nat) (v : Value) (L : List It) (x : It) (w : World) (h : HB base w g v L) (hs : Srt L) (hl : L.length ≤ 1000000) :
    Calls Try.prog 22 #[.pointer (some ⟨g, 0, none⟩), iv x] w (RetH base g v (delF L x) (.bool (has L x)) w) := by
  obtain ⟨A, cp, rfl⟩ := h.shape
  have HF := hid (fun W (y : Gr w W) => find_any base g _ L x W (h.gr y) hs (by omega))
  have H := hid h
  have hlt := h.lt
  have hpn : has L x = true → pos L x < L.length := fun e => by unfold has at e; simp at e; exact e.1
  unfold delF
  generalize pos L x = p at *
  clear h hs
  obtain ⟨res, hres⟩ : ∃ res, has L x = res := ⟨_, rfl⟩
  rw [hres] at HF hpn ⊢
  clear hres
  obtain ⟨a, b, c, d, e, f⟩ := x
  simp only [iv] at HF ⊢
  cases res
  · clear hpn
    go_enter Try.func22, Try.ntmps22
    go_wp2_with (go_at_call 29; refine (HF.out _ ((Gr.refl w).alloc _)).mono ?_; rintro e _ ⟨rfl, y1, rfl⟩
                 have G1 := hid (show Gr w y1.val from ((Gr.refl w).alloc _).ext y1))
    go_ret
    exact ⟨_, rfl, H.out.gr G1.out, G1.out.mod _, .inl rfl⟩
  · have hp := hpn rfl
    clear hpn
    rw [if_pos rfl]
    go_enter Try.func22, Try.ntmps22
    go_wp2_with (first
     | (go_at_call 29; refine (HF.out _ ((Gr.refl w).alloc _)).mono ?_; rintro e _ ⟨rfl, y1, rfl⟩
        have G1 := hid (show Gr w y1.val from ((Gr.refl w).alloc _).ext y1)
        have c0 : y1.val.cell? ⟨g, 0, none⟩ = some (.slice A L.length cp) := (G1.out.cell hlt).trans H.out.c0
        have hlt1 : g < y1.val.heap.size := Nat.lt_of_lt_of_le hlt G1.out.size
        have H1 := hid (H.out.gr G1.out))
     | (go_at_call 34
        refine (delete_any base p (.slice A L.length cp) L _ H1.out.row hl hp).mono ?_
        rintro e w2 ⟨v2, rfl, hr2, hm2, hw2⟩
        have HR2 := hid hr2
        have HM2 := hid hm2
        have HW2 := hid hw2
        clear hr2 hm2 hw2
        have HC2 := hid (show w2.heap[g]? = some (.cells #[.slice A L.length cp] 64 (0, 0)) from (HM2.out.block g hlt1 H1.out.ne).trans H1.out.cell)
        have k0 : w2.cell? ⟨g, 0, none⟩ = some (.slice A L.length cp) := by simp [World.cell?, HC2.out]
        have f0 : w2.frozen? ⟨g, 0, none⟩ = false := by simp [World.frozen?, HC2.out]
        have hsh : ∃ A2 n2 c2, v2 = .slice A2 n2 c2 := by
          rcases HR2.out.2 with ⟨rfl, _⟩ | ⟨g', cap, cur, rfl, _⟩
          · exact ⟨_, _, _, rfl⟩
          · exact ⟨_, _, _, rfl⟩
        obtain ⟨A2, n2, c2, rfl⟩ := hsh))
    go_ret
    refine ⟨_, rfl, HB.set H1.out.lo HC2.out HR2.out, ?_, ?_⟩
    · have M := ((G1.out.mod (fun k => k = g ∨ some k = (Value.slice A L.length cp).ownBlock)).trans HM2.out (fun _ _ h => .inr h))
      exact M.set (fun _ => .inl rfl) _
    · rcases HW2.out with h | ⟨k, h1, h2⟩
      · exact .inl h
      · exact .inr ⟨k, h1, Nat.le_trans G1.out.size h2⟩

theorem new_any (base : Nat) (w : World) (hb : base ≤ w.heap.size) : Calls Try.prog 11 #[] w (fun e w' => e = .returned (.pointer (some ⟨w.heap.size, 0, none⟩)) ∧ HB base w' w.heap.size (.slice none 0 0) [] ∧ Gr w w') := by
  go_enter Try.func11, Try.ntmps11
  go_wp2_with fail
  go_ret
  exact ⟨rfl, ⟨hb, heap_alloc_new w _, World.ownsRow_nil _ _ _ _⟩, (Gr.refl w).alloc _⟩

theorem len_any (base g : Nat) (v : Value) (L : List It) (w : World) (h : HB base w g v L) : Calls Try.prog 15 #[.pointer (some ⟨g, 0, none⟩)] w (RetE (.int .i64 L.length) w) := by
  obtain ⟨A, cp, rfl⟩ := h.shape
  have c0 := h.c0
  have hlt := h.lt
  clear h
  refine retE ?_
  go_enter Try.func15, Try.ntmps15
  go_wp2_with fail
  go_ret
  exact ⟨rfl, Gr.refl _⟩

/-- The first item, if there is one. -/
def hd (L : List It) : It := L.getD 0 z0

theorem next_any (base g : Nat) (v : Value) (L : List It) (w : World) (h : HB base w g v L) : Calls Try.prog 31 #[.pointer (some ⟨g, 0, none⟩)] w (RetE (.tuple #[iv (hd L), .bool (decide (0 < L.length))]) w) := by
  obtain ⟨A, cp, rfl⟩ := h.shape
  have c0 := h.c0
  have hlt := h.lt
  have HR := hid (h.arow rfl)
  clear h
  refine retE ?_
  by_cases hn : 0 < L.length
  · rw [decide_eq_true hn]
    obtain ⟨bb, off, rfl, hbb, d0, d1, d2, d3, d4, d5⟩ := HR.out.at_ (i := 0) hn
    unfold hd
    obtain ⟨⟨a', b', c', d', e', f'⟩, hy⟩ : ∃ y, L.getD 0 z0 = y := ⟨_, rfl⟩
    rw [hy] at d0 d1 d2 d3 d4 d5 ⊢
    simp only [Nat.zero_mul, Nat.add_zero] at d0 d1 d2 d3 d4 d5
    clear hy HR
    simp only [iv]
    have hn2 : ¬ ((L.length : Int) = 0) := by omega
    go_enter Try.func31, Try.ntmps31
    go_wp2_with fail
    refine bodyPost_ret (v := .tuple #[.agg #[.int .i64 a', .int .i64 b', .int .i64 c', .int .i64 d', .int .i64 e', .int .i64 f'], .bool true]) (by simp [results, Try.results31, go_sem]) rfl ⟨rfl, ?_⟩
    repeat (first | exact Gr.refl _ | refine Gr.set ?_ (by simp) _ | refine Gr.alloc ?_ _)
  · rw [decide_eq_false hn]
    have hn0 : L.length = 0 := by omega
    have hL : L = [] := List.eq_nil_of_length_eq_zero hn0
    subst hL
    simp only [hd, List.getD_nil, iv]
    clear HR
    go_enter Try.func31, Try.ntmps31
    go_wp2_with fail
    refine bodyPost_ret (v := .tuple #[.agg #[.int .i64 0, .int .i64 0, .int .i64 0, .int .i64 0, .int .i64 0, .int .i64 0], .bool false]) (by simp [results, Try.results31, go_sem]) rfl ⟨rfl, ?_⟩
    repeat (first | exact Gr.refl _ | refine Gr.set ?_ (by simp) _ | refine Gr.alloc ?_ _)

/-- What is taken, if it is due. -/
def due (L : List It) (now : Int) : Bool := decide (0 < L.length) && decide ((hd L).1 ≤ now)
def takeF (L : List It) (now : Int) : List It := if due L now then L.drop 1 else L

theorem pos_hd (L : List It) : pos L (hd L) = 0 := pos_eq _ _ 0 (Nat.zero_le _) (fun t ht => absurd ht (by omega)) (fun _ => by unfold hd; rw [cmpI_self]; omega)
theorem del_hd {L : List It} (h0 : 0 < L.length) : delF L (hd L) = L.drop 1 := by
  unfold delF has
  rw [pos_hd L]
  simp [h0, hd]
theorem has_hd {L : List It} (h0 : 0 < L.length) : has L (hd L) = true := by
  unfold has
  rw [pos_hd L]
  simp [h0, hd]

theorem heap6 {W : World} {B : Nat} {a b c d e f : Int} (h : W.heap[B]? = some (.cells #[.int .i64 a, .int .i64 b, .int .i64 c, .int .i64 d, .int .i64 e, .int .i64 f] 33 (0, 0))) :
    W.cell? ⟨B, 0, none⟩ = some (.int .i64 a) ∧ W.cell? ⟨B, 1, none⟩ = some (.int .i64 b) ∧ W.cell? ⟨B, 2, none⟩ = some (.int .i64 c) ∧ W.cell? ⟨B, 3, none⟩ = some (.int .i64 d) ∧ W.cell? ⟨B, 4, none⟩ = some (.int .i64 e) ∧ W.cell? ⟨B, 5, none⟩ = some (.int .i64 f) ∧
    W.frozen? ⟨B, 0, none⟩ = false ∧ W.frozen? ⟨B, 1, none⟩ = false ∧ W.frozen? ⟨B, 2, none⟩ = false ∧ W.frozen? ⟨B, 3, none⟩ = false ∧ W.frozen? ⟨B, 4, none⟩ = false ∧ W.frozen? ⟨B, 5, none⟩ = false := by
  refine ⟨?_, ?_, ?_, ?_, ?_, ?_, ?_, ?_, ?_, ?_, ?_, ?_⟩ <;> simp [World.cell?, World.frozen?, h]

theorem set6 (w : World) (B : Nat) (u0 u1 u2 u3 u4 u5 : Value) : Mod (fun k => k = B) w ((((((w.setCell ⟨B, 0, none⟩ u0).setCell ⟨B, 1, none⟩ u1).setCell ⟨B, 2, none⟩ u2).setCell ⟨B, 3, none⟩ u3).setCell ⟨B, 4, none⟩ u4).setCell ⟨B, 5, none⟩ u5) :=
  (((((((Gr.refl w).mod (fun k => k = B)).set (p := ⟨B, 0, none⟩) (fun _ => rfl) u0).set (p := ⟨B, 1, none⟩) (fun _ => rfl) u1).set (p := ⟨B, 2, none⟩) (fun _ => rfl) u2).set (p := ⟨B, 3, none⟩) (fun _ => rfl) u3).set (p := ⟨B, 4, none⟩) (fun _ => rfl) u4).set (p := ⟨B, 5, none⟩) (fun _ => rfl) u5
theorem gr6 {a w : World} (g : Gr a w) (B : Nat) (hB : a.heap.size ≤ B) (u0 u1 u2 u3 u4 u5 : Value) : Gr a ((((((w.setCell ⟨B, 0, none⟩ u0).setCell ⟨B, 1, none⟩ u1).setCell ⟨B, 2, none⟩ u2).setCell ⟨B, 3, none⟩ u3).setCell ⟨B, 4, none⟩ u4).setCell ⟨B, 5, none⟩ u5) :=
  (((((g.set (p := ⟨B, 0, none⟩) hB u0).set (p := ⟨B, 1, none⟩) hB u1).set (p := ⟨B, 2, none⟩) hB u2).set (p := ⟨B, 3, none⟩) hB u3).set (p := ⟨B, 4, none⟩) hB u4).set (p := ⟨B, 5, none⟩) hB u5

set_option maxHeartbeats 1000000 in
theorem take_any (base g : Nat) (v : Value) (L : List It) (now : Int) (w : World) (h : HB base w g v L) (hs : Srt L) (hl : L.length ≤ 1000000) :
    Calls Try.prog 13 #[.pointer (some ⟨g, 0, none⟩), .int .i64 now] w (RetH base g v (takeF L now) (.tuple #[iv (if due L now then hd L else z0), .bool (due L now)]) w) := by
  have HN := hid (fun W (y : Gr w W) => next_any base g v L W (h.gr y))
  have hlt := h.lt
  have hol := fun k e => (h.row.lt k e).2
  by_cases h0 : 0 < L.length
  · have HR := hid (fun W (y : Gr w W) => by
      have := remove_any base g v L (hd L) W (h.gr y) hs hl
      rw [del_hd h0, has_hd h0] at this
      exact this)
    have H := hid h
    unfold takeF due
    rw [decide_eq_true h0] at HN ⊢
    clear h hs
    obtain ⟨⟨a, b, c, d, e, f⟩, hy⟩ : ∃ y, hd L = y := ⟨_, rfl⟩
    rw [hy] at HN HR ⊢
    simp only [iv, Bool.true_and] at HN HR ⊢
    clear hy
    generalize L.drop 1 = L' at *
    by_cases hd' : a ≤ now
    · rw [decide_eq_true hd', if_pos rfl, if_pos rfl]
      have hnd : ¬ now < a := by omega
      go_enter Try.func13, Try.ntmps13
      go_wp2_with (first
        | (go_at_call 31; refine (HN.out _ ((Gr.refl w).alloc _)).mono ?_; rintro e _ ⟨rfl, y1, rfl⟩
           have G1 := hid (show Gr w y1.val from ((Gr.refl w).alloc _).ext y1)
           have hB := (y1.gr.block w.heap.size (by simp)).trans (heap_alloc_new w _)
           obtain ⟨b0, b1, b2, b3, b4, b5, f0, f1, f2, f3, f4, f5⟩ := heap6 hB
           have HBX := hid hB
           clear hB
           have hbl : w.heap.size < y1.val.heap.size := y1.lt_alloc)
        | (go_at_call 22; refine (HR.out _ (G1.out.alloc _)).mono ?_
           rintro e w2 ⟨v2, rfl, h2, m2, o2⟩
           have H2 := hid h2
           have M2 := hid m2
           have O2 := hid o2
           clear h2 m2 o2 b0 b1 b2 b3 b4 b5 f0 f1 f2 f3 f4 f5
           obtain ⟨b0, b1, b2, b3, b4, b5, f0, f1, f2, f3, f4, f5⟩ := heap6 ((M2.out.block w.heap.size (by simp; omega) (by rintro (e | e); omega; have := hol _ e.symm; omega)).trans ((((Gr.refl y1.val).alloc _).block _ hbl).trans HBX.out))
           obtain ⟨k0, k1, k2, k3, k4, k5, _⟩ := heap6 ((M2.out.block y1.val.heap.size (by simp) (by rintro (e | e); omega; have := hol _ e.symm; omega)).trans (heap_alloc_new y1.val _))))
      refine bodyPost_ret (v := .tuple #[.agg #[.int .i64 a, .int .i64 b, .int .i64 c, .int .i64 d, .int .i64 e, .int .i64 f], .bool true]) (by simp [results, Try.results13, go_sem, b0, b1, b2, b3, b4, b5]) rfl ⟨v2, rfl, ?_, ?_, ?_⟩
      · refine H2.out.mod (set6 w2 w.heap.size _ _ _ _ _ _) (by omega) ?_
        · rintro k e rfl
          rcases O2.out with h | ⟨k, h1, h2⟩
          · have := hol _ (h.symm.trans e); omega
          · have h3 := h1.symm.trans e
            injection h3 with h3
            simp at h2
            omega
      · have M := ((G1.out.alloc (.cells #[.int .i64 a, .int .i64 b, .int .i64 c, .int .i64 d, .int .i64 e, .int .i64 f] 33)).mod (fun k => k = g ∨ some k = v.ownBlock)).trans M2.out (fun _ _ h => h)
        exact M.trans (set6 w2 w.heap.size _ _ _ _ _ _) (fun x hx e => by omega)
      · rcases O2.out with h | ⟨k, h1, h2⟩
        · exact .inl h
        · refine .inr ⟨k, h1, ?_⟩
          simp at h2
          omega
    · rw [decide_eq_false hd', if_neg Bool.false_ne_true, if_neg Bool.false_ne_true]
      have hnd : now < a := by omega
      go_enter Try.func13, Try.ntmps13
      go_wp2_with (first
        | (go_at_call 31; refine (HN.out _ ((Gr.refl w).alloc _)).mono ?_; rintro e _ ⟨rfl, y1, rfl⟩
           have G1 := hid (show Gr w y1.val from ((Gr.refl w).alloc _).ext y1)
           have hB := (y1.gr.block w.heap.size (by simp)).trans (heap_alloc_new w _)
           obtain ⟨b0, b1, b2, b3, b4, b5, f0, f1, f2, f3, f4, f5⟩ := heap6 hB
           clear hB
           have hbl : w.heap.size < y1.val.heap.size := y1.lt_alloc))
      refine bodyPost_ret (v := .tuple #[.agg #[.int .i64 0, .int .i64 0, .int .i64 0, .int .i64 0, .int .i64 0, .int .i64 0], .bool false]) (by simp [results, Try.results13, go_sem, b0, b1, b2, b3, b4, b5]) rfl ⟨v, rfl, ?_, ?_, .inl rfl⟩
      · refine H.out.gr ?_
        exact (gr6 G1.out w.heap.size (Nat.le_refl _) _ _ _ _ _ _).alloc _
      · refine Gr.mod ?_ _
        exact (gr6 G1.out w.heap.size (Nat.le_refl _) _ _ _ _ _ _).alloc _
  · have H := hid h
    unfold takeF due
    rw [decide_eq_false h0] at HN ⊢
    have hL : L = [] := List.eq_nil_of_length_eq_zero (by omega)
    subst hL
    clear h hs
    simp only [iv, Bool.false_and, hd, List.getD_nil] at HN ⊢
    rw [if_neg Bool.false_ne_true, if_neg Bool.false_ne_true]
    go_enter Try.func13, Try.ntmps13
    go_wp2_with (first
        | (go_at_call 31; refine (HN.out _ ((Gr.refl w).alloc _)).mono ?_; rintro e _ ⟨rfl, y1, rfl⟩
           have G1 := hid (show Gr w y1.val from ((Gr.refl w).alloc _).ext y1)
           have hB := (y1.gr.block w.heap.size (by simp)).trans (heap_alloc_new w _)
           obtain ⟨b0, b1, b2, b3, b4, b5, f0, f1, f2, f3, f4, f5⟩ := heap6 hB
           clear hB
           have hbl : w.heap.size < y1.val.heap.size := y1.lt_alloc))
    refine bodyPost_ret (v := .tuple #[.agg #[.int .i64 0, .int .i64 0, .int .i64 0, .int .i64 0, .int .i64 0, .int .i64 0], .bool false]) (by simp [results, Try.results13, go_sem, b0, b1, b2, b3, b4, b5]) rfl ⟨v, rfl, ?_, ?_, .inl rfl⟩
    · refine H.out.gr ?_
      exact (gr6 G1.out w.heap.size (Nat.le_refl _) _ _ _ _ _ _).alloc _
    · refine Gr.mod ?_ _
      exact (gr6 G1.out w.heap.size (Nat.le_refl _) _ _ _ _ _ _).alloc _
end Go.Proofs.Ytikmniokbliolaa
