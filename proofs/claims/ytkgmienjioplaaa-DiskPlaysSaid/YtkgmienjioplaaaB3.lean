import Derived.Test.YtkgmienjioplaaaB2
import Derived.Test.YtkgmienjioplaaaB0
namespace Go.Proofs.Ytkgmienjioplaaa
open Go.RowKit Go.Shelf Go.Ext
attribute [local go_sem] Oper.semAt_some
attribute [local go_sem] Ext.cell Ext.frozen Ext.lt Ext.le s1 s2 s3 s4 s5 s6 t1 t2 t3 t4 t5 t6

/-- The slice of a pending write, read off the cells. -/
def edOf (xs : List Value) (j : Nat) : Option Addr × Nat × Nat := match xs[j * 2 + 1]? with | some (.slice A n c) => (A, n, c) | _ => (none, 0, 0)
theorem edOf_ok {kb base : Nat} {w : World} {xs : List Value} {P : List Ent} (h : Ents kb base w xs P) {j : Nat} (hj : j < P.length) : xs[j * 2 + 1]? = some (.slice (edOf xs j).1 (edOf xs j).2.1 (edOf xs j).2.2) ∧ Byt (TK kb) base w (.slice (edOf xs j).1 (edOf xs j).2.1 (edOf xs j).2.2) (P.getD j (0, [])).2 := by
  obtain ⟨_, d, h1, h2⟩ := h.2 j hj
  obtain ⟨A, c, rfl, _⟩ := id h2
  have e : edOf xs j = (A, (P.getD j (0, [])).2.length, c) := by unfold edOf; rw [h1]
  rw [e]
  exact ⟨h1, h2⟩

theorem edOf_any {kb base : Nat} {w : World} {xs : List Value} {P : List Ent} (h : Ents kb base w xs P) (j : Nat) : Byt (TK kb) base w (.slice (edOf xs j).1 (edOf xs j).2.1 (edOf xs j).2.2) (P.getD j (0, [])).2 := by
  rcases Nat.lt_or_ge j P.length with hj | hj
  · exact (edOf_ok h hj).2
  · have h1 := h.1
    have e : edOf xs j = (none, 0, 0) := by unfold edOf; rw [List.getElem?_eq_none (by omega)]
    have e2 : P.getD j (0, []) = (0, []) := by simp [List.getD, List.getElem?_eq_none hj]
    rw [e, e2]
    exact Byt.nil _ _ _

theorem boxed_not_imm {kb base B : Nat} {W : World} {t : TypeId} {v : Value} (h : Boxed W B t v) (ht : (t == 5) = false) (hb : base ≤ B) : ¬ Imm (TK kb) base W B := by
  rintro ⟨_, h1 | ⟨cs, t', fz, h1, h2⟩⟩
  · omega
  · rw [h] at h1
    injection h1 with h1
    injection h1 with _ e _
    subst e
    unfold TK at h2
    rw [ht] at h2
    cases h2
theorem own_turn {A B : World} {row : Option Nat} {b e size n : Nat} {v : Value} {xs : List Value} (h : A.ownsRow b e size v n xs) (hg : A.grownBy B row) (hr : ∀ r, row = some r → ∃ o : Obj, A.heap[r]? = some o ∧ o.isCells = false) : B.ownsRow b e size v n xs :=
  own_mod h (mod_grown hg) (fun k hk e2 => by
    obtain ⟨o, h1, h2⟩ := hr k e2.symm
    rcases h.2 with ⟨rfl, _⟩ | ⟨g', cap, cur, rfl, _, hh, _⟩
    · simp [Value.ownBlock] at hk
    · simp [Value.ownBlock] at hk
      subst hk
      rw [hh] at h1
      cases h1
      cases h2)
theorem own_boxed_set {W : World} {B b e size n : Nat} {t : TypeId} {u u' v : Value} {xs : List Value} (h : W.ownsRow b e size v n xs) (hb : Boxed W B t u) (ht : t ≠ e) : (W.setCell ⟨B, 0, none⟩ u').ownsRow b e size v n xs :=
  own_mod h (((Gr.refl W).mod (fun k => k = B)).set (fun _ => rfl) _) (fun _ hk e2 => own_ne (q := B) h hb ht (e2 ▸ hk.symm))
theorem gr_keepsFrom {W W' : World} (h : Gr W W') (B : Nat) : KeepsFrom B W W' := ⟨h.size, fun k _ _ hk _ => (h.block k (Array.getElem?_eq_some_iff.1 hk).1).trans hk⟩

section
variable {base : Nat} {w w' : World} {g kb : Nat} {off : Bool} {armed : Int} {keep : Value} {S sz : Nat} {K : List UInt8} {P : List Ent} {pend : Value} {writes : Int} {n : Nat}

theorem sector_bts (i : Nat) (h : DkAt base w g kb off armed keep S sz K P pend writes) (hi : i < S) : Bts w (.slice (some ⟨kb, i * sz, none⟩) sz sz) ((K.drop (i * sz)).take sz) := by
  have hle : i * sz + sz ≤ K.length := by rw [h.size, ← Nat.succ_mul]; exact Nat.mul_le_mul_right _ hi
  have hl : ((K.drop (i * sz)).take sz).length = sz := by simp; omega
  refine ⟨some ⟨kb, i * sz, none⟩, sz, by rw [hl], by rw [hl]; have := h.z2; omega, fun _ => ⟨kb, i * sz, rfl, fun j u hu => ?_⟩, fun e => by cases e⟩
  rw [cell_of_row w kb _ _ 5 (0, 0) h.kept]
  unfold bc at *
  rw [List.map_take, List.map_drop, List.getElem?_take] at hu
  split at hu
  · rw [List.getElem?_drop] at hu
    simpa using hu
  · cases hu

set_option maxRecDepth 100000 in
set_option maxHeartbeats 2000000 in
theorem read_ok (i : Nat) (h : DkAt base w g kb false armed keep S sz K P pend writes) (hi : i < S) (hbase : base ≤ w.heap.size) :
    Calls Try.prog 13 #[.pointer (some ⟨g, 0, none⟩), .int .i64 i] w (fun e w' => ∃ v, e = .returned (.tuple #[v, .int .i64 0]) ∧ Byt (TK kb) base w' v (sector sz K P i) ∧ w'.ownsRow w.heap.size 5 1 v (sector sz K P i).length (bc (sector sz K P i)) ∧ Gr w w') := by
  obtain ⟨A, cap, rfl⟩ := h.row.shape
  have H := hid h
  have k5 := h.db.cell 5
  have hlt := h.db.lt
  simp at k5
  obtain ⟨xs, hx1, hx2⟩ := h.row
  have HX1 := hid hx1
  have HX2 := hid hx2
  have CK := fun (W : World) (hg : Gr w W) => hid ((check_any S i true (h.gr hg).db rfl (by have := h.z1; omega) h.max).mono (R' := RetE (.int .i64 0) W) (fun _ _ h => by
    have e : chk false S i true = 0 := by
      unfold chk
      rw [if_neg (by simp), if_neg (by rintro (h | h | h); omega; omega; cases h)]
    rwa [e] at h))
  clear h hx1 hx2
  refine (callsIn_wide (n := 6)).1 ?_
  refine callsIn_of_wp_marks Try.func13 rfl trivial ?_ rfl
  simp only [Try.ntmps13, List.size_toArray, List.length_cons, List.length_nil, Nat.reduceAdd, Nat.reduceSub, Array.replicate_succ, Array.replicate_zero, List.push_toArray, List.append_toArray, List.nil_append, List.cons_append]
  gi_wp2_with (first | (refine ⟨trivial, ?_⟩; gi_at_call 29; refine (callsIn_wide.2 (CK _ (((Gr.refl w).alloc _ |>.alloc _).alloc _)).out).mono ?_; rintro e _ ⟨rfl, y1, rfl⟩) | (refine ⟨trivial, ?_⟩; gi_at_call 34; refine (backward_in Fence.wide _ trivial rfl _ _ _ _).mono ?_; rintro e _ ⟨rfl, rfl⟩))
  have hy := y1.gr.size
  simp at hy
  have g1 : Gr w y1.val := (((Gr.refl w).alloc _ |>.alloc _).alloc _).trans y1.gr
  have b3 : Boxed (y1.val.alloc (.cells #[.slice A P.length cap] 33)) w.heap.size 3 (.int .i64 i) := Boxed.alloc ((y1.gr.block w.heap.size (by simp; omega)).trans (((Boxed.new w 3 (.int .i64 i)).alloc _).alloc _)) _
  have b4 : Boxed (y1.val.alloc (.cells #[.slice A P.length cap] 33)) (w.heap.size + 1) 22 (.slice none 0 0) := Boxed.alloc ((y1.gr.block (w.heap.size + 1) (by simp)).trans (by have := (Boxed.new (w.alloc (.cells #[.int .i64 i] 3)) 22 (.slice none 0 0)).alloc (.cells #[.int .i64 0] 26); rw [World.size_alloc] at this; exact this)) _
  have b5 : Boxed (y1.val.alloc (.cells #[.slice A P.length cap] 33)) (w.heap.size + 1 + 1) 26 (.int .i64 0) := Boxed.alloc ((y1.gr.block (w.heap.size + 1 + 1) (by simp)).trans (by have := Boxed.new ((w.alloc (.cells #[.int .i64 i] 3)).alloc (.cells #[.slice none 0 0] 22)) 26 (.int .i64 0); rw [World.size_alloc, World.size_alloc] at this; exact this)) _
  have bI := Boxed.new y1.val 33 (.slice A P.length cap)
  have G0 : Gr w (y1.val.alloc (.cells #[.slice A P.length cap] 33)) := g1.alloc _
  have hsz : (y1.val.alloc (.cells #[.slice A P.length cap] 33)).heap.size = y1.val.heap.size + 1 := by simp
  obtain ⟨W0, hW0⟩ : ∃ W0, y1.val.alloc (.cells #[.slice A P.length cap] 33) = W0 := ⟨_, rfl⟩
  rw [hW0] at b3 b4 b5 bI G0 hsz ⊢
  clear hW0
  have hcells : P.length = 0 ∨ ∃ b off, A = some ⟨b, off, none⟩ ∧ b < W0.heap.size ∧ ∀ j, j < P.length → W0.cell? ⟨b, off + j * 2, none⟩ = some (.int .i64 (P.getD j (0, [])).1) ∧ W0.cell? ⟨b, off + j * 2 + 1, none⟩ = some (.slice (edOf xs j).1 (edOf xs j).2.1 (edOf xs j).2.2) := by
    rcases Nat.eq_zero_or_pos P.length with h0 | h0
    · exact .inl h0
    · obtain ⟨b, o, rfl, hc⟩ := (Rd.of_own (own_gr HX1.out G0)) (by intro e; have := HX2.out.1; rw [e] at this; simp at this; omega)
      have hc0 := hc _ _ (HX2.out.2 0 h0).1
      exact .inr ⟨b, o, rfl, World.block_lt_of_cell? W0 _ hc0, fun j hj => ⟨hc _ _ (HX2.out.2 j hj).1, hc _ _ (edOf_ok HX2.out hj).1⟩⟩
  refine wpIn_rangeFunc_ownH rfl (by omega) (gf := 40) (lb := #[.pointer (some ⟨y1.val.heap.size, 0, none⟩)]) rfl trivial (enters_of Try.func40 (by kernel_rfl) rfl)
    (back_stops Fence.wide 5 trivial rfl (by omega) y1.val.heap.size W0.heap.size P.length cap A (fun j => (P.getD j (0, [])).1) (edOf xs) H.out.len W0 (by omega) (Nat.le_refl _) bI.cell hcells) belowK_t (belowK_b (Nat.le_refl _)) (Below.refl _ _) (fun _ => rfl)
    (fun pre W => ((((∀ j ∈ pre, (P.getD j (0, [])).1 ≠ (i : Int)) ∧ Boxed W w.heap.size 3 (.int .i64 i)) ∧ Boxed W (w.heap.size + 1) 22 (.slice none 0 0)) ∧ Boxed W (w.heap.size + 1 + 1) 26 (.int .i64 0)) ∧ Below W0.heap.size W0 W)
    (fun c pre W => ((c = .ret ∧ ∃ ini m v, pre = ini ++ [m] ∧ (∀ j ∈ ini, (P.getD j (0, [])).1 ≠ (i : Int)) ∧ (P.getD m (0, [])).1 = i ∧ Boxed W (w.heap.size + 1) 22 v ∧ Byt (TK kb) base W v (P.getD m (0, [])).2 ∧ W.ownsRow w.heap.size 5 1 v (P.getD m (0, [])).2.length (bc (P.getD m (0, [])).2)) ∧ Boxed W (w.heap.size + 1 + 1) 26 (.int .i64 0)) ∧ Below w.heap.size w W)
    (OwnFrom.and (OwnFrom.and (OwnFrom.and (OwnFrom.and (ownFrom_pure _ _) (Own.from (boxed_own _ _ _) _)) (Own.from (boxed_own _ _ _) _)) (Own.from (boxed_own _ _ _) _)) (ownFrom_below (Nat.le_refl _) (Nat.le_refl _)))
    (fun c => OwnFrom.and (OwnFrom.and (fun pre X Y row hs hg hr => by
      obtain ⟨e1, ini, m, v, e2, e3, e4, e5, e6, e7⟩ := hs
      exact ⟨e1, ini, m, v, e2, e3, e4, boxed_own _ 22 (fun (_ : Unit) => v) () X Y row e5 hg (fun r e => (hr r e).2), Byt.turn e6 hg (fun r e => ⟨by have := (hr r e).1; have := G0.size; omega, (hr r e).2⟩), own_turn e7 hg (fun r e => (hr r e).2)⟩) (Own.from (boxed_own _ _ _) _)) (ownFrom_below (Nat.le_refl _) G0.size))
    ⟨⟨⟨⟨by simp, b3⟩, b4⟩, b5⟩, Below.refl _ _⟩
    (fun x a' W => ∃ Bx, w.heap.size + 1 + 1 < Bx ∧ W.heap[Bx]? = some (.cells #[.int .i64 (P[x]?.getD (0, [])).1, .slice (edOf xs x).1 (edOf xs x).2.1 (edOf xs x).2.2] 67 (0, 0)) ∧ a' = { tmps := #[.pointer (some ⟨g, 0, none⟩), .int .i64 i, undef, .pointer (some ⟨w.heap.size, 0, none⟩), .pointer (some ⟨w.heap.size + 1, 0, none⟩), .pointer (some ⟨w.heap.size + 1 + 1, 0, none⟩), .int .i64 0, undef, .pointer (some ⟨Bx, 0, none⟩), .pointer (some ⟨g, 0, none⟩), .int .i64 i, .int .i64 0, .int .i64 0, .bool false, undef, .pointer (some ⟨g, 0, none⟩), .pointer (some ⟨g, 0, none⟩), .pointer (some ⟨g, 5, none⟩), .slice A P.length cap, .func (.func 40) #[] #[.pointer (some ⟨y1.val.heap.size, 0, none⟩)], .int .i64 x, .agg #[.int .i64 (P[x]?.getD (0, [])).1, .slice (edOf xs x).1 (edOf xs x).2.1 (edOf xs x).2.2], undef, undef, undef, undef, undef, undef, undef, undef, undef, undef, undef], defers := [] })
    (fun x a' _ X Y row hs hg hr => by
      obtain ⟨Bx, e1, e2, e3⟩ := hs
      refine ⟨Bx, e1, (hg.block Bx (Array.getElem?_eq_some_iff.1 e2).1 (fun e => ?_)).trans e2, e3⟩
      obtain ⟨_, o, ho, hc⟩ := hr Bx e.symm
      rw [e2] at ho
      cases ho
      cases hc)
    ?assign ?body ?done ?stop
  case assign =>
    rintro l pre x W K ⟨⟨⟨⟨hp, bR3⟩, bR4⟩, bR5⟩, hB1⟩ hK
    dsimp only [hand]
    gi_wp2
    have hl5 := bR5.lt
    exact hK _ _ ((KeepsOthers.alloc _ _).from _) ((Below.refl _ W).alloc hB1.size _) ⟨⟨⟨⟨hp, bR3.alloc _⟩, bR4.alloc _⟩, bR5.alloc _⟩, hB1.alloc hB1.size _⟩ ⟨W.heap.size, by omega, heap_alloc_new W _, rfl⟩
  case body =>
    rintro l pre x a' W hl ⟨r, hr⟩ ⟨⟨⟨⟨hp, bR3⟩, bR4⟩, bR5⟩, hB1⟩ ⟨Bx, hBx, bX, rfl⟩ hlt2
    have c3 := bR3.cell
    have c4 := bR4.cell
    have f4 := bR4.frozen
    have c5 := bR5.cell
    have f5 := bR5.frozen
    have l4 := bR4.lt
    have l5 := bR5.lt
    have x1 := cell_of_row W Bx 0 _ 67 (0, 0) bX
    have x2 := cell_of_row W Bx 1 _ 67 (0, 0) bX
    simp only [List.getElem?_toArray, List.getElem?_cons_zero, List.getElem?_cons_succ] at x1 x2
    have e0 : (P.getD x (0, [])).1 = (P[x]?.getD (0, [])).1 := by simp [List.getD]
    generalize (P[x]?.getD (0, [])).1 = ex at *
    by_cases he : ex = (i : Int)
    · have hby := (edOf_any HX2.out x).kp (G0.trans hB1).kp
      have hkw : kb < W.heap.size := Nat.lt_of_lt_of_le (Array.getElem?_eq_some_iff.1 H.out.kept).1 (Nat.le_trans G0.size hB1.size)
      have HBY := hid hby
      have HP := hid hp
      have HE := hid e0
      have he' : (ex == (i : Int)) = true := by simpa using he
      have HH := hid he
      clear hby hp e0 he
      gi_wp2
      refine ⟨trivial, ?_⟩
      refine (CallsIn.inRound l (callsIn_wide.2 (clone_lo w.heap.size base kb _ _ _ (Byt.bts HBY.out) hkw (Nat.le_trans G0.size hB1.size)))).mono ?_
      rintro e _ ⟨v6, y6, rfl, rfl, hp6, ho6⟩
      obtain ⟨D6, n6, rfl⟩ : ∃ D6 n6, v6 = .slice D6 (P.getD x (0, [])).2.length n6 := by obtain ⟨A', c'', e, _⟩ := hp6; exact ⟨A', c'', e⟩
      have HP6 := hid hp6
      have HO6 := hid ho6
      clear hp6 ho6
      gi_wp2
      have q4 : Boxed y6.val (w.heap.size + 1) 22 (.slice none 0 0) := (y6.gr.block _ bR4.lt).trans bR4
      have q5 : Boxed y6.val (w.heap.size + 1 + 1) 26 (.int .i64 0) := (y6.gr.block _ bR5.lt).trans bR5
      have q5' := q5.other (B' := w.heap.size + 1) (by omega) (Value.slice D6 (P.getD x (0, [])).2.length n6)
      have q4' := q4.set (Value.slice D6 (P.getD x (0, [])).2.length n6)
      exact ⟨((gr_keepsFrom y6.gr _).trans ((KeepsOthers.setCell _ _ _).from _)).trans ((KeepsOthers.setCell _ _ _).from _),
        ⟨⟨⟨rfl, pre, x, _, rfl, HP.out, HE.out.trans HH.out, q4'.other (by omega) _, HP6.out.kp (Kp.set (Kp.set (Kp.refl _ _ _) (boxed_not_imm q4 rfl (Nat.le_trans hbase (Nat.le_add_right _ 1))) _) (boxed_not_imm q5' rfl (Nat.le_trans hbase (Nat.le_add_right _ 2))) _), own_boxed_set (own_boxed_set HO6.out q4 (by decide)) q5' (by decide)⟩, q5'.set _⟩,
          (((G0.trans hB1).trans y6.gr).set (by simp) _).set (by simp; omega) _⟩⟩
    · have he' : (ex == (i : Int)) = false := by simpa using he
      have HP := hid hp
      have HE := hid e0
      clear hp e0
      gi_wp2
      exact ⟨KeepsFrom.refl _ _, Below.refl _ _, ⟨⟨⟨fun j hj => (List.mem_append.1 hj).elim (HP.out j) (fun e => by simp at e; subst e; rw [HE.out]; exact he), bR3⟩, bR4⟩, bR5⟩, hB1⟩
  case done =>
    rintro D zs W hD rfl ⟨⟨⟨⟨hp, bR3⟩, bR4⟩, bR5⟩, hB1⟩ hK
    have c3 := bR3.cell
    have c4 := bR4.cell
    have f4 := bR4.frozen
    have c5 := bR5.cell
    have f5 := bR5.frozen
    have l4 := bR4.lt
    have l5 := bR5.lt
    have hW := H.out.gr (G0.trans hB1)
    have PL := hid (place_any S i hW.db rfl hi hW.max (by have := hW.z1; omega))
    have SB := sector_bts i hW hi
    obtain ⟨bs, hbs⟩ : ∃ bs, (K.drop (i * sz)).take sz = bs := ⟨_, rfl⟩
    rw [hbs] at SB
    have HBS := hid hbs
    clear hbs
    have CL := fun (y : Ext W) => hid (calls_grC y.gr (clone_lo w.heap.size base kb _ _ y.val (SB.gr y.gr) (Array.getElem?_eq_some_iff.1 (hW.gr y.gr).kept).1 (Nat.le_trans (Nat.le_trans G0.size hB1.size) y.gr.size)))
    have SN := hid (seek_none P i P.length (fun j hj => hp j ((mem_back (Nat.le_refl _)).2 ⟨by omega, hj⟩)))
    clear hW hp SB
    gi_wp2_with (first | (refine ⟨trivial, ?_⟩; gi_at_call 35; refine (callsIn_wide.2 PL.out).mono ?_; rintro e _ ⟨rfl, y6, rfl⟩) | (refine ⟨trivial, ?_⟩; gi_at_call 31; refine (callsIn_wide.2 (CL y6).out).mono ?_; rintro e _ ⟨v7, y7, rfl, rfl, hp7, ho7⟩; obtain ⟨D7, n7, rfl⟩ : ∃ D7 n7, v7 = .slice D7 bs.length n7 := (by obtain ⟨A', c'', e, _⟩ := hp7; exact ⟨A', c'', e⟩); have HP7 := hid hp7; have HO7 := hid ho7; clear hp7 ho7))
    have q4 : Boxed y7.val (w.heap.size + 1) 22 (.slice none 0 0) := (y7.gr.block _ bR4.lt).trans bR4
    have q5 : Boxed y7.val (w.heap.size + 1 + 1) 26 (.int .i64 0) := (y7.gr.block _ bR5.lt).trans bR5
    have q5' := q5.other (B' := w.heap.size + 1) (by omega) (Value.slice D7 bs.length n7)
    have q4' := q4.set (Value.slice D7 bs.length n7)
    have hKy : y7.val.heap[D]? = some (Obj.deferred (some [])) := (y7.gr.block D (Array.getElem?_eq_some_iff.1 hK).1).trans hK
    have hK' := (KeepsOthers.setCell (y7.val.setCell ⟨w.heap.size + 1, 0, none⟩ (Value.slice D7 bs.length n7)) ⟨w.heap.size + 1 + 1, 0, none⟩ (.int .i64 0)).same D _ ((KeepsOthers.setCell y7.val ⟨w.heap.size + 1, 0, none⟩ (Value.slice D7 bs.length n7)).same D _ hKy rfl) rfl
    refine ⟨by simp, .inl ⟨_, _, rfl, run_takeDeferred hK', ?_⟩⟩
    have hc4 := cell_kept (q4'.other (B' := w.heap.size + 1 + 1) (by omega) (.int .i64 0)).cell (grownBy_putObj' _ D (.deferred none)) (fun r e => by cases e; exact ⟨_, hK', rfl⟩)
    have hc5 := cell_kept (q5'.set (.int .i64 0)).cell (grownBy_putObj' _ D (.deferred none)) (fun r e => by cases e; exact ⟨_, hK', rfl⟩)
    have hs : sector sz K P i = bs := by
      unfold sector
      rw [SN.out, ← HBS.out]
      rfl
    have g2 := (((G0.trans hB1).trans y7.gr).set (p := ⟨w.heap.size + 1, 0, none⟩) (by simp) (Value.slice D7 bs.length n7)).set (p := ⟨w.heap.size + 1 + 1, 0, none⟩) (by simp; omega) (.int .i64 0)
    refine ⟨_, ?_, Value.slice D7 bs.length n7, rfl, ?_, ?_, Below.trans g2.below (belowK_b (w := w) (Nat.le_refl _) _ D _ _ (by have := G0.size; omega) hK' rfl rfl)⟩
    · simp [results, Try.f13, go_sem, hc4, hc5]
    · rw [hs]
      exact Byt.turn (HP7.out.kp (Kp.set (Kp.set (Kp.refl _ _ _) (boxed_not_imm q4 rfl (Nat.le_trans hbase (Nat.le_add_right _ 1))) _) (boxed_not_imm q5' rfl (Nat.le_trans hbase (Nat.le_add_right _ 2))) _)) (grownBy_putObj' _ D (.deferred none)) (fun r e => by cases e; exact ⟨by have := G0.size; omega, _, hK', rfl⟩)
    · rw [hs]
      exact own_turn (own_boxed_set (own_boxed_set HO7.out q4 (by decide)) q5' (by decide)) (grownBy_putObj' _ D (.deferred none)) (fun r e => by cases e; exact ⟨_, hK', rfl⟩)
  case stop =>
    rintro D c pre W hD ⟨k, hk, hpre⟩ ⟨⟨⟨rfl, ini, m, v, rfl, hini, hm, bR4, hby, hoy⟩, bR5⟩, hB1⟩ hK
    gi_wp2
    refine ⟨by simp, .inl ⟨_, _, rfl, run_takeDeferred hK, ?_⟩⟩
    have hc4 := cell_kept bR4.cell (grownBy_putObj' _ D (.deferred none)) (fun r e => by cases e; exact ⟨_, hK, rfl⟩)
    have hc5 := cell_kept bR5.cell (grownBy_putObj' _ D (.deferred none)) (fun r e => by cases e; exact ⟨_, hK, rfl⟩)
    have hbk : Below w.heap.size W (W.putObj D (.deferred none)) := belowK_b (w := w) (Nat.le_refl _) W D _ _ (by have := G0.size; omega) hK rfl rfl
    have hk0 : k ≠ 0 := by rintro rfl; simp [back] at hpre
    have hkk : k = (k - 1) + 1 := by omega
    rw [hkk, back_succ] at hpre
    obtain ⟨e1, e2⟩ := List.append_inj' hpre rfl
    injection e2 with e2
    have hs : sector sz K P i = (P.getD m (0, [])).2 := by
      unfold sector
      rw [seek_found P i m hm P.length (by omega) (fun j h1 h2 => hini j (by rw [e1]; exact (mem_back (by omega)).2 ⟨by omega, h2⟩))]
      rfl
    refine ⟨_, ?_, v, rfl, ?_, ?_, hB1.trans hbk⟩
    · simp [results, Try.f13, go_sem, hc4, hc5]
    · rw [hs]
      exact Byt.turn hby (grownBy_putObj' W D (.deferred none)) (fun r e => by cases e; exact ⟨by have := G0.size; omega, _, hK, rfl⟩)
    · rw [hs]
      exact own_turn hoy (grownBy_putObj' W D (.deferred none)) (fun r e => by cases e; exact ⟨_, hK, rfl⟩)
end
end Go.Proofs.Ytkgmienjioplaaa
