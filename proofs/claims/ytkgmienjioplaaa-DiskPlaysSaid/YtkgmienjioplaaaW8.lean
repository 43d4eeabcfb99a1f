import Derived.Test.YtkgmienjioplaaaW7
import Derived.Deep.RegionLaw
namespace Go.Proofs.Ytkgmienjioplaaa
open Go.RowKit Go.Ext Go.BigFrame
attribute [local go_sem] Ext.cell Ext.frozen Ext.lt Ext.le s1 s2 s3 s4 s5 s6 t1 t2 t3 t4 t5 t6
attribute [local go_sem ↓] Go.wp_at_zero Go.wp_at_succ

theorem info67 : (Try.prog.info? 67).map (fun i => (i.zero, i.size, i.bytes)) = some (some (.agg #[.int .i64 0, .slice none 0 0]), 2, 32) := by kernel_rfl

section
variable {base : Nat} {w w' : World} {g kb : Nat} {off : Bool} {armed : Int} {keep : Value} {S sz : Nat} {K : List UInt8} {P : List Ent} {pend : Value} {writes : Int} {n : Nat}

/-- One more pending write. -/
theorem DkAt.push {w1 w2 : World} {ys : List Value} {v' d : Value} {i : Nat} {bs : List UInt8} (h : DkAt base w g kb off armed keep S sz K P pend writes) (k : Gr w w1) (hi : i < S) (hb : bs.length = sz) (hl : P.length < 4398046511103)
    (hown : w1.ownsRow base 67 2 pend P.length ys) (he : Ents kb base w1 ys P) (hd : Byt (TK kb) base w1 d bs)
    (hown' : w2.ownsRow base 67 2 v' (P.length + 1) (ys ++ [.int .i64 i, d])) (hg : w1.grownBy w2 pend.ownBlock) :
    DkAt base (w2.setCell ⟨g, 5, none⟩ v') g kb off armed keep S sz K (P ++ [((i : Int), bs)]) v' writes ∧ Kp (TK kb) base w (w2.setCell ⟨g, 5, none⟩ v') := by
  have h1 := h.gr k
  have hkp : Kp (TK kb) base w1 w2 := Kp.grown (Kp.refl _ _ _) hg (own_not_imm hown (Nat.le_refl _) (fun _ => rfl))
  have hdb : w1.heap[g]? = _ := h1.db
  have hkept : w1.heap[kb]? = _ := h1.kept
  have ng : some g ≠ pend.ownBlock := fun e => by
    rcases hown.2 with ⟨rfl, _⟩ | ⟨g', cap, cur, rfl, _, hh, _⟩
    · simp [Value.ownBlock] at e
    · simp [Value.ownBlock] at e; subst e; rw [hdb] at hh; injection hh with hh; injection hh with _ ht _; cases ht
  have nk : some kb ≠ pend.ownBlock := fun e => by
    rcases hown.2 with ⟨rfl, _⟩ | ⟨g', cap, cur, rfl, _, hh, _⟩
    · simp [Value.ownBlock] at e
    · simp [Value.ownBlock] at e; subst e; rw [hkept] at hh; injection hh with hh; injection hh with _ ht _; cases ht
  have hdb2 : DB w2 g kb off armed keep sz (S * sz) pend writes := (hg.block g (Array.getElem?_eq_some_iff.1 hdb).1 ng).trans hdb
  have hkb2 : KB w2 kb K := (hg.block kb (Array.getElem?_eq_some_iff.1 hkept).1 nk).trans hkept
  have m : Mod (fun b => b = g) w2 (w2.setCell ⟨g, 5, none⟩ v') := ((Gr.refl w2).mod (fun b => b = g)).set (fun _ => rfl) _
  have hk2 : Kp (TK kb) base w2 (w2.setCell ⟨g, 5, none⟩ v') := g_kp hdb2 m h.lg
  refine ⟨⟨hdb2.set5 _, (m.block kb (Array.getElem?_eq_some_iff.1 hkb2).1 h.ne).trans hkb2, h.size, h.s1, h.s2, h.z1, h.z2, ⟨ys ++ [.int .i64 i, d], ⟨by rw [show (P ++ [((i : Int), bs)]).length = P.length + 1 by simp]; exact hown'.1, ?_⟩, ?_⟩, ?_, ?_, h.ne, h.lg, h.lk⟩, (k.kp.trans hkp).trans hk2⟩
  · rw [List.length_append]
    rcases hown'.2 with ⟨_, h3⟩ | ⟨g', cap, cur, hv, hb, hh, r⟩
    · omega
    · have hne' : g' ≠ g := fun e => by subst e; unfold DB at hdb2; rw [hdb2] at hh; injection hh with hh; injection hh with _ ht _; cases ht
      exact .inr ⟨g', cap, cur, hv, hb, (m.block g' (Array.getElem?_eq_some_iff.1 hh).1 hne').trans hh, r⟩
  · exact (ents_snoc (e := ((i : Int), bs)) (he.kp hkp) (hd.kp hkp)).kp hk2
  · simp; omega
  · intro j hj
    rw [List.length_append, List.length_singleton] at hj
    by_cases hlt : j < P.length
    · have e : (P ++ [((i : Int), bs)]).getD j (0, []) = P.getD j (0, []) := by simp [List.getD, List.getElem?_append_left hlt]
      rw [e]
      exact h.sect j hlt
    · have hj' : j = P.length := by omega
      subst hj'
      have e : (P ++ [((i : Int), bs)]).getD P.length (0, []) = ((i : Int), bs) := by simp [List.getD]
      rw [e]
      exact ⟨by simp, by simp; omega, hb⟩

theorem own_mod {S : Nat → Prop} {B e size n : Nat} {v : Value} {xs : List Value} (h : w.ownsRow B e size v n xs) (m : Mod S w w') (hS : ∀ k, v.ownBlock = some k → ¬ S k) : w'.ownsRow B e size v n xs := by
  refine ⟨h.1, ?_⟩
  rcases h.2 with h2 | ⟨g', cap, cur, hv, hb, hh, r⟩
  · exact .inl h2
  · exact .inr ⟨g', cap, cur, hv, hb, (m.block g' (Array.getElem?_eq_some_iff.1 hh).1 (hS g' (by rw [hv]; rfl))).trans hh, r⟩
/-- A block of another type is not the row's. -/
theorem own_ne {B e size n q : Nat} {v : Value} {xs : List Value} {cs : Array Value} {t : TypeId} {fz : Nat × Nat} (h : w.ownsRow B e size v n xs) (hq : w.heap[q]? = some (.cells cs t fz)) (ht : t ≠ e) : some q ≠ v.ownBlock := fun e' => by
  rcases h.2 with ⟨rfl, _⟩ | ⟨g', cap, cur, rfl, _, hh, _⟩
  · simp [Value.ownBlock] at e'
  · simp [Value.ownBlock] at e'
    subst e'
    rw [hq] at hh
    injection hh with hh
    injection hh with _ e2 _
    exact ht e2
theorem mod_grown {row : Option Nat} (h : w.grownBy w' row) : Mod (fun b => some b = row) w w' := ⟨h.os, h.tape, h.output, h.size, fun k hk hn => h.block k hk hn⟩

/-- A write that was taken: what it has turned; and what it has laid is its own. -/
def RetW (base g kb : Nat) (armed : Int) (keep : Value) (S sz : Nat) (K : List UInt8) (P0 : List Ent) (pend0 : Value) (e1 : Ent) (writes : Int) (w : World) (e : Ending) (w' : World) : Prop :=
  ∃ pend, e = .returned (.int .i64 0) ∧ DkAt base w' g kb false armed keep S sz K (P0 ++ [e1]) pend writes ∧ Kp (TK kb) base w w' ∧ Mod (fun b => b = g ∨ some b = pend0.ownBlock) w w' ∧
    ∃ ys q c, w.ownsRow base 67 2 pend0 P0.length ys ∧ Ents kb base w ys P0 ∧ w'.ownsRow base 67 2 pend (P0.length + 1) (ys ++ [.int .i64 e1.1, .slice (some ⟨q, 0, none⟩) sz c]) ∧ w.heap.size ≤ q

set_option maxHeartbeats 2000000 in
/-- Not taken: the disk is off, or there is no such sector, or it is not a sector's bytes. -/
theorem write_bad (i : Int) (A : Option Addr) (m c : Nat) (h : DkAt base w g kb off armed keep S sz K P pend writes) (hbad : off = true ∨ i < 0 ∨ (S : Int) ≤ i ∨ m ≠ sz) :
    Calls Try.prog 10 #[.pointer (some ⟨g, 0, none⟩), .int .i64 i, .slice A m c] w (RetE (.int .i64 (if off then 5 else 1)) w) := by
  refine retE ?_
  have c3 := h.db.cell 3
  have hlt := h.db.lt
  simp at c3
  have hz2 := h.z2
  have E : chk off S i (decide (m = sz)) = (if off then 5 else 1) := by
    unfold chk
    cases off
    · have hc : i < 0 ∨ (S : Int) ≤ i ∨ decide (m = sz) = false := by
        rcases hbad with h | h | h | h
        · cases h
        · exact Or.inl h
        · exact Or.inr (Or.inl h)
        · exact Or.inr (Or.inr (decide_eq_false h))
      simp only [Bool.false_eq_true, if_false]
      rw [if_pos hc]
    · rfl
  have CK := hid (check_any S i (decide (m = sz)) h.db rfl (by have := h.z1; omega) h.max)
  rw [E] at CK
  clear E hbad h
  have e0 : ((m : Int) == (sz : Int)) = decide (m = sz) := by
    by_cases e : m = sz
    · subst e; simp
    · rw [decide_eq_false e]; simp; omega
  obtain ⟨r, hr⟩ : ∃ r : Int, (if off then (5 : Int) else 1) = r := ⟨_, rfl⟩
  have hr0 : r ≠ 0 := by rw [← hr]; split <;> omega
  rw [hr] at CK ⊢
  clear hr
  have hr1 : (r == 0) = false := by simpa using hr0
  go_enter Try.func10, Try.ntmps10
  go_wp2_with (go_at_call 29; (with_reducible refine CK.out.mono ?_); rintro e _ ⟨rfl, y1, rfl⟩)
  go_ret
  exact ⟨rfl, y1.gr⟩

theorem DB.grown {w1 w2 : World} {B m : Nat} {ys : List Value} (h : DB w1 g kb off armed keep sz n pend writes) (hown : w1.ownsRow B 67 2 pend m ys) (hg : w1.grownBy w2 pend.ownBlock) : DB w2 g kb off armed keep sz n pend writes := by
  have hdb : w1.heap[g]? = _ := h
  have ng : some g ≠ pend.ownBlock := fun e => by
    rcases hown.2 with ⟨rfl, _⟩ | ⟨g', cap, cur, rfl, _, hh, _⟩
    · simp [Value.ownBlock] at e
    · simp [Value.ownBlock] at e; subst e; rw [hdb] at hh; injection hh with hh; injection hh with _ ht _; cases ht
  exact (hg.block g (Array.getElem?_eq_some_iff.1 hdb).1 ng).trans hdb
/-- A sector's bytes do not lie in the disk's own block. -/
theorem Bts.mod {d : Value} {bs : List UInt8} (hb : Bts w d bs) (h : DB w g kb off armed keep sz n pend writes) (m : Mod (fun b => b = g) w w') (hl : 64 ≤ bs.length) : Bts w' d bs := by
  obtain ⟨A, c, e, h1, h2, h3⟩ := hb
  refine ⟨A, c, e, h1, ?_, h3⟩
  obtain ⟨b, o, rfl, hc⟩ := h2 (by intro e; have := bc_length bs; rw [e] at this; simp at this; omega)
  refine h2.keep fun b' ⟨o', e'⟩ hb' => m.block b' hb' (fun e2 => ?_)
  injection e' with e'
  injection e' with e3 _
  subst e3
  subst e2
  have k := hc 7 (.int .u8 (bs[7]'(by omega)).toNat) (by simp [bc, show 7 < bs.length by omega])
  rw [h.cell] at k
  simp at k
theorem calls_grC {Pg : Program} {f : FuncId} {args : Array Value} {w0 w : World} {p : World → Value → Prop} (hg : Gr w0 w)
    (h : Calls Pg f args w (RetP p w)) : Calls Pg f args w (RetP p w0) :=
  h.mono fun _ _ ⟨v, y, he, hw, hp⟩ => ⟨v, ⟨y.val, hg.trans y.gr⟩, he, hw, hp⟩

theorem clone_lo (B base kb : Nat) (d : Value) (bs : List UInt8) (w : World) (hd : Bts w d bs) (hk : kb < w.heap.size) (hB : B ≤ w.heap.size) :
    Calls Try.prog 31 #[d] w (RetP (fun w' v => Byt (TK kb) base w' v bs ∧ w'.ownsRow B 5 1 v bs.length (bc bs)) w) :=
  (clone_any base kb d bs w hd hk).mono fun _ _ ⟨v, y, h1, h2, h3, h4⟩ => ⟨v, y, h1, h2, h3, own_base h4 hB⟩
/-- How many writes are left. -/
def less (armed : Int) : Int := if armed = 0 then 0 else armed - 1

set_option maxRecDepth 100000 in
set_option maxHeartbeats 4000000 in
theorem write_ok (i : Nat) (A : Option Addr) (c : Nat) (bs : List UInt8) (h : DkAt base w g kb false armed keep S sz K P pend writes) (hi : i < S) (hb : Bts w (.slice A bs.length c) bs) (hbs : bs.length = sz) (ha : 0 ≤ armed) (ha2 : armed ≤ 9223372036854775807) (ha1 : armed ≠ 1)
    (hl : P.length < 4398046511000) (hw0 : 0 ≤ writes) (hw : writes ≤ 4611686018427387904) :
    Calls Try.prog 10 #[.pointer (some ⟨g, 0, none⟩), .int .i64 i, .slice A bs.length c] w (RetW base g kb (less armed) keep S sz K P pend ((i : Int), bs) (writes + 1) w) := by
  obtain ⟨i0, hi0, hz0, hz1, hz2⟩ := info_parts info67
  have c3 := h.db.cell 3
  have hlt := h.db.lt
  simp at c3
  have hzz := h.z2
  have hzz1 := h.z1
  have CK := hid ((check_any S i true h.db rfl (by omega) h.max).mono (R' := RetE (.int .i64 0) w) (fun _ _ h => by
    have e : chk false S i true = 0 := by
      unfold chk
      rw [if_neg (by simp), if_neg (by rintro (h | h | h); omega; omega; cases h)]
    rwa [e] at h))
  have HG := fun (y : Ext w) => hid ((goes_any (h.gr y.gr).db ha ha2).mono (R' := fun e w' => e = .returned (.bool false) ∧ DB w' g kb false (less armed) keep sz (S * sz) pend writes ∧ Mod (fun b => b = g) y.val w') (fun e w' ⟨h1, h2, h3⟩ => by
    rw [decide_eq_false ha1] at h1
    refine ⟨h1, ?_, h3⟩
    rw [if_neg ha1] at h2
    exact h2))
  have e0 : ((bs.length : Int) == (sz : Int)) = true := by rw [hbs]; simp
  have H := hid h
  have HB := hid hb
  clear h hb
  go_enter Try.func10, Try.ntmps10
  go_wp2_with (first | (go_at_call 29; (with_reducible refine CK.out.mono ?_); rintro e _ ⟨rfl, y1, rfl⟩) | (go_at_call 30; (with_reducible refine (HG y1).out.mono ?_); rintro e w2 ⟨rfl, h2, h3⟩; have H2 := hid h2; have H3 := hid h3; clear h2 h3))
  have HD := hid (show DkAt base w2 g kb false (less armed) keep S sz K P pend writes from (H.out.gr y1.gr).upd H3.out H2.out)
  have HK := hid (show Kp (TK kb) base w w2 from y1.gr.kp.trans (g_kp (H.out.gr y1.gr).db H3.out H.out.lg))
  have HB2 := hid (show Bts w2 (.slice A sz c) bs from by have := (HB.out.gr y1.gr).mod (H.out.gr y1.gr).db H3.out (by omega); rwa [hbs] at this)
  obtain ⟨ys, hyo1, hyo2⟩ := H.out.row
  have M2 := hid ((y1.gr.mod (fun b => b = g)).trans H3.out (fun _ _ h => h))
  have HY0 := hid hyo1
  have HYE := hid hyo2
  have hys1 : w2.ownsRow base 67 2 pend P.length ys := own_mod hyo1 M2.out (fun k e e2 => own_ne (q := g) hyo1 H.out.db (by decide) (e2 ▸ e.symm))
  have hys2 : Ents kb base w2 ys P := hyo2.kp HK.out
  clear hyo1 hyo2
  have HY1 := hid hys1
  have HY2 := hid hys2
  clear hys1 hys2
  have hlt2 : g < w2.heap.size := HD.out.db.lt
  have hkl2 : kb < w2.heap.size := (Array.getElem?_eq_some_iff.1 HD.out.kept).1
  have hbl : base ≤ w2.heap.size := by have := HD.out.lg; omega
  have k5 : w2.cell? ⟨g, 5, none⟩ = some pend := by have := HD.out.db.cell 5; simpa using this
  have hbz : bs.length ≤ 1024 := by omega
  go_region_law (first
    | (go_simp; go_at_call 31
       refine (calls_grC (w0 := w2) ?_ (clone_lo w2.heap.size base kb _ bs _ (HB2.out.gr ?_) (Nat.lt_of_lt_of_le hkl2 (Gr.size ?_)) (Gr.size ?_))).mono ?_
       · repeat (first | exact Gr.refl _ | refine Gr.ext ?_ _ | refine Gr.alloc ?_ _ | refine Gr.drew ?_)
       · repeat (first | exact Gr.refl _ | refine Gr.ext ?_ _ | refine Gr.alloc ?_ _ | refine Gr.drew ?_)
       · repeat (first | exact Gr.refl _ | refine Gr.ext ?_ _ | refine Gr.alloc ?_ _ | refine Gr.drew ?_)
       · repeat (first | exact Gr.refl _ | refine Gr.ext ?_ _ | refine Gr.alloc ?_ _ | refine Gr.drew ?_)
       rintro e _ ⟨v6, y6, rfl, rfl, hby, hfr⟩
       obtain ⟨D6, n6, rfl, hD6⟩ : ∃ D6 n6, v6 = .slice D6 sz n6 ∧ ∃ q, D6 = some ⟨q, 0, none⟩ ∧ w2.heap.size ≤ q := by
         rcases hfr.2 with ⟨_, h0⟩ | ⟨g', cap, cur, hv, hb, _⟩
         · omega
         · exact ⟨_, cap, by rw [hv, hbs], g', rfl, hb⟩
       have HF6 := hid hD6
       clear hD6 hfr
       have HBY := hid hby
       clear hby)
    | (refine step_append_lies _ (by rfl) _ _ _ (by rfl) base 67 i0 _ 2 32 Try.underlying33 hi0 hz0 hz1 hz2 rfl (by omega) pend P.length ys (by rfl) (own_gr HY1.out (y6.gr.alloc _)) ⟨y6.val.heap.size, 0, none⟩ 1 1 [.int .i64 i, .slice D6 sz n6] (by rfl) (by rfl) (World.news_of_block (cs := #[.int .i64 i, .slice D6 sz n6]) (t := 67) (fr := (0, 0)) (heap_alloc_new y6.val _)) (by simp [Value.oneCell']) (by omega) (by unfold maxLen; omega) (by omega) (by have := y6.gr.size; simp; omega) _ rfl ?_
       intro gg cap w8 hown8 hgrow8 hat8 hlt8
       have HDB8 := hid ((HD.out.db.gr (y6.gr.alloc _)).grown (own_gr HY1.out (y6.gr.alloc _)) hgrow8)
       have k58 : w8.cell? ⟨g, 5, none⟩ = some pend := by have := HDB8.out.cell 5; simpa using this
       have f58 : w8.frozen? ⟨g, 5, none⟩ = false := HDB8.out.frozen 5
       have k68 : w8.cell? ⟨g, 6, none⟩ = some (.int .i64 writes) := by have := HDB8.out.cell 6; simpa using this
       have f68 : w8.frozen? ⟨g, 6, none⟩ = false := HDB8.out.frozen 6
       have HO8 := hid hown8
       have HG8 := hid hgrow8
       clear hown8 hgrow8))
  all_goals (
    go_wp2_with fail
    go_ret
    have G1 : Gr w2 (y6.val.alloc (.cells #[.int .i64 i, .slice D6 sz n6] 67)) := y6.gr.alloc _
    obtain ⟨hp, hk⟩ := HD.out.push G1 hi hbs (by omega) (own_gr HY1.out G1) (HY2.out.kp G1.kp) (HBY.out.kp (Kp.alloc (Kp.refl _ _ _) _)) HO8.out HG8.out
    have m6 := ((Gr.refl (w8.setCell ⟨g, 5, none⟩ (.slice (some ⟨gg, 0, none⟩) (P.length + 1) cap))).mod (fun b => b = g)).set (p := ⟨g, 6, none⟩) (fun _ => rfl) (.int .i64 (writes + 1))
    obtain ⟨q6, rfl, hq6⟩ := HF6.out
    have m5 := ((Gr.refl w8).mod (fun b => b = g)).set (p := ⟨g, 5, none⟩) (fun _ => rfl) (.slice (some ⟨gg, 0, none⟩) (P.length + 1) cap)
    have m56 := m5.trans m6 (fun _ _ h => h)
    have hg8 : w8.heap[g]? = _ := ((HD.out.db.gr G1).grown (own_gr HY1.out G1) HG8.out)
    have M8 : Mod (fun b => b = g ∨ some b = pend.ownBlock) w _ := ((M2.out.mono (S' := fun b => b = g ∨ some b = pend.ownBlock) (fun _ _ h => .inl h)).gr G1).trans (((mod_grown HG8.out).mono (S' := fun b => b = g ∨ some b = pend.ownBlock) (fun _ _ h => .inr h)).trans m56 (fun _ _ h => .inl h)) (fun _ _ h => h)
    exact ⟨_, rfl, hp.upd m6 (hp.db.set6 _), HK.out.trans (hk.trans (g_kp hp.db m6 hp.lg)), M8, ys, q6, n6, HY0.out, HYE.out, own_mod HO8.out m56 (fun k e e2 => own_ne (q := g) HO8.out hg8 (by decide) (e2 ▸ e.symm)), Nat.le_trans M2.out.size hq6⟩)
end
end Go.Proofs.Ytkgmienjioplaaa
