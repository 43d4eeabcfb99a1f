import Derived.Test.YtkgmienjioplaaaE4
import Derived.Deep.RegionLaw
namespace Go.Proofs.Ytkgmienjioplaaa
open Go.RowKit Go.Ext Go.BigFrame
attribute [local go_sem] Ext.cell Ext.frozen Ext.lt Ext.le s1 s2 s3 s4 s5 s6 t1 t2 t3 t4 t5 t6
attribute [local go_sem ↓] Go.wp_at_zero Go.wp_at_succ

theorem info77 : (Try.prog.info? 77).map (fun i => (i.zero, i.size, i.bytes)) = some (some (.agg #[.int .i64 0, .slice none 0 0]), 2, 32) := by kernel_rfl
theorem step_append_own {P : Program} {w : World} {ops : Array Oper} {o : Oper} {a : Act} {K : Act → World → Prop} {Q : Exit → Act → World → Prop} {E : Prop} (hgd : o.guard = none) (s x : Operand) (t : TypeId)
    (ho : o.op = .call { callee := .builtin .append, args := #[s, x], argTypes := #[t, t] })
    (base : Nat) (e : TypeId) (i : TypeInfo) (z : Value) (size bytes : Nat) (ht : P.underlying t = some (.slice e)) (hi : P.info? e = some i) (hz : i.zero = some z)
    (hsize : i.size = size) (hby : i.bytes = bytes) (hzs : z.cells.size = size) (hsz : 0 < size)
    (v : Value) (n : Nat) (xs : List Value) (hs : a.eval s = v) (hown : w.ownsRow base e size v n xs)
    (ad : Addr) (m c : Nat) (news : List Value) (hx : a.eval x = .slice (some ad) m c) (hl : news.length = m * size) (hnews : ∀ j u, news[j]? = some u → w.cell? (ad.add j) = some u) (h1 : ∀ u ∈ news, u.oneCell' = true)
    (h63 : n + m ≤ maxLen) (hbytes : (n + m) * bytes ≤ 140737488355328) (hbase : base ≤ w.heap.size)
    (h : ∀ v' w', w'.ownsRow base e size v' (n + m) (xs ++ news) → w.grownBy w' v.ownBlock → (v' = .slice none 0 0 ↔ v = .slice none 0 0 ∧ m = 0) → K (a.put o.dst v') w') :
    if Region.wanted o (yielded ops a.tmps) = true then Oper.wp P o a w K Q else E := by
  have hw : Region.wanted o (yielded ops a.tmps) = true := by simp [Region.wanted, hgd]
  rw [if_pos hw]
  exact wp_append_own w s x t ho base e i z size bytes ht hi hz hsize hby hzs hsz v n xs hs hown ad m c news hx hl hnews h1 h63 hbytes hbase fun v' w' h2 h3 h4 => h v' w' h2 h3 h4

section
variable {base : Nat} {w w' : World} {rg rkb kb : Nat} {off : Bool} {armed : Int} {keep : Value} {S sz : Nat} {K : List UInt8} {P : List Ent} {pend : Value} {writes : Int}

set_option maxHeartbeats 2000000 in
theorem rwrite_bad (i : Int) (A : Option Addr) (m c : Nat) (h : RkAt base w rg rkb kb off armed keep S sz K P pend writes) (hbad : off = true ∨ i < 0 ∨ (S : Int) ≤ i ∨ m ≠ sz) :
    Calls Try.prog 23 #[.pointer (some ⟨rg, 0, none⟩), .int .i64 i, .slice A m c] w (RetE (.int .i64 (if off then 5 else 1)) w) := by
  refine retE ?_
  have r0 := h.rb.cell 0
  have r1 := h.rb.cell 1
  have r4 := h.rb.cell 4
  simp at r0 r1 r4
  have hgl := h.rb.lt
  have hs2 := h.s2
  have hz2 := h.z2
  clear h
  cases off
  · have hb2 : i < 0 ∨ (S : Int) ≤ i ∨ m ≠ sz := hbad.resolve_left (by simp)
    clear hbad
    by_cases h1 : i < 0
    · go_enter Try.func23, Try.ntmps23
      go_wp2_with fail
      go_ret
      exact ⟨rfl, Gr.refl _⟩
    · by_cases h2 : (S : Int) ≤ i
      · go_enter Try.func23, Try.ntmps23
        go_wp2_with fail
        go_ret
        exact ⟨rfl, Gr.refl _⟩
      · have h3 : m ≠ sz := by rcases hb2 with h | h | h; exact absurd h h1; exact absurd h h2; exact h
        have h3' : ((m : Int) == (sz : Int)) = false := by simp; omega
        clear hb2
        go_enter Try.func23, Try.ntmps23
        go_wp2_with fail
        go_ret
        exact ⟨rfl, Gr.refl _⟩
  · clear hbad
    go_enter Try.func23, Try.ntmps23
    go_wp2_with fail
    go_ret
    exact ⟨rfl, Gr.refl _⟩

set_option maxRecDepth 100000 in
set_option maxHeartbeats 2000000 in
theorem rwrite_goes (i : Nat) (A : Option Addr) (c n : Nat) (ks : List Bool) (h : RkAt base w rg rkb kb false 1 keep S sz K P pend writes) (hk : KeepAt base w keep ks) (hi : i < S) (hn : n = sz) :
    Calls Try.prog 23 #[.pointer (some ⟨rg, 0, none⟩), .int .i64 i, .slice A n c] w (RetK base rg rkb kb true 0 keep S sz (layF sz (fun j => ks.getD j false) K P P.length) writes (.int .i64 5) w) := by
  obtain ⟨Ak, ck, rfl, hbl, hAk⟩ := hk.bls h.kept
  have r0 := h.rb.cell 0
  have r1 := h.rb.cell 1
  have r4 := h.rb.cell 4
  have r5 := h.rb.cell 5
  have r6 := h.rb.cell 6
  simp at r0 r1 r4 r5 r6
  have hgl := h.rb.lt
  have hs2 := h.s2
  have hz2 := h.z2
  have CC := hid (rcut_any Ak ck ks.length ks h hbl rfl hAk)
  have hi' : (i : Int) < (S : Int) := by omega
  subst hn
  clear h hk hbl hAk
  go_enter Try.func23, Try.ntmps23
  go_wp2_with (go_at_call 26; refine CC.out.mono ?_; rintro e w5 ⟨rfl, hd5, hm5⟩; have HD5 := hid hd5; have HM5 := hid hm5; clear hd5 hm5)
  go_ret
  exact ⟨rfl, HD5.out, HM5.out⟩

/-- A write that was taken. -/
def RetX (base rg rkb kb : Nat) (armed : Int) (keep : Value) (S sz : Nat) (K : List UInt8) (P : List Ent) (pend0 : Value) (writes : Int) (w : World) (e : Ending) (w' : World) : Prop :=
  ∃ pend, e = .returned (.int .i64 0) ∧ RkAt base w' rg rkb kb false armed keep S sz K P pend writes ∧ Mod (fun b => b = rg ∨ some b = pend0.ownBlock) w w'

theorem RkAt.push {w1 : World} {ys : List Value} {v' d : Value} {i : Nat} {bs : List UInt8} (h : RkAt base w1 rg rkb kb off armed keep S sz K P pend writes) (hi : i < S) (hb : bs.length = sz) (hl : P.length < 4398046511103)
    (hown : w1.ownsRow base 77 2 pend P.length ys) (he : EntsT (TR kb rkb) base w1 ys P) (hd : Byt (TR kb rkb) base w1 d bs)
    (hown' : w'.ownsRow base 77 2 v' (P.length + 1) (ys ++ [.int .i64 i, d])) (hg : w1.grownBy w' pend.ownBlock) :
    RkAt base (w'.setCell ⟨rg, 3, none⟩ v') rg rkb kb off armed keep S sz K (P ++ [((i : Int), bs)]) v' writes := by
  have hkp : Kp (TR kb rkb) base w1 w' := Kp.grown (Kp.refl _ _ _) hg (own_not_imm hown (Nat.le_refl _) (fun _ => rfl))
  have hr : RB w' rg rkb S sz (S * sz) pend off armed keep writes := h.rb.grown hg (own_ne hown h.rb (by decide))
  have hk : KB w' rkb K := (hg.block rkb h.klt (own_ne hown h.kept (by decide))).trans h.kept
  have m : Mod (fun b => b = rg) w' (w'.setCell ⟨rg, 3, none⟩ v') := ((Gr.refl w').mod (fun b => b = rg)).set (fun _ => rfl) _
  have hk2 : Kp (TR kb rkb) base w' (w'.setCell ⟨rg, 3, none⟩ v') := m.kp (by rintro k rfl; exact rnot_imm hr h.lg (by simp [TR]))
  refine ⟨hr.set3 _, (m.block rkb (Array.getElem?_eq_some_iff.1 hk).1 h.ne).trans hk, h.size, h.s1, h.s2, h.z1, h.z2, ⟨ys ++ [.int .i64 i, d], ?_, (entsT_snoc (e := ((i : Int), bs)) (he.kp hkp) (hd.kp hkp)).kp hk2⟩, by simp; omega, ?_, h.lg, h.lk⟩
  · rw [List.length_append]
    exact own_mod hown' m (fun k hk e => own_ne hown' hr (by decide) (e ▸ hk.symm))
  · intro j hj
    rw [List.length_append, List.length_singleton] at hj
    by_cases hlt : j < P.length
    · have e : (P ++ [((i : Int), bs)]).getD j (0, []) = P.getD j (0, []) := by simp [List.getD, List.getElem?_append_left hlt]
      rw [e]
      exact h.sect j hlt
    · have hj' : j = P.length := by omega
      subst hj'
      have e : (P ++ [((i : Int), bs)]).getD P.length (0, []) = ((i : Int), bs) := by simp [List.getD]
      rw [e]
      exact ⟨by simp, by simp; omega, hb⟩

set_option maxRecDepth 100000 in
set_option maxHeartbeats 8000000 in
theorem rwrite_ok (i : Nat) (A : Option Addr) (c n : Nat) (bs : List UInt8) (h : RkAt base w rg rkb kb false armed keep S sz K P pend writes) (hi : i < S) (hb : Bts w (.slice A n c) bs) (hbn : bs.length = n) (hn : n = sz) (ha : 0 ≤ armed) (ha2 : armed ≤ 9223372036854775807) (ha1 : armed ≠ 1)
    (hl : P.length < 4398046511000) (hw0 : 0 ≤ writes) (hw : writes ≤ 4611686018427387904) (hkb : kb < w.heap.size) (hAg : ∀ b o, A = some ⟨b, o, none⟩ → b ≠ rg) (hbl : base ≤ w.heap.size) :
    Calls Try.prog 23 #[.pointer (some ⟨rg, 0, none⟩), .int .i64 i, .slice A n c] w (RetX base rg rkb kb (less armed) keep S sz K (P ++ [((i : Int), bs)]) pend (writes + 1) w) := by
  obtain ⟨i0, hi0, hz0, hz1, hz2⟩ := info_parts info77
  obtain ⟨i5, hi5, hy0, hy1, hy2⟩ := info_parts info5
  have hzz := h.z2
  have hzz1 := h.z1
  have hs2 := h.s2
  have hi' : (i : Int) < (S : Int) := by omega
  obtain ⟨ad, rfl⟩ : ∃ ad, A = some ad := by
    cases A with
    | some ad => exact ⟨ad, rfl⟩
    | none =>
      obtain ⟨A', c', e, _, hr, _⟩ := hb
      injection e with e _ _
      subst e
      obtain ⟨b, o, e, _⟩ := hr (by intro e; have := bc_length bs; rw [e] at this; simp at this; omega)
      cases e
  by_cases h0 : armed = 0
  · subst h0
    have hless : less 0 = 0 := rfl
    rw [hless]
    have r0 := h.rb.cell 0
    have r1 := h.rb.cell 1
    have r4 := h.rb.cell 4
    have r5 := h.rb.cell 5
    have f5 := h.rb.frozen 5
    simp at r0 r1 r4 r5
    have hgl := h.rb.lt
    have HR := hid h
    have HB := hid (show Rd w (some ad) (bc bs) from by obtain ⟨A', c', e, _, e2, _⟩ := hb; injection e with e _ _; subst e; exact e2)
    have HM1 := hid ((Gr.refl w).mod (fun b => b = rg ∨ some b = pend.ownBlock))
    obtain ⟨w1, hEq⟩ : ∃ w1, w = w1 := ⟨_, rfl⟩
    have hs1 : kb < w1.heap.size := by rw [← hEq]; exact hkb
    have hb1 : base ≤ w1.heap.size := by rw [← hEq]; exact hbl
    subst hEq
    have hEq : w = w := rfl
    have HW1 := hid hEq
    clear h hb hEq
    subst hn
    go_enter Try.func23, Try.ntmps23
    go_wp2_with fail
    clear HW1 r0 r1 r4 r5 f5
    have q3 := HR.out.rb.cell 3
    simp at q3
    have hg1 := HR.out.rb.lt
    obtain ⟨ys, hys1, hys2⟩ := HR.out.row
    have HY1 := hid hys1
    have HY2 := hid hys2
    clear hys1 hys2
    have hmade : ((w.drew).alloc (.cells #[] 5)).ownsRow w.heap.size 5 1 (.slice (some ⟨w.heap.size, 0, none⟩) 0 0) 0 [] := World.ownsRow_made w.drew #[] 0 (Nat.le_refl _) (by decide) rfl
    have HMD := hid hmade
    clear hmade
    go_region_law (first
      | (refine step_append_own (by rfl) (.tmp 59) (.tmp 60) 22 (by rfl) w.heap.size 5 i5 _ 1 1 Try.underlying22 hi5 hy0 hy1 hy2 rfl (by decide) (.slice (some ⟨w.heap.size, 0, none⟩) 0 0) 0 [] (by rfl) HMD.out ad n c (bc bs) (by rfl) (by simp [bc_length, hbn]) (HB.out.gr (((Gr.refl w).drew).alloc _)).add (bc_one bs) (by unfold maxLen; omega) (by omega) (by simp) ?_
         intro v1 w2 hown1 hgr1 _
         obtain ⟨D1, n1, rfl⟩ : ∃ D1 n1, v1 = .slice D1 n n1 := by
           rcases hown1.2 with ⟨_, h0⟩ | ⟨g', cap, cur, rfl, _⟩
           · omega
           · exact ⟨_, _, by rw [Nat.zero_add]⟩
         have hw2 : Gr w w2 := gr_grown (((Gr.refl w).drew).alloc (.cells #[] 5)) hgr1 (by intro k hk; simp [Value.ownBlock] at hk; omega)
         have HG12 := hid hw2
         have hr2 := (HR.out.gr hw2).rb.cell 3
         simp at hr2
         have hg2 : rg < w2.heap.size := Nat.lt_of_lt_of_le hg1 hw2.size
         have HO1 := hid hown1
         clear hown1 hgr1 hw2)
      | (refine step_append_lies _ (by rfl) _ _ _ (by rfl) base 77 i0 _ 2 32 Try.underlying57 hi0 hz0 hz1 hz2 rfl (by omega) pend P.length ys (by rfl) (own_gr HY1.out (HG12.out.alloc _)) ⟨w2.heap.size, 0, none⟩ 1 1 [.int .i64 i, .slice D1 n n1] (by rfl) (by rfl) (World.news_of_block (cs := #[.int .i64 i, .slice D1 n n1]) (t := 77) (fr := (0, 0)) (heap_alloc_new w2 _)) (by simp [Value.oneCell']) (by omega) (by unfold maxLen; omega) (by omega) (by have := HG12.out.size; simp; omega) _ rfl ?_
         intro gg cap w8 hown8 hgrow8 hat8 hlt8
         have HR2 := hid (HR.out.gr (HG12.out.alloc (.cells #[.int .i64 i, .slice D1 n n1] 77)))
         have HDB8 := hid (HR2.out.rb.grown hgrow8 (own_ne (own_gr HY1.out (HG12.out.alloc (.cells #[.int .i64 i, .slice D1 n n1] 77))) HR2.out.rb (by decide)))
         have k38 : w8.cell? ⟨rg, 3, none⟩ = some pend := by have := HDB8.out.cell 3; simpa using this
         have f38 : w8.frozen? ⟨rg, 3, none⟩ = false := HDB8.out.frozen 3
         have k78 : w8.cell? ⟨rg, 7, none⟩ = some (.int .i64 writes) := by have := HDB8.out.cell 7; simpa using this
         have f78 : w8.frozen? ⟨rg, 7, none⟩ = false := HDB8.out.frozen 7
         have HO8 := hid hown8
         have HG8 := hid hgrow8
         clear hown8 hgrow8))
    all_goals (
      go_wp2_with fail
      go_ret
      have hby : Byt (TR kb rkb) base w2 (.slice D1 n n1) bs := by
        have ho := HO1.out
        rw [Nat.zero_add, List.nil_append] at ho
        rcases ho.2 with ⟨_, h0⟩ | ⟨g', cap', cur, hv, hb', hh, _⟩
        · omega
        · injection hv with hv _ _
          subst hv
          have hne1 : (g' != kb) = true := by simp; omega
          have hne2 : (g' != rkb) = true := by simp; have := HR.out.klt; omega
          exact ⟨_, _, by rw [hbn], by omega, Rd.of_own ho, fun _ => ⟨g', 0, rfl, (Array.getElem?_eq_some_iff.1 hh).1, .inr ⟨cur, 5, (0, 0), hh, by unfold TR; rw [hne1, hne2]; rfl⟩⟩, fun e => by cases e⟩
      have G2 := (Gr.refl w2).alloc (.cells #[.int .i64 i, .slice D1 n n1] 77)
      have hp := HR2.out.push hi hbn (by omega) (own_gr HY1.out (HG12.out.alloc _)) (HY2.out.kp (HG12.out.alloc _).kp) (hby.kp G2.kp) HO8.out HG8.out
      have m5 := ((Gr.refl w8).mod (fun b => b = rg)).set (p := ⟨rg, 3, none⟩) (fun _ => rfl) (.slice (some ⟨gg, 0, none⟩) (P.length + 1) cap)
      have m6 := ((Gr.refl (w8.setCell ⟨rg, 3, none⟩ (.slice (some ⟨gg, 0, none⟩) (P.length + 1) cap))).mod (fun b => b = rg)).set (p := ⟨rg, 7, none⟩) (fun _ => rfl) (.int .i64 (writes + 1))
      have m56 := m5.trans m6 (fun _ _ h => h)
      have M8 : Mod (fun b => b = rg ∨ some b = pend.ownBlock) w _ := ((HG12.out.alloc (.cells #[.int .i64 i, .slice D1 n n1] 77)).mod _).trans (((mod_grown HG8.out).mono (S' := fun b => b = rg ∨ some b = pend.ownBlock) (fun _ _ h => .inr h)).trans m56 (fun _ _ h => .inl h)) (fun _ _ h => h)
      exact ⟨_, rfl, hp.upd m6 (hp.rb.set7 _), HM1.out.trans M8 (fun _ _ h => h)⟩)
  · have hless : less armed = armed - 1 := by unfold less; rw [if_neg h0]
    rw [hless]
    have h2 : 0 < armed := by omega
    have h1' : (armed == 1) = false := by simpa using ha1
    have r0 := h.rb.cell 0
    have r1 := h.rb.cell 1
    have r4 := h.rb.cell 4
    have r5 := h.rb.cell 5
    have f5 := h.rb.frozen 5
    simp at r0 r1 r4 r5
    have hgl := h.rb.lt
    have hmod : Mod (fun b => b = rg) w (w.setCell ⟨rg, 5, none⟩ (.int .i64 (armed - 1))) := ((Gr.refl w).mod (fun b => b = rg)).set (fun _ => rfl) _
    have hr1 := h.upd hmod (h.rb.set5 (armed - 1))
    have hb1' : Bts (w.setCell ⟨rg, 5, none⟩ (.int .i64 (armed - 1))) (.slice (some ad) n c) bs := by
      obtain ⟨A', c', e, e1, e2, e3⟩ := hb
      injection e with e _ _
      subst e
      exact ⟨some ad, _, by rw [hbn], e1, Rd.keep e2 (fun b ⟨o, e⟩ hb' => Below.heap_setCell w _ _ b (hAg b o e)), fun e => by cases e⟩
    have hs1' : (w.setCell ⟨rg, 5, none⟩ (.int .i64 (armed - 1))).heap.size = w.heap.size := by simp [World.setCell]
    obtain ⟨w1, hEq⟩ : ∃ w1, w.setCell ⟨rg, 5, none⟩ (.int .i64 (armed - 1)) = w1 := ⟨_, rfl⟩
    rw [hEq] at hmod hr1 hb1' hs1'
    have hs1 : kb < w1.heap.size := by rw [hs1']; exact hkb
    have hb1 : base ≤ w1.heap.size := by rw [hs1']; exact hbl
    have HR := hid hr1
    have HB := hid (show Rd w1 (some ad) (bc bs) from by obtain ⟨A', c', e, _, e2, _⟩ := hb1'; injection e with e _ _; subst e; exact e2)
    have HM1 := hid (hmod.mono (S' := fun b => b = rg ∨ some b = pend.ownBlock) (fun _ _ h => .inl h))
    clear hmod hr1 hb1' hs1'
    have HW1 := hid hEq
    clear h hb hEq
    subst hn
    go_enter Try.func23, Try.ntmps23
    go_wp2_with fail
    rw [HW1.out]
    clear HW1 r0 r1 r4 r5 f5
    have q3 := HR.out.rb.cell 3
    simp at q3
    have hg1 := HR.out.rb.lt
    obtain ⟨ys, hys1, hys2⟩ := HR.out.row
    have HY1 := hid hys1
    have HY2 := hid hys2
    clear hys1 hys2
    have hmade : ((w1.drew).alloc (.cells #[] 5)).ownsRow w1.heap.size 5 1 (.slice (some ⟨w1.heap.size, 0, none⟩) 0 0) 0 [] := World.ownsRow_made w1.drew #[] 0 (Nat.le_refl _) (by decide) rfl
    have HMD := hid hmade
    clear hmade
    go_region_law (first
      | (refine step_append_own (by rfl) (.tmp 59) (.tmp 60) 22 (by rfl) w1.heap.size 5 i5 _ 1 1 Try.underlying22 hi5 hy0 hy1 hy2 rfl (by decide) (.slice (some ⟨w1.heap.size, 0, none⟩) 0 0) 0 [] (by rfl) HMD.out ad n c (bc bs) (by rfl) (by simp [bc_length, hbn]) (HB.out.gr (((Gr.refl w1).drew).alloc _)).add (bc_one bs) (by unfold maxLen; omega) (by omega) (by simp) ?_
         intro v1 w2 hown1 hgr1 _
         obtain ⟨D1, n1, rfl⟩ : ∃ D1 n1, v1 = .slice D1 n n1 := by
           rcases hown1.2 with ⟨_, h0⟩ | ⟨g', cap, cur, rfl, _⟩
           · omega
           · exact ⟨_, _, by rw [Nat.zero_add]⟩
         have hw12 : Gr w1 w2 := gr_grown (((Gr.refl w1).drew).alloc (.cells #[] 5)) hgr1 (by intro k hk; simp [Value.ownBlock] at hk; omega)
         have HG12 := hid hw12
         have hr2 := (HR.out.gr hw12).rb.cell 3
         simp at hr2
         have hg2 : rg < w2.heap.size := Nat.lt_of_lt_of_le hg1 hw12.size
         have HO1 := hid hown1
         clear hown1 hgr1 hw12)
      | (refine step_append_lies _ (by rfl) _ _ _ (by rfl) base 77 i0 _ 2 32 Try.underlying57 hi0 hz0 hz1 hz2 rfl (by omega) pend P.length ys (by rfl) (own_gr HY1.out (HG12.out.alloc _)) ⟨w2.heap.size, 0, none⟩ 1 1 [.int .i64 i, .slice D1 n n1] (by rfl) (by rfl) (World.news_of_block (cs := #[.int .i64 i, .slice D1 n n1]) (t := 77) (fr := (0, 0)) (heap_alloc_new w2 _)) (by simp [Value.oneCell']) (by omega) (by unfold maxLen; omega) (by omega) (by have := HG12.out.size; simp; omega) _ rfl ?_
         intro gg cap w8 hown8 hgrow8 hat8 hlt8
         have HR2 := hid (HR.out.gr (HG12.out.alloc (.cells #[.int .i64 i, .slice D1 n n1] 77)))
         have HDB8 := hid (HR2.out.rb.grown hgrow8 (own_ne (own_gr HY1.out (HG12.out.alloc (.cells #[.int .i64 i, .slice D1 n n1] 77))) HR2.out.rb (by decide)))
         have k38 : w8.cell? ⟨rg, 3, none⟩ = some pend := by have := HDB8.out.cell 3; simpa using this
         have f38 : w8.frozen? ⟨rg, 3, none⟩ = false := HDB8.out.frozen 3
         have k78 : w8.cell? ⟨rg, 7, none⟩ = some (.int .i64 writes) := by have := HDB8.out.cell 7; simpa using this
         have f78 : w8.frozen? ⟨rg, 7, none⟩ = false := HDB8.out.frozen 7
         have HO8 := hid hown8
         have HG8 := hid hgrow8
         clear hown8 hgrow8))
    all_goals (
      go_wp2_with fail
      go_ret
      have hby : Byt (TR kb rkb) base w2 (.slice D1 n n1) bs := by
        have ho := HO1.out
        rw [Nat.zero_add, List.nil_append] at ho
        rcases ho.2 with ⟨_, h0⟩ | ⟨g', cap', cur, hv, hb', hh, _⟩
        · omega
        · injection hv with hv _ _
          subst hv
          have hne1 : (g' != kb) = true := by simp; omega
          have hne2 : (g' != rkb) = true := by simp; have := HR.out.klt; omega
          exact ⟨_, _, by rw [hbn], by omega, Rd.of_own ho, fun _ => ⟨g', 0, rfl, (Array.getElem?_eq_some_iff.1 hh).1, .inr ⟨cur, 5, (0, 0), hh, by unfold TR; rw [hne1, hne2]; rfl⟩⟩, fun e => by cases e⟩
      have G2 := (Gr.refl w2).alloc (.cells #[.int .i64 i, .slice D1 n n1] 77)
      have hp := HR2.out.push hi hbn (by omega) (own_gr HY1.out (HG12.out.alloc _)) (HY2.out.kp (HG12.out.alloc _).kp) (hby.kp G2.kp) HO8.out HG8.out
      have m5 := ((Gr.refl w8).mod (fun b => b = rg)).set (p := ⟨rg, 3, none⟩) (fun _ => rfl) (.slice (some ⟨gg, 0, none⟩) (P.length + 1) cap)
      have m6 := ((Gr.refl (w8.setCell ⟨rg, 3, none⟩ (.slice (some ⟨gg, 0, none⟩) (P.length + 1) cap))).mod (fun b => b = rg)).set (p := ⟨rg, 7, none⟩) (fun _ => rfl) (.int .i64 (writes + 1))
      have m56 := m5.trans m6 (fun _ _ h => h)
      have M8 : Mod (fun b => b = rg ∨ some b = pend.ownBlock) w1 _ := ((HG12.out.alloc (.cells #[.int .i64 i, .slice D1 n n1] 77)).mod _).trans (((mod_grown HG8.out).mono (S' := fun b => b = rg ∨ some b = pend.ownBlock) (fun _ _ h => .inr h)).trans m56 (fun _ _ h => .inl h)) (fun _ _ h => h)
      exact ⟨_, rfl, hp.upd m6 (hp.rb.set7 _), HM1.out.trans M8 (fun _ _ h => h)⟩)
end
end Go.Proofs.Ytkgmienjioplaaa
