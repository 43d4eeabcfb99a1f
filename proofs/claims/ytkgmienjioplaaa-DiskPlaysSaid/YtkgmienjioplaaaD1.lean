import Derived.Test.YtkgmienjioplaaaB3
namespace Go.Proofs.Ytkgmienjioplaaa
open Go.RowKit Go.Ext Go.BigFrame
attribute [local go_sem] Ext.cell Ext.frozen Ext.lt Ext.le s1 s2 s3 s4 s5 s6 t1 t2 t3 t4 t5 t6
attribute [local go_sem ↓] Go.wp_at_zero Go.wp_at_succ

/-- A new disk. -/
def RetNew (base S sz : Nat) (w : World) (e : Ending) (w' : World) : Prop :=
  ∃ g kb, e = .returned (.tuple #[.pointer (some ⟨g, 0, none⟩), .int .i64 0]) ∧ DkAt base w' g kb false 0 (.slice none 0 0) S sz (List.replicate (S * sz) 0) [] (.slice none 0 0) 0 ∧ Gr w w'
theorem new_dk (base S sz : Nat) (w : World) (hb : base ≤ w.heap.size) (h1 : 1 ≤ S) (h2 : S ≤ 16384) (h3 : 64 ≤ sz) (h4 : sz ≤ 1024) :
    Calls Try.prog 9 #[.int .i64 S, .int .i64 sz] w (RetNew base S sz w) :=
  (new_ok S sz w h1 h2 h3 h4).mono fun _ w' ⟨g, kb, he, hd, hk, hg1, hk1, hne, hgr⟩ =>
    ⟨g, kb, he, ⟨hd, hk, by simp, h1, h2, h3, h4, ⟨[], World.ownsRow_nil _ _ _ _, ents_nil _ _ _⟩, by simp, fun j hj => absurd hj (by simp), hne, Nat.le_trans hb hg1, Nat.le_trans hb hk1⟩, hgr⟩

/-- A new sector's bytes, all zero. -/
def z64 : List Value := bc (List.replicate 64 0)
theorem mk64 (w : World) : (Instr.makeSlice 22 (.int .i64 64) (.int .i64 64)).run Try.prog w = .ok (.slice (some ⟨w.heap.size, 0, none⟩) 64 64) (w.alloc (.cells z64.toArray 5)) := mk_any w 64 (by omega)
theorem z64_at (i : Nat) (hi : i < 64) : z64[i]? = some (.int .u8 0) := by
  unfold z64 bc
  rw [List.map_replicate, List.getElem?_replicate, if_pos hi]
  rfl
theorem z64_len : z64.length = 64 := by simp [z64, bc]
theorem bc_set (bs : List UInt8) (i : Nat) (b : UInt8) : (bc bs).set i (.int .u8 (b.toNat : Int)) = bc (bs.set i b) := by simp [bc]

/-- A block of bytes of its own. -/
theorem bts_block {base kb q c : Nat} {W : World} {bs : List UInt8} (h : W.heap[q]? = some (.cells (bc bs).toArray 5 (0, 0))) (hl : bs.length ≤ 140737488351232) (hq : q ≠ kb) : Byt (TK kb) base W (.slice (some ⟨q, 0, none⟩) bs.length c) bs := by
  refine ⟨_, c, rfl, hl, fun _ => ⟨q, 0, rfl, fun j u hu => ?_⟩, fun _ => ⟨q, 0, rfl, (Array.getElem?_eq_some_iff.1 h).1, .inr ⟨_, 5, _, h, ?_⟩⟩, fun e => by cases e⟩
  · rw [Nat.zero_add, cell_of_row W q j _ 5 (0, 0) h]
    simpa using hu
  · have : (q != kb) = true := by simpa using hq
    unfold TK
    rw [this]
    rfl

section
variable {base : Nat} {w w' : World} {g kb : Nat} {off : Bool} {armed : Int} {keep : Value} {S sz : Nat} {K : List UInt8} {P : List Ent} {pend : Value} {writes : Int} {n : Nat}
theorem write_ok' (i : Int) (A : Option Addr) (c n : Nat) (bs : List UInt8) (h : DkAt base w g kb false armed keep S sz K P pend writes) (hi0 : 0 ≤ i) (hi : i < S) (hb : Bts w (.slice A n c) bs) (hn : bs.length = n) (hbs : n = sz) (ha : 0 ≤ armed) (ha2 : armed ≤ 9223372036854775807) (ha1 : armed ≠ 1)
    (hl : P.length < 4398046511000) (hw0 : 0 ≤ writes) (hw : writes ≤ 4611686018427387904) :
    Calls Try.prog 10 #[.pointer (some ⟨g, 0, none⟩), .int .i64 i, .slice A n c] w (RetW base g kb (less armed) keep S sz K P pend (i, bs) (writes + 1) w) := by
  obtain ⟨k, rfl⟩ : ∃ k : Nat, i = k := ⟨i.toNat, by omega⟩
  subst hn
  exact write_ok k A c bs h (by omega) hb hbs ha ha2 ha1 hl hw0 hw
theorem read_ok' (i : Int) (h : DkAt base w g kb false armed keep S sz K P pend writes) (hi0 : 0 ≤ i) (hi : i < S) (hbase : base ≤ w.heap.size) :
    Calls Try.prog 13 #[.pointer (some ⟨g, 0, none⟩), .int .i64 i] w (fun e w' => ∃ v, e = .returned (.tuple #[v, .int .i64 0]) ∧ Byt (TK kb) base w' v (sector sz K P i.toNat) ∧ w'.ownsRow w.heap.size 5 1 v (sector sz K P i.toNat).length (bc (sector sz K P i.toNat)) ∧ Gr w w') := by
  obtain ⟨k, rfl⟩ : ∃ k : Nat, i = k := ⟨i.toNat, by omega⟩
  exact read_ok k h (by omega) hbase
theorem DkAt.kp_mod (h : DkAt base w g kb off armed keep S sz K P pend writes) (m : Mod (fun b => b = kb ∨ b = g) w w') : Kp (TK kb) base w w' := m.kp (by
  have hg : w.heap[g]? = _ := h.db
  have hk : w.heap[kb]? = _ := h.kept
  rintro k (rfl | rfl) ⟨_, h1 | ⟨cs', t, fz, h1, h2⟩⟩
  · have := h.lk
    omega
  · rw [hk] at h1
    injection h1 with h1
    injection h1 with _ ht _
    subst ht
    unfold TK at h2
    simp at h2
  · have := h.lg
    omega
  · rw [hg] at h1
    injection h1 with h1
    injection h1 with _ ht _
    subst ht
    cases h2)
/-- A byte of what can be read. -/
theorem Byt.at_ {T : Nat → TypeId → Bool} {v : Value} {bs : List UInt8} (h : Byt T base w v bs) (hb : bs ≠ []) : ∃ b off c, v = .slice (some ⟨b, off, none⟩) bs.length c ∧ ∀ j (x : UInt8), bs[j]? = some x → w.cell? ⟨b, off + j, none⟩ = some (.int .u8 (x.toNat : Int)) := by
  obtain ⟨A, c, rfl, hl, hr, hi, hn⟩ := h
  obtain ⟨b, o, rfl, hc⟩ := hr (by unfold bc; simpa using hb)
  exact ⟨b, o, c, rfl, fun j x hx => hc j _ (by unfold bc; rw [List.getElem?_map, hx]; rfl)⟩
end

def za (b : UInt8) : List UInt8 := (List.replicate 64 0).set 0 b
theorem za_eq (b : UInt8) : z64.set 0 (.int .u8 (b.toNat : Int)) = bc (za b) := bc_set _ 0 b
theorem za_len (b : UInt8) : (za b).length = 64 := by simp [za]

set_option maxRecDepth 100000 in
set_option maxHeartbeats 4000000 in
theorem known_any (w : World) : Calls Try.prog 8 #[] w (RetE (.bool true) w) := by
  refine retE ?_
  have mk := fun (w : World) => mk64 w
  have z0 := z64_at 0 (by omega)
  have N := hid (show Calls Try.prog 9 #[.int .i64 2, .int .i64 64] w (RetNew w.heap.size 2 64 w) from new_dk w.heap.size 2 64 w (Nat.le_refl _) (by omega) (by omega) (by omega) (by omega))
  have Z1 := hid (za_eq 1)
  have Z2 := hid (za_eq 2)
  have zl := z64_len
  obtain ⟨z, hz⟩ : ∃ z, z64 = z := ⟨_, rfl⟩
  rw [hz] at mk z0 zl Z1 Z2
  clear hz
  go_enter Try.func8, Try.ntmps8
  go_wp2_with (go_at_call 9; (with_reducible refine N.out.mono ?_); rintro e w1 ⟨g, kb, rfl, hd, hgr⟩; have HD := hid hd; have HG := hid hgr; clear hd hgr)
  have hkb := hid (show kb < w1.heap.size from (Array.getElem?_eq_some_iff.1 HD.out.kept).1)
  obtain ⟨W1, hW1⟩ : ∃ W1, (w1.alloc (Obj.cells (z.set 0 (Value.int IntKind.u8 1)).toArray 5)).alloc (Obj.cells (z.set 0 (Value.int IntKind.u8 2)).toArray 5) = W1 := ⟨_, rfl⟩
  have G1 := hid (show Gr w1 W1 from hW1 ▸ ((Gr.refl _).alloc _).alloc _)
  have q1 : W1.heap[w1.heap.size]? = some (Obj.cells (bc (za 1)).toArray 5 (0, 0)) := by
    rw [← hW1, ← Z1.out]
    exact (((Gr.refl (w1.alloc _)).alloc _).block _ (by simp)).trans (heap_alloc_new w1 _)
  have q2 : W1.heap[w1.heap.size + 1]? = some (Obj.cells (bc (za 2)).toArray 5 (0, 0)) := by
    rw [← hW1, ← Z2.out]
    have := heap_alloc_new (w1.alloc (Obj.cells (z.set 0 (Value.int IntKind.u8 1)).toArray 5)) (Obj.cells (z.set 0 (Value.int IntKind.u8 2)).toArray 5)
    rwa [World.size_alloc] at this
  have B1 := hid (bts_block (base := w.heap.size) (kb := kb) (c := 64) q1 (by rw [za_len]; omega) (by have := hkb.out; omega))
  have B2 := hid (bts_block (base := w.heap.size) (kb := kb) (c := 64) q2 (by rw [za_len]; omega) (by have := hkb.out; omega))
  rw [za_len] at B1 B2
  have hs1 := G1.out.size
  rw [hW1]
  clear hW1 q1 q2
  go_at_call 10
  refine (write_ok' 0 _ 64 64 (za 1) (HD.out.gr G1.out) (by omega) (by omega) (Byt.bts B1.out) (za_len _) rfl (by omega) (by omega) (by omega) (by simp) (by omega) (by omega)).mono ?_
  rintro e w2 ⟨p2, rfl, hd2, hk2, -, -⟩
  have HD2 := hid hd2
  have HK2 := hid hk2
  have hs2 := hk2.size
  clear hd2 hk2
  go_wp2_with fail
  go_at_call 10
  refine (write_ok' 0 _ 64 64 (za 2) HD2.out (by omega) (by omega) (Byt.bts (Byt.kp B2.out HK2.out)) (za_len _) rfl (by decide) (by decide) (by decide) (by simp) (by omega) (by omega)).mono ?_
  rintro e w3 ⟨p3, rfl, hd3, hk3, -, -⟩
  have HD3 := hid hd3
  have HK3 := hid hk3
  have hs3 := hk3.size
  clear hd3 hk3
  go_wp2_with fail
  go_at_call 13
  refine (read_ok' 0 HD3.out (by omega) (by omega) (by have := HG.out.size; omega)).mono ?_
  rintro e w4 ⟨x, rfl, hx, -, hg4⟩
  have e4 : sector 64 (List.replicate (2 * 64) 0) ([] ++ [((0 : Int), za 1)] ++ [(0, za 2)]) (0 : Int).toNat = za 2 := by rfl
  rw [e4] at hx
  have HX := hid hx
  have HD4 := hid (HD3.out.gr hg4)
  have HG4 := hid hg4
  clear hx hg4 e4
  go_wp2_with fail
  have HB4 := hid (show Bls (w4.alloc (Obj.cells #[Value.bool true] 4)) (some ⟨w4.heap.size, 0, none⟩) [true] from fun _ => ⟨_, 0, rfl, fun j u hu => by rw [Nat.zero_add, cell_of_row _ w4.heap.size j _ 4 (0, 0) (heap_alloc_new w4 _)]; simpa using hu⟩)
  have hkb4 := hid (show kb < w4.heap.size from (Array.getElem?_eq_some_iff.1 HD4.out.kept).1)
  go_at_call 11
  refine (cut_any (some ⟨w4.heap.size, 0, none⟩) 1 [true] (HD4.out.gr ((Gr.refl _).alloc _)) HB4.out (fun _ b o e => by injection e with e; injection e with e _; have := hkb4.out; omega)).mono ?_
  rintro e w5 ⟨rfl, hd5, hm5⟩
  have hk5 := ((Gr.refl w4).alloc (Obj.cells #[Value.bool true] 4)).kp.trans ((HD4.out.gr ((Gr.refl _).alloc _)).kp_mod hm5)
  have e5 : sector 64 (layF 64 (fun j => [true].getD j false) (List.replicate (2 * 64) 0) ([] ++ [((0 : Int), za 1)] ++ [(0, za 2)]) ([] ++ [((0 : Int), za 1)] ++ [(0, za 2)]).length) [] (0 : Int).toNat = za 1 := by rfl
  generalize layF 64 (fun j => [true].getD j false) (List.replicate (2 * 64) 0) ([] ++ [((0 : Int), za 1)] ++ [(0, za 2)]) ([] ++ [((0 : Int), za 1)] ++ [(0, za 2)]).length = K5 at *
  have HD5 := hid hd5
  have HK5 := hid hk5
  have E5 := hid e5
  have hs5 := hk5.size
  clear hd5 hm5 hk5 e5
  go_wp2_with fail
  go_at_call 13
  refine (show Calls Try.prog 13 #[.pointer (some ⟨g, 0, none⟩), .int .i64 0] w5 (RetE (.tuple #[.slice none 0 0, .int .i64 5]) w5) from read_bad 0 HD5.out (by decide)).mono ?_
  rintro e _ ⟨rfl, y6, rfl⟩
  have HD6 := hid (HD5.out.gr y6.gr)
  go_wp2_with fail
  go_at_call 12
  refine (on_dk HD6.out).mono ?_
  rintro e w7 ⟨rfl, hd7, hk7⟩
  have HD7 := hid hd7
  have HK7 := hid hk7
  clear hd7 hk7
  go_wp2_with fail
  go_at_call 13
  refine (read_ok' 0 HD7.out (by omega) (by omega) (by have := HD7.out.lg; have := HD7.out.db.lt; omega)).mono ?_
  rintro e w8 ⟨y, rfl, hy, -, hg8⟩
  rw [E5.out] at hy
  have hx8 := (((HX.out.kp HK5.out).kp y6.gr.kp).kp HK7.out).kp hg8.kp
  obtain ⟨bx, ox, cx, rfl, hx1⟩ := Byt.at_ hx8 (by decide)
  obtain ⟨by', oy, cy, rfl, hy1⟩ := Byt.at_ hy (by decide)
  have x0 : w8.cell? ⟨bx, ox, none⟩ = some (.int .u8 2) := hx1 0 2 rfl
  have y0 : w8.cell? ⟨by', oy, none⟩ = some (.int .u8 1) := hy1 0 1 rfl
  clear hx8 hx1 hy hy1
  rw [za_len, za_len]
  go_wp2_with fail
  go_ret
  exact ⟨rfl, Kp.gr ((((((((HG.out.kp.trans G1.out.kp).trans HK2.out).trans HK3.out).trans HG4.out.kp).trans HK5.out).trans y6.gr.kp).trans HK7.out).trans hg8.kp)⟩
end Go.Proofs.Ytkgmienjioplaaa
