import Derived.Test.YtkgmienjioplaaaD1
namespace Go.Proofs.Ytkgmienjioplaaa
open Go.RowKit Go.Ext Go.BigFrame
attribute [local go_sem] Ext.cell Ext.frozen Ext.lt Ext.le s1 s2 s3 s4 s5 s6 t1 t2 t3 t4 t5 t6
attribute [local go_sem ↓] Go.wp_at_zero Go.wp_at_succ

section
variable {base : Nat} {w w' : World} {g kb : Nat} {off : Bool} {armed : Int} {keep : Value} {S sz : Nat} {K : List UInt8} {P : List Ent} {pend : Value} {writes : Int} {n : Nat}

/-- A row's content is one. -/
theorem own_unique {B e size n : Nat} {v : Value} {xs ys : List Value} (h : w.ownsRow B e size v n xs) (k : w.ownsRow B e size v n ys) : xs = ys := by
  have h1 := h.1
  have k1 := k.1
  rcases h.2 with ⟨rfl, h0⟩ | ⟨g', cap, cur, rfl, _⟩
  · subst h0
    rw [Nat.zero_mul] at h1 k1
    rw [List.eq_nil_of_length_eq_zero h1, List.eq_nil_of_length_eq_zero k1]
  · apply List.ext_getElem (by omega)
    intro j h2 h3
    have e1 := h.cells (g := g') rfl j _ (List.getElem?_eq_getElem h2)
    have e2 := k.cells (g := g') rfl j _ (List.getElem?_eq_getElem h3)
    rw [e1] at e2
    injection e2

/-- A row of bytes of its own: where, and what is there. -/
theorem own_at {B : Nat} {v : Value} {bs : List UInt8} (h : w.ownsRow B 5 1 v bs.length (bc bs)) (h0 : 0 < bs.length) :
    ∃ q c, v = .slice (some ⟨q, 0, none⟩) bs.length c ∧ B ≤ q ∧ q < w.heap.size ∧ (∃ cur, w.heap[q]? = some (.cells cur 5 (0, 0))) ∧ (∀ j (x : UInt8), bs[j]? = some x → w.cell? ⟨q, j, none⟩ = some (.int .u8 (x.toNat : Int))) ∧ ∀ j, w.frozen? ⟨q, j, none⟩ = false := by
  rcases id h.2 with ⟨rfl, e⟩ | ⟨q, cap, cur, rfl, hb, hh, _⟩
  · omega
  · refine ⟨q, cap, rfl, hb, (Array.getElem?_eq_some_iff.1 hh).1, ⟨_, hh⟩, fun j x hx => ?_, fun j => by simp [World.frozen?, hh]⟩
    have := h.cells (g := q) rfl j (.int .u8 (x.toNat : Int)) (by unfold bc; rw [List.getElem?_map, hx]; rfl)
    have hadd : (⟨q, 0, none⟩ : Addr).add j = ⟨q, j, none⟩ := by unfold Addr.add; split <;> simp_all
    rwa [hadd] at this

/-- Another block has turned: the disk is as it was. -/
theorem DkAt.poke {q0 : Nat} (h : DkAt base w g kb off armed keep S sz K P pend writes) (m : Mod (fun b => b = q0) w w') (hq : q0 ≠ g) (hq2 : q0 ≠ kb) (hne : some q0 ≠ pend.ownBlock)
    (he : ∀ ys, w.ownsRow base 67 2 pend P.length ys → Ents kb base w ys P → Ents kb base w' ys P) : DkAt base w' g kb off armed keep S sz K P pend writes := by
  obtain ⟨ys, h1, h2⟩ := h.row
  exact ⟨(m.block g h.db.lt (Ne.symm hq)).trans h.db, (m.block kb (Array.getElem?_eq_some_iff.1 h.kept).1 (Ne.symm hq2)).trans h.kept, h.size, h.s1, h.s2, h.z1, h.z2, ⟨ys, own_mod h1 m (fun k hk e => hne (e ▸ hk.symm)), he ys h1 h2⟩, h.len, h.sect, h.ne, h.lg, h.lk⟩

/-- Bytes of another block stay. -/
theorem Byt.poke {kb q0 : Nat} {d : Value} {bs : List UInt8} (h : Byt (TK kb) base w d bs) (m : Mod (fun b => b = q0) w w') (hq : ∀ b off, (∃ n c, d = .slice (some ⟨b, off, none⟩) n c) → b ≠ q0) : Byt (TK kb) base w' d bs := by
  obtain ⟨A, c, rfl, hl, hr, hi, hn⟩ := h
  refine ⟨A, c, rfl, hl, hr.keep (fun b ⟨o, e⟩ hb => m.block b hb (hq b o ⟨_, _, by rw [e]⟩)), fun hb => ?_, hn⟩
  obtain ⟨b, o, rfl, him⟩ := hi hb
  refine ⟨b, o, rfl, Nat.lt_of_lt_of_le him.1 m.size, ?_⟩
  rcases him.2 with h1 | ⟨cs, t, fz, h1, h2⟩
  · exact .inl h1
  · exact .inr ⟨cs, t, fz, (m.block b him.1 (hq b o ⟨_, _, rfl⟩)).trans h1, h2⟩
end

theorem kp_less {T : Nat → TypeId → Bool} {b : Nat} {w w' : World} (h : Kp T b w w') : Kp (fun _ _ => false) b w w' := ⟨h.os, h.tape, h.output, h.size, fun k hk => h.block k ⟨hk.1, hk.2.elim .inl (fun ⟨_, _, _, _, e⟩ => by cases e)⟩⟩

def zat (i : Nat) (b : UInt8) : List UInt8 := (List.replicate 64 0).set i b
theorem zat_eq (i : Nat) (b : UInt8) : z64.set i (.int .u8 (b.toNat : Int)) = bc (zat i b) := bc_set _ i b
theorem zat_len (i : Nat) (b : UInt8) : (zat i b).length = 64 := by simp [zat]

set_option maxRecDepth 100000 in
set_option maxHeartbeats 4000000 in
theorem own_any (f t : UInt8) (w : World) : Calls Try.prog 4 #[.int .u8 (f.toNat : Int), .int .u8 (t.toNat : Int)] w (RetE (.bool true) w) := by
  refine retE ?_
  have mk := fun (w : World) => mk64 w
  have z0 := z64_at 3 (by omega)
  have KN := hid (known_any w)
  have N := fun (y : Ext w) => hid (show Calls Try.prog 9 #[.int .i64 2, .int .i64 64] y.val (RetNew w.heap.size 2 64 y.val) from new_dk w.heap.size 2 64 y.val y.gr.size (by omega) (by omega) (by omega) (by omega))
  have Z1 := hid (zat_eq 3 f)
  have zl := z64_len
  obtain ⟨z, hz⟩ : ∃ z, z64 = z := ⟨_, rfl⟩
  rw [hz] at mk z0 zl Z1
  clear hz
  have hf : (f.toNat : Int) < 256 := by have := f.toNat_lt; omega
  have ht : (t.toNat : Int) < 256 := by have := t.toNat_lt; omega
  obtain ⟨F, hF⟩ : ∃ F : Int, (f.toNat : Int) = F := ⟨_, rfl⟩
  obtain ⟨T, hT⟩ : ∃ T : Int, (t.toNat : Int) = T := ⟨_, rfl⟩
  have HF := hid hF
  have HT := hid hT
  rw [hF] at Z1 hf ⊢
  rw [hT] at ht ⊢
  have hF0 : 0 ≤ F := by omega
  have hT0 : 0 ≤ T := by omega
  clear hF hT
  go_enter Try.func4, Try.ntmps4
  go_wp2_with (first | (go_at_call 8; (with_reducible refine KN.out.mono ?_); rintro e _ ⟨rfl, y0, rfl⟩) | (go_at_call 9; (with_reducible refine (N y0).out.mono ?_); rintro e w1 ⟨g, kb, rfl, hd, hgr⟩; have HD := hid hd; have HG := hid hgr; clear hd hgr))
  have hkb := hid (show kb < w1.heap.size from (Array.getElem?_eq_some_iff.1 HD.out.kept).1)
  have hg1 := hid HD.out.db.lt
  obtain ⟨W1, hW1⟩ : ∃ W1, w1.alloc (Obj.cells (z.set 3 (Value.int IntKind.u8 F)).toArray 5) = W1 := ⟨_, rfl⟩
  have G1 := hid (show Gr w1 W1 from hW1 ▸ (Gr.refl _).alloc _)
  have q1 : W1.heap[w1.heap.size]? = some (Obj.cells (bc (zat 3 f)).toArray 5 (0, 0)) := by
    rw [← hW1, ← Z1.out]
    exact heap_alloc_new w1 _
  have B1 := hid (bts_block (base := w.heap.size) (kb := kb) (c := 64) q1 (by rw [zat_len]; omega) (by have := hkb.out; omega))
  rw [zat_len] at B1
  have Q1 := hid q1
  have hs1 : w1.heap.size < W1.heap.size := (Array.getElem?_eq_some_iff.1 q1).1
  rw [hW1]
  clear hW1 q1
  go_at_call 10
  refine (write_ok' 1 _ 64 64 (zat 3 f) (HD.out.gr G1.out) (by omega) (by omega) (Byt.bts B1.out) (zat_len _ _) rfl (by omega) (by omega) (by omega) (by simp) (by omega) (by omega)).mono ?_
  rintro e w2 ⟨p2, rfl, hd2, hk2, hm2, ys, q, c, ho, -, ho2, hq⟩
  have hys : ys = [] := List.eq_nil_of_length_eq_zero (by have := ho.1; simpa using this)
  subst hys
  have HD2 := hid hd2
  have HK2 := hid hk2
  have HO2 := hid ho2
  have hs2 := hk2.size
  have q2 : w2.heap[w1.heap.size]? = _ := (hm2.block w1.heap.size hs1 (by rintro (h | h); have := hg1.out; omega; simp [Value.ownBlock] at h)).trans Q1.out
  have b2 : w2.cell? ⟨w1.heap.size, 3, none⟩ = some (.int .u8 F) := by
    rw [cell_of_row w2 w1.heap.size 3 _ 5 (0, 0) q2, ← HF.out]
    simp [bc, zat]
  have f2 : w2.frozen? ⟨w1.heap.size, 3, none⟩ = false := by simp [World.frozen?, q2]
  have Q2 := hid q2
  clear hd2 hk2 hm2 ho ho2 q2
  go_wp2_with fail
  have M2 := ((Gr.refl w2).mod (fun b => b = w1.heap.size)).set (p := ⟨w1.heap.size, 3, none⟩) (fun _ => rfl) (.int .u8 (bits BinOp.xor IntKind.u8 F T))
  have hn2 := own_ne HO2.out Q2.out (by decide)
  have hd3 := HD2.out.poke M2 (by have := hg1.out; omega) (by have := hkb.out; omega) hn2 (fun ys h1 h2 => by
    have e := own_unique h1 HO2.out
    subst e
    refine ⟨h2.1, fun i hi => ⟨(h2.2 i hi).1, ?_⟩⟩
    obtain ⟨d, e1, e2⟩ := (h2.2 i hi).2
    refine ⟨d, e1, Byt.poke e2 M2 (fun b o ⟨n, c', e⟩ => ?_)⟩
    have hi0 : i = 0 := by simp at hi; omega
    subst hi0
    simp at e1
    rw [← e1] at e
    injection e with e _ _
    injection e with e
    injection e with e _
    omega)
  obtain ⟨W2, hW2⟩ : ∃ W2, w2.setCell ⟨w1.heap.size, 3, none⟩ (.int .u8 (bits BinOp.xor IntKind.u8 F T)) = W2 := ⟨_, rfl⟩
  rw [hW2] at hd3 M2 ⊢
  clear hW2
  have HD3 := hid hd3
  have HM2 := hid M2
  have hs3 := M2.size
  clear hd3 M2 hn2
  go_at_call 13
  refine (read_ok' 1 HD3.out (by omega) (by omega) (by have := HD3.out.lg; have := HD3.out.db.lt; omega)).mono ?_
  rintro e w3 ⟨x, rfl, hx, hox, hg3⟩
  have e4 : sector 64 (List.replicate (2 * 64) 0) ([] ++ [((1 : Int), zat 3 f)]) (1 : Int).toNat = zat 3 f := by rfl
  rw [e4] at hox
  obtain ⟨qx, cx, rfl, hqx, hqx2, ⟨curx, hcx⟩, hxc, fx⟩ := own_at hox (by rw [zat_len]; omega)
  have x3 : w3.cell? ⟨qx, 3, none⟩ = some (.int .u8 F) := by rw [← HF.out]; exact hxc 3 f (by simp [zat])
  have fx3 := fx 3
  have HG3 := hid hg3
  have hs4 := hg3.size
  rw [zat_len]
  clear hx hox hg3 e4 hxc fx
  go_wp2_with fail
  have hg4 := (HG3.out.set (p := ⟨qx, 3, none⟩) hqx (.int .u8 ((F + 1) % 256)))
  have HD4 := hid (HD3.out.gr hg4)
  have HG4 := hid hg4
  clear hg4 x3 fx3 hcx
  go_at_call 15
  refine (sync_on HD4.out).mono ?_
  rintro e w5 ⟨rfl, hd5, hm5⟩
  have e5 : (layF 64 (fun _ => true) (List.replicate (2 * 64) 0) ([] ++ [((1 : Int), zat 3 f)]) ([] ++ [((1 : Int), zat 3 f)]).length) = List.replicate 64 0 ++ zat 3 f := by rfl
  rw [e5] at hd5
  have HK5 := hid (HD4.out.kp_mod hm5)
  have HD5 := hid hd5
  clear hd5 hm5 e5
  go_wp2_with fail
  go_at_call 16
  refine (bytes_any HD5.out).mono ?_
  rintro e _ ⟨y, y6, rfl, rfl, -, hoy⟩
  obtain ⟨qy, cy, rfl, hqy, hqy2, -, hyc, fy⟩ := own_at hoy (by simp [zat])
  have yl : (List.replicate 64 0 ++ zat 3 f).length = 128 := by simp [zat]
  have y67 : y6.val.cell? ⟨qy, 67, none⟩ = some (.int .u8 F) := by rw [← HF.out]; exact hyc 67 f (by rw [List.getElem?_append_right (by simp)]; simp [zat])
  have fy67 := fy 67
  rw [yl]
  clear hoy hyc fy yl
  go_wp2_with fail
  have hg7 := ((Gr.refl w5).ext y6).set (p := ⟨qy, 67, none⟩) hqy (.int .u8 ((F + 1) % 256))
  have HD7 := hid (HD5.out.gr hg7)
  have HG7 := hid hg7
  clear hg7
  go_at_call 13
  refine (read_ok' 1 HD7.out (by omega) (by omega) (by have := HD7.out.lg; have := HD7.out.db.lt; omega)).mono ?_
  rintro e w8 ⟨v, rfl, hv, -, hg8⟩
  have e8 : sector 64 (List.replicate 64 0 ++ zat 3 f) [] (1 : Int).toNat = zat 3 f := by rfl
  rw [e8] at hv
  obtain ⟨bv, ov, cv, rfl, hvc⟩ := Byt.at_ hv (by simp [zat])
  have v3 : w8.cell? ⟨bv, ov + 3, none⟩ = some (.int .u8 F) := by rw [← HF.out]; exact hvc 3 f (by simp [zat])
  rw [zat_len]
  clear hv hvc e8
  go_wp2_with fail
  go_ret
  have ka := kp_less (((y0.gr.kp.trans HG.out.kp).trans G1.out.kp).trans HK2.out)
  have kc := kp_less (((HG4.out.kp.trans HK5.out).trans HG7.out.kp).trans hg8.kp)
  have kb' : Kp (fun _ _ => false) w.heap.size w2 W2 := HM2.out.kp (fun k e him => by
    rcases him.2 with h | ⟨_, _, _, _, h⟩
    · have h1 := y0.gr.size
      have h2 := HG.out.size
      omega
    · cases h)
  exact ⟨rfl, Kp.gr ((ka.trans kb').trans kc)⟩
end Go.Proofs.Ytkgmienjioplaaa
