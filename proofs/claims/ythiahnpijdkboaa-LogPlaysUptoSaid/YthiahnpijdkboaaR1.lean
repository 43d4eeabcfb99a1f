import Derived.Test.YthiahnpijdkboaaW8
namespace Go.Proofs.Ythiahnpijdkboaa
open Go.RowKit Go.Ext Go.BigFrame
attribute [local go_sem] Ext.cell Ext.frozen Ext.lt Ext.le s1 s2 s3 s4 s5 s6 t1 t2 t3 t4 t5 t6
attribute [local go_sem ↓] Go.wp_at_zero Go.wp_at_succ

theorem info68 : (Try.prog.info? 68).map (fun i => (i.zero, i.size, i.bytes)) = some (some (.agg #[.int .i64 0, .slice none 0 0]), 2, 32) := by kernel_rfl

/-- A slice of the call's own that reads as the document's entries. -/
def OwnR (base B : Nat) (w : World) (v : Value) (L : List Ent) : Prop := ∃ ys, w.ownsRow B 68 2 v L.length ys ∧ Ents base w ys L
theorem OwnR.gr {base B : Nat} {w w' : World} {v : Value} {L : List Ent} (h : OwnR base B w v L) (g : Gr w w') : OwnR base B w' v L := by
  obtain ⟨ys, h1, h2⟩ := h
  exact ⟨ys, own_gr h1 g, h2.kp g.kp⟩
theorem OwnR.shape {base B : Nat} {w : World} {v : Value} {L : List Ent} (h : OwnR base B w v L) : ∃ A c, v = .slice A L.length c ∧ Sl base w A L ∧ L.length ≤ c := by
  obtain ⟨ys, h1, h2⟩ := h
  rcases id h1.2 with ⟨rfl, h0⟩ | ⟨g, cap, cur, rfl, _, _, hc, _⟩
  · exact ⟨none, 0, by rw [h0], ⟨ys, Rd.of_own (c := 0) (by have := h1; rw [h0] at this; exact this), h2⟩, by omega⟩
  · exact ⟨_, _, rfl, ⟨ys, Rd.of_own h1, h2⟩, hc⟩
theorem own_stepR {base B k : Nat} {w1 w2 : World} {v v' d : Value} {L : List Ent} {ys : List Value} {e : Int} {bs : List UInt8} (hk : k < L.length) (hL : L.getD k (0, []) = (e, bs)) (hB : base ≤ B) (hown : w1.ownsRow B 68 2 v (L.take k).length ys) (he : Ents base w1 ys (L.take k))
    (hd : Byt TB base w1 d bs) (hown' : w2.ownsRow B 68 2 v' ((L.take k).length + 1) (ys ++ [.int .i64 e, d])) (hg : w1.grownBy w2 v.ownBlock) : OwnR base B w2 v' (L.take (k + 1)) := by
  have hkp : Kp TB base w1 w2 := Kp.grown (Kp.refl _ _ _) hg (own_not_imm hown hB rfl)
  refine ⟨ys ++ [.int .i64 e, d], ?_, ?_⟩
  · rw [take_snoc L k hk, List.length_append]
    exact hown'
  · rw [take_snoc L k hk, hL]
    exact ents_snoc (e := (e, bs)) (he.kp hkp) (hd.kp hkp)

set_option maxHeartbeats 3200000 in
theorem of_any (base : Nat) (A : Option Addr) (c : Nat) (L : List Ent) (w : World) (hs : Sl base w A L) (hl : L.length ≤ 4398046511103) (hbase : base ≤ w.heap.size) :
    Calls Try.prog 14 #[.slice A L.length c] w (RetP (fun w' v => OwnR base w.heap.size w' v L) w) := by
  obtain ⟨i0, hi0, hz0, hz1, hz2⟩ := info_parts info68
  have hs' := hid hs
  clear hs
  go_enter Try.func14, Try.ntmps14
  go_wp2_with fail
  go_loopw [3, 4] (fun v i wr => ∃ k : Nat, k ≤ L.length ∧ i = .int .i64 k ∧ Gr w wr ∧ OwnR base w.heap.size wr v (L.take k)) (fun _ i _ => L.length - (intOf i).toNat)
  case atStart => exact ⟨0, Nat.zero_le _, rfl, Gr.refl _, [], World.ownsRow_nil _ _ _ _, ents_nil _ _⟩
  case round =>
    obtain ⟨k, hk, rfl, hg, ys, hown, hents⟩ := hrel
    have HG := hid hg
    have HO := hid hown
    have HE := hid hents
    have hsz := hg.size
    clear hg hown hents
    by_cases hlt : k < L.length
    · obtain ⟨b, off, D, c', rfl, c1, c2, c3, c4⟩ := (hs'.out.gr HG.out).at_ hlt
      obtain ⟨⟨ek, dk⟩, he⟩ : ∃ e, L.getD k (0, []) = e := ⟨_, rfl⟩
      rw [he] at c1 c2 c3
      simp only at c1 c2 c3
      have HB := hid c3
      have HL := hid he
      clear c3 he
      have htl : (L.take k).length = k := by simp; omega
      have HK := hid (show wr.ownsRow w.heap.size 68 2 u3 k ys by have := HO.out; rwa [htl] at this)
      have HT := hid htl
      clear htl
      go_wp2_with fail
      go_region_law
        (first
          | (refine step_append_lies _ (by rfl) _ _ _ (by rfl) w.heap.size 68 i0 _ 2 32 Try.underlying37 hi0 hz0 hz1 hz2 rfl (by omega) u3 k ys (by rfl) (own_gr HK.out (((Gr.refl wr).drew).alloc _)) ⟨wr.drew.heap.size, 0, none⟩ 1 1 [.int .i64 ek, .slice D dk.length c'] (by rfl) (by rfl) (World.news_of_block (cs := #[.int .i64 ek, .slice D dk.length c']) (t := 68) (fr := (0, 0)) (heap_alloc_new wr.drew _)) (by simp [Value.oneCell']) (by omega) (by unfold maxLen; omega) (by omega) (Nat.le_trans hsz (by simp)) _ rfl ?_
             intro gg cap w1 hown1 hgrow hat hlt1))
      all_goals (
        go_wp2_with fail
        have G1 : Gr wr (wr.drew.alloc (.cells #[.int .i64 ek, .slice D dk.length c'] 68)) := ((Gr.refl wr).drew).alloc _
        go_roundw
        case rel => exact ⟨k + 1, by omega, by go_num, gr_grown (HG.out.trans G1) hgrow (fun r hr => (HO.out.lt r hr).1), own_stepR hlt HL.out hbase (own_gr HO.out G1) (HE.out.kp G1.kp) (HB.out.kp G1.kp) (by rw [HT.out]; exact hown1) hgrow⟩
        case measure => simp [intOf]; omega)
    · have : k = L.length := by omega
      subst this
      have htl := hid (List.take_length (l := L))
      go_wp2_with fail
      go_ret
      exact ⟨_, ⟨wr, HG.out⟩, rfl, rfl, ys, by have := HO.out; rwa [htl.out] at this, by have := HE.out; rwa [htl.out] at this⟩
end Go.Proofs.Ythiahnpijdkboaa
