import Derived.Test.YthiahnpijdkboaaW1
namespace Go.Proofs.Ythiahnpijdkboaa
open Go.RowKit Go.Ext Go.BigFrame
attribute [local go_sem] Ext.cell Ext.frozen Ext.lt Ext.le s1 s2 s3 s4 s5 s6 t1 t2 t3 t4 t5 t6
attribute [local go_sem ↓] Go.wp_at_zero Go.wp_at_succ

theorem info46 : (Try.prog.info? 46).map (fun i => (i.zero, i.size, i.bytes)) = some (some (.agg #[.int .i64 0, .slice none 0 0]), 2, 32) := by kernel_rfl

theorem own_gr {w w' : World} {B e size n : Nat} {v : Value} {xs : List Value} (h : w.ownsRow B e size v n xs) (g : Gr w w') : w'.ownsRow B e size v n xs := by
  refine ⟨h.1, ?_⟩
  rcases h.2 with h2 | ⟨g', cap, cur, hv, hb, hh, r⟩
  · exact .inl h2
  · exact .inr ⟨g', cap, cur, hv, hb, (g.block g' (Array.getElem?_eq_some_iff.1 hh).1).trans hh, r⟩
theorem own_not_imm {w : World} {T : TypeId → Bool} {base B e size n : Nat} {v : Value} {xs : List Value} (h : w.ownsRow B e size v n xs) (hB : base ≤ B) (he : T e = false) : ∀ k, v.ownBlock = some k → ¬ Imm T base w k := by
  intro k hk hi
  rcases h.2 with ⟨rfl, _⟩ | ⟨g, cap, cur, rfl, hb, hh, _⟩
  · simp [Value.ownBlock] at hk
  · simp [Value.ownBlock] at hk
    subst hk
    rcases hi.2 with h1 | ⟨cs, t, fz, h1, h2⟩
    · omega
    · rw [hh] at h1
      injection h1 with h1
      injection h1 with _ ht
      rw [← ht, he] at h2
      cases h2

theorem ents_nil (base : Nat) (w : World) : Ents base w [] [] := ⟨rfl, fun i hi => absurd hi (by simp)⟩
theorem ents_snoc {base : Nat} {w : World} {xs : List Value} {L : List Ent} {d : Value} {e : Ent} (h : Ents base w xs L) (hd : Byt TB base w d e.2) : Ents base w (xs ++ [.int .i64 e.1, d]) (L ++ [e]) := by
  refine ⟨by simp [h.1]; omega, fun i hi => ?_⟩
  have hx := h.1
  rw [List.length_append, List.length_singleton] at hi
  by_cases hlt : i < L.length
  · obtain ⟨e1, d', e2, e3⟩ := h.2 i hlt
    have g : (L ++ [e]).getD i (0, []) = L.getD i (0, []) := by simp [List.getD, List.getElem?_append_left hlt]
    rw [g]
    exact ⟨by rw [List.getElem?_append_left (by omega)]; exact e1, d', by rw [List.getElem?_append_left (by omega)]; exact e2, e3⟩
  · have hi' : i = L.length := by omega
    subst hi'
    have g : (L ++ [e]).getD L.length (0, []) = e := by simp [List.getD]
    rw [g]
    refine ⟨?_, d, ?_, hd⟩
    · rw [List.getElem?_append_right (by omega), hx]; simp
    · rw [List.getElem?_append_right (by omega), hx]; simp

/-- A slice of the call's own that reads as entries. -/
def OwnE (base B : Nat) (w : World) (v : Value) (L : List Ent) : Prop := ∃ ys, w.ownsRow B 46 2 v L.length ys ∧ Ents base w ys L
theorem OwnE.gr {base B : Nat} {w w' : World} {v : Value} {L : List Ent} (h : OwnE base B w v L) (g : Gr w w') : OwnE base B w' v L := by
  obtain ⟨ys, h1, h2⟩ := h
  exact ⟨ys, own_gr h1 g, h2.kp g.kp⟩
theorem take_snoc (L : List Ent) (k : Nat) (hk : k < L.length) : L.take (k + 1) = L.take k ++ [L.getD k (0, [])] := by
  rw [List.take_succ_eq_append_getElem hk]
  simp [List.getD, hk]
/-- One more entry has been appended. -/
theorem own_step {base B k : Nat} {w1 w2 : World} {v v' d : Value} {L : List Ent} {ys : List Value} {e : Int} {bs : List UInt8} (hk : k < L.length) (hL : L.getD k (0, []) = (e, bs)) (hB : base ≤ B) (hown : w1.ownsRow B 46 2 v (L.take k).length ys) (he : Ents base w1 ys (L.take k))
    (hd : Byt TB base w1 d bs) (hown' : w2.ownsRow B 46 2 v' ((L.take k).length + 1) (ys ++ [.int .i64 e, d])) (hg : w1.grownBy w2 v.ownBlock) : OwnE base B w2 v' (L.take (k + 1)) := by
  have hkp : Kp TB base w1 w2 := Kp.grown (Kp.refl _ _ _) hg (own_not_imm hown hB rfl)
  refine ⟨ys ++ [.int .i64 e, d], ?_, ?_⟩
  · rw [take_snoc L k hk, List.length_append]
    exact hown'
  · rw [take_snoc L k hk, hL]
    exact ents_snoc (e := (e, bs)) (he.kp hkp) (hd.kp hkp)

set_option maxRecDepth 100000 in
set_option maxHeartbeats 3200000 in
theorem twins_any (base : Nat) (A : Option Addr) (c : Nat) (L : List Ent) (w : World) (hs : Sl base w A L) (hl : L.length ≤ 4398046511103) (hbase : base ≤ w.heap.size) :
    Calls Try.prog 28 #[.slice A L.length c] w (RetP (fun w' v => OwnE base w.heap.size w' v L) w) := by
  obtain ⟨i0, hi0, hz0, hz1, hz2⟩ := info_parts info46
  have hs' := hid hs
  clear hs
  go_enter Try.func28, Try.ntmps28
  go_wp2_with fail
  go_loopw [3, 5, 8] (fun v _ i wr => ∃ k : Nat, k ≤ L.length ∧ i = .int .i64 k ∧ Gr w wr ∧ OwnE base w.heap.size wr v (L.take k)) (fun _ _ i _ => L.length - (intOf i).toNat)
  case atStart => exact ⟨0, Nat.zero_le _, rfl, Gr.refl _, [], World.ownsRow_nil _ _ _ _, ents_nil _ _⟩
  case round =>
    obtain ⟨k, hk, rfl, hg, ys, hown, hents⟩ := hrel
    have HG := hid hg
    have HO := hid hown
    have HE := hid hents
    have hsz := hg.size
    clear hg hown hents
    by_cases hlt : k < L.length
    · obtain ⟨b, off, D, c', rfl, c1, c2, c3, c4⟩ := (hs'.out.gr HG.out).at_ hlt
      obtain ⟨⟨ek, dk⟩, he⟩ : ∃ e, L.getD k (0, []) = e := ⟨_, rfl⟩
      rw [he] at c1 c2 c3
      simp only at c1 c2 c3
      have HB := hid c3
      have HL := hid he
      clear c3 he
      have htl : (L.take k).length = k := by simp; omega
      have HK := hid (show wr.ownsRow w.heap.size 46 2 u3 k ys by have := HO.out; rwa [htl] at this)
      have HT := hid htl
      clear htl
      go_wp2_with fail
      have hE0 : wr.heap.size < wr.heap.size + 1 := by omega
      have hne : u3.ownBlock ≠ some wr.heap.size := fun e => by have := (HO.out.lt _ e).2; omega
      go_region_held3 (fun w' => w'.cell? ⟨wr.heap.size, 0, none⟩ = some (.int .i64 ek) ∧ w'.cell? ⟨wr.heap.size, 1, none⟩ = some (.slice D dk.length c')) (first | go_keep | (refine ⟨?_, ?_⟩ <;> go_simp; done) | (refine ⟨?_, ?_⟩ <;> (rw [hgrow.cell_far _ (by have := y1.gr.size; simp at this ⊢; omega) (Ne.symm hne)]; go_simp)))
        (first
          | (refine step_append_lies _ (by rfl) _ _ _ (by rfl) w.heap.size 46 i0 _ 2 32 Try.underlying22 hi0 hz0 hz1 hz2 rfl (by omega) u3 k ys (by rfl) (own_gr HK.out (((((Gr.refl wr).alloc _).drew).ext y1).alloc _)) ⟨y1.val.heap.size, 0, none⟩ 1 1 [.int .i64 ek, .slice D1 dk.length n1] (by rfl) (by rfl) (World.news_of_block (cs := #[.int .i64 ek, .slice D1 dk.length n1]) (t := 46) (fr := (0, 0)) (heap_alloc_new y1.val _)) (by simp [Value.oneCell']) (by omega) (by unfold maxLen; omega) (by omega) (by have := y1.gr.size; simp at this ⊢; omega) (y1.val.heap.size + 1) (by simp) ?_
             intro gg cap w1 hown1 hgrow hat hlt1)
          | (go_at_call 40
             refine (clone_any base _ dk _ (HB.out.kp (Kp.drew (Kp.alloc (Kp.refl _ _ _) _)))).mono ?_
             rintro e _ ⟨dv, y1, rfl, rfl, hby⟩
             obtain ⟨D1, n1, rfl, hb1⟩ := id hby))
      go_wp2_with fail
      have G1 : Gr wr (y1.val.alloc (.cells #[.int .i64 ek, .slice D1 dk.length n1] 46)) := ((((Gr.refl wr).alloc _).drew).ext y1).alloc _
      go_roundw
      case rel => exact ⟨k + 1, by omega, by go_num, gr_grown (HG.out.trans G1) hgrow (fun r hr => (HO.out.lt r hr).1), own_step hlt HL.out hbase (own_gr HO.out G1) (HE.out.kp G1.kp) (hby.kp (Kp.alloc (Kp.refl _ _ _) _)) (by rw [HT.out]; exact hown1) hgrow⟩
      case measure => simp [intOf]; omega
    · have : k = L.length := by omega
      subst this
      have htl := hid (List.take_length (l := L))
      go_wp2_with fail
      go_ret
      exact ⟨_, ⟨wr, HG.out⟩, rfl, rfl, ys, by have := HO.out; rwa [htl.out] at this, by have := HE.out; rwa [htl.out] at this⟩
end Go.Proofs.Ythiahnpijdkboaa
