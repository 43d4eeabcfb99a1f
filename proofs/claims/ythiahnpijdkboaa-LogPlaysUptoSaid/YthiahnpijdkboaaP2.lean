import Derived.Test.YthiahnpijdkboaaP1
import Derived.Test.YthiahnpijdkboaaG
namespace Go.Proofs.Ythiahnpijdkboaa
open Go.RowKit Go.Ext Go.BigFrame
attribute [local go_sem] Ext.cell Ext.frozen Ext.lt Ext.le s1 s2 s3 s4 s5 s6 t1 t2 t3 t4 t5 t6
attribute [local go_sem ↓] Go.wp_at_zero Go.wp_at_succ

theorem own_snocR {base B : Nat} {w1 w2 : World} {v v' d : Value} {X : List Ent} {ys : List Value} {e : Int} {bs : List UInt8} (hB : base ≤ B) (hown : w1.ownsRow B 68 2 v X.length ys) (he : Ents base w1 ys X)
    (hd : Byt TB base w1 d bs) (hown' : w2.ownsRow B 68 2 v' (X.length + 1) (ys ++ [.int .i64 e, d])) (hg : w1.grownBy w2 v.ownBlock) : OwnR base B w2 v' (X ++ [(e, bs)]) := by
  have hkp : Kp TB base w1 w2 := Kp.grown (Kp.refl _ _ _) hg (own_not_imm hown hB rfl)
  refine ⟨ys ++ [.int .i64 e, d], ?_, ?_⟩
  · rw [List.length_append]; exact hown'
  · exact ents_snoc (e := (e, bs)) (he.kp hkp) (hd.kp hkp)

/-- What Get has gathered ahead of a place. -/
def getK (idx : Int) (L : List Ent) (a b : Int) (k : Nat) : List Ent :=
  (L.take (min k (min b (idx + 1 + L.length) - (idx + 1)).toNat)).drop (max a (idx + 1) - (idx + 1)).toNat
theorem getK_zero (idx : Int) (L : List Ent) (a b : Int) : getK idx L a b 0 = [] := by simp [getK]
theorem getK_all (idx : Int) (L : List Ent) (a b : Int) : getK idx L a b L.length = getL idx L a b := by
  unfold getK getL
  rw [show min L.length (min b (idx + 1 + (L.length : Int)) - (idx + 1)).toNat = (min b (idx + 1 + (L.length : Int)) - (idx + 1)).toNat by omega]
theorem getK_len (idx : Int) (L : List Ent) (a b : Int) (k : Nat) : (getK idx L a b k).length ≤ L.length := by
  unfold getK; rw [List.length_drop, List.length_take]; omega
theorem getK_no (idx : Int) (L : List Ent) (a b : Int) (k : Nat) (hk : k < L.length) (h : ¬ (a ≤ idx + 1 + k ∧ idx + 1 + k < b)) : getK idx L a b (k + 1) = getK idx L a b k := by
  unfold getK
  by_cases h1 : idx + 1 + (k : Int) < b
  · have h2 : idx + 1 + (k : Int) < a := by omega
    rw [List.drop_eq_nil_of_le (by rw [List.length_take]; omega), List.drop_eq_nil_of_le (by rw [List.length_take]; omega)]
  · rw [show min (k + 1) (min b (idx + 1 + (L.length : Int)) - (idx + 1)).toNat = min k (min b (idx + 1 + (L.length : Int)) - (idx + 1)).toNat by omega]
theorem getK_yes (idx : Int) (L : List Ent) (a b : Int) (k : Nat) (hk : k < L.length) (h1 : a ≤ idx + 1 + k) (h2 : idx + 1 + k < b) : getK idx L a b (k + 1) = getK idx L a b k ++ [L.getD k (0, [])] := by
  unfold getK
  rw [show min (k + 1) (min b (idx + 1 + (L.length : Int)) - (idx + 1)).toNat = k + 1 by omega, show min k (min b (idx + 1 + (L.length : Int)) - (idx + 1)).toNat = k by omega, take_snoc L k hk, List.drop_append_of_le_length (by rw [List.length_take]; omega)]

set_option maxHeartbeats 3200000 in
theorem getR_any (base g : Nat) (idx term a b : Int) (L : List Ent) (v : Value) (w : World) (h : RefAt base w g idx term L v) (hbase : base ≤ w.heap.size) :
    Calls Try.prog 44 #[.pointer (some ⟨g, 0, none⟩), .int .i64 a, .int .i64 b] w (RetP (fun w' v => OwnR base w.heap.size w' v (getL idx L a b)) w) := by
  obtain ⟨i0, hi0, hz0, hz1, hz2⟩ := info_parts info68
  obtain ⟨A, c, rfl, hs, hlc⟩ := h.row.shape
  have b0 := h.i0
  have b1 := h.i1
  have hl := h.len
  have hlt0 := h.lt
  have hs' := hid hs
  have H := hid h
  clear hs h
  go_enter Try.func44, Try.ntmps44
  go_wp2_with fail
  go_loopw [7, 8] (fun v i wr => ∃ k : Nat, k ≤ L.length ∧ i = .int .i64 k ∧ Gr w wr ∧ OwnR base w.heap.size wr v (getK idx L a b k)) (fun _ i _ => L.length - (intOf i).toNat)
  case atStart => exact ⟨0, Nat.zero_le _, rfl, Gr.refl _, by rw [getK_zero]; exact ⟨[], World.ownsRow_nil _ _ _ _, ents_nil _ _⟩⟩
  case round =>
    obtain ⟨k, hk, rfl, hg, ys, hown, hents⟩ := hrel
    have HG := hid hg
    have HO := hid hown
    have HE := hid hents
    have hsz := hg.size
    have g0 := (H.out.gr hg).cell 0
    have g2 := (H.out.gr hg).cell 2
    simp at g0 g2
    clear hg hown hents
    by_cases hlt : k < L.length
    · by_cases q1 : a ≤ idx + 1 + k
      · by_cases q2 : idx + 1 + k < b
        · obtain ⟨p, off, D, c', rfl, c1, c2, c3, c4⟩ := (hs'.out.gr HG.out).at_ hlt
          have HK1 := hid (getK_yes idx L a b k hlt q1 q2)
          obtain ⟨⟨ek, dk⟩, he⟩ : ∃ e, L.getD k (0, []) = e := ⟨_, rfl⟩
          rw [he] at c1 c2 c3
          simp only at c1 c2 c3
          have HB := hid c3
          have HL := hid he
          have hxl := getK_len idx L a b k
          generalize hX : getK idx L a b k = X at *
          have HX := hid hX
          clear c3 he hX
          go_wp2_with (at_builtin; refine wpList_append_lies _ rfl _ _ 37 rfl w.heap.size 68 i0 _ 2 32 Try.underlying37 hi0 hz0 hz1 hz2 rfl (by omega) u7 X.length ys rfl (own_gr HO.out ((Gr.refl wr).alloc _)) ⟨wr.heap.size, 0, none⟩ 1 1 [.int .i64 ek, .slice D dk.length c'] rfl rfl (World.news_of_block (cs := #[.int .i64 ek, .slice D dk.length c']) (t := 68) (fr := (0, 0)) (heap_alloc_new wr _)) (by simp [Value.oneCell']) (by omega) (by unfold maxLen; omega) (by omega) (Nat.le_trans hsz (by simp)) _ rfl ?_; intro gg cap w1 hown1 hgrow hat hlt1)
          have G1 : Gr wr (wr.alloc (.cells #[.int .i64 ek, .slice D dk.length c'] 68)) := (Gr.refl wr).alloc _
          go_roundw
          case rel => exact ⟨k + 1, by omega, by go_num, gr_grown (HG.out.trans G1) hgrow (fun r hr => (HO.out.lt r hr).1), by rw [HK1.out, HL.out]; exact own_snocR hbase (own_gr HO.out G1) (HE.out.kp G1.kp) (HB.out.kp G1.kp) hown1 hgrow⟩
          case measure => simp [intOf]; omega
        · have HK1 := hid (getK_no idx L a b k hlt (by omega))
          go_wp2_with fail
          go_roundw
          case rel => exact ⟨k + 1, by omega, by go_num, HG.out, by rw [HK1.out]; exact ⟨ys, HO.out, HE.out⟩⟩
          case measure => simp [intOf]; omega
      · have HK1 := hid (getK_no idx L a b k hlt (by omega))
        go_wp2_with fail
        go_roundw
        case rel => exact ⟨k + 1, by omega, by go_num, HG.out, by rw [HK1.out]; exact ⟨ys, HO.out, HE.out⟩⟩
        case measure => simp [intOf]; omega
    · have : k = L.length := by omega
      subst this
      have hK := hid (getK_all idx L a b)
      have hkl := getK_len idx L a b L.length
      obtain ⟨A1, c1, rfl, hs1, _⟩ := OwnR.shape ⟨ys, HO.out, HE.out⟩
      have HC := hid (copied_any base A1 c1 _ wr hs1 (by omega) (Nat.le_trans hbase hsz))
      rw [hK.out] at HC
      clear hs1 hkl
      go_wp2_with (go_at_call 30; (with_reducible refine (show Calls Try.prog 30 #[.slice A1 (getK idx L a b L.length).length c1] wr _ by rw [hK.out]; exact HC.out).mono ?_); rintro e _ ⟨v2, y2, rfl, rfl, zs, o1, o2⟩)
      go_ret
      exact ⟨v2, ⟨y2.val, HG.out.trans y2.gr⟩, rfl, rfl, zs, own_base o1 hsz, o2⟩
end Go.Proofs.Ythiahnpijdkboaa
