import Derived.Test.YthiahnpijdkboaaW7
import Derived.Deep.RegionLawGrows
namespace Go.Proofs.Ythiahnpijdkboaa
open Go.RowKit Go.Ext Go.BigFrame
attribute [local go_sem] Ext.cell Ext.frozen Ext.lt Ext.le s1 s2 s3 s4 s5 s6 t1 t2 t3 t4 t5 t6
attribute [local go_sem ↓] Go.wp_at_zero Go.wp_at_succ

/-- .. told of an earlier world. -/
theorem calls_grP {P : Program} {f : FuncId} {args : Array Value} {w0 w : World} {base : Nat} {L : List Ent} (hg : Gr w0 w)
    (h : Calls P f args w (RetP (fun w' v => OwnE base w.heap.size w' v L) w)) : Calls P f args w fun e w'' => ∃ v, ∃ y : Ext w0, e = .returned v ∧ w'' = y.val ∧ ∃ B, w0.heap.size ≤ B ∧ OwnE base B y.val v L :=
  h.mono fun _ _ ⟨v, y, he, hw, ho⟩ => ⟨v, ⟨y.val, hg.trans y.gr⟩, he, hw, _, hg.size, ho⟩

theorem OwnE.some {base B : Nat} {w : World} {v : Value} {L : List Ent} (h : OwnE base B w v L) (hL : 0 < L.length) : ∃ g c, v = .slice (some ⟨g, 0, none⟩) L.length c ∧ L.length ≤ c := by
  obtain ⟨ys, h1, _⟩ := h
  rcases h1.2 with ⟨rfl, h0⟩ | ⟨g, cap, cur, rfl, _, _, hc, _⟩
  · omega
  · exact ⟨g, cap, rfl, hc⟩

theorem heap_set (w : World) (g : Nat) (i : Nat) (cs : Array Value) (t : TypeId) (fz : Nat × Nat) (u : Value) (h : w.heap[g]? = Option.some (.cells cs t fz)) : (w.setCell ⟨g, i, none⟩ u).heap[g]? = Option.some (.cells (cs.setIfInBounds i u) t fz) := by
  obtain ⟨hlt, he⟩ := Array.getElem?_eq_some_iff.1 h
  have : g < (w.setCell ⟨g, i, none⟩ u).heap.size := by simpa [World.setCell] using hlt
  rw [Array.getElem?_eq_getElem this]
  simp [World.setCell, Array.getElem_modify_self, he]

theorem Sl.at_kp {base b off : Nat} {w w' : World} {L : List Ent} (h : Sl base w (some ⟨b, off, none⟩) L) (k : Kp TB base w w') (hb : w'.heap[b]? = w.heap[b]?) : Sl base w' (some ⟨b, off, none⟩) L := by
  obtain ⟨xs, h1, h2⟩ := h
  refine ⟨xs, h1.keep ?_, h2.kp k⟩
  rintro b' ⟨off', e⟩ _
  injection e with e
  injection e with e1 _
  subst e1
  exact hb

/-- Other entries are the log's. -/
theorem LogAt.put {base g B : Nat} {idx term : Int} {L M : List Ent} {v v' : Value} {w w2 : World} {xs : List Value} (h : LogAt base w g idx term L v) (hb : w2.heap[g]? = w.heap[g]?) (hB : base ≤ B) (hBw : w.heap.size ≤ B) (hm : M.length ≤ 4398046511103)
    (ho : w2.ownsRow B 46 2 v' M.length xs) (he : Ents base w2 xs M) : LogAt base (w2.setCell ⟨g, 2, none⟩ v') g idx term M v' ∧ Kp TB base w2 (w2.setCell ⟨g, 2, none⟩ v') := by
  have hlt := h.lt
  have hg : w2.heap[g]? = Option.some (.cells #[.int .i64 idx, .int .i64 term, v] 65 (0, 0)) := hb.trans h.blk
  have hk : Kp TB base w2 (w2.setCell ⟨g, 2, none⟩ v') := Kp.set (Kp.refl _ _ _) (by
    rintro ⟨_, h1 | ⟨cs, t, fz, h1, h2⟩⟩
    · have := h.lo; simp at h1; omega
    · rw [hg] at h1
      injection h1 with h1
      injection h1 with _ ht _
      subst ht
      cases h2) _
  refine ⟨⟨by rw [heap_set _ _ _ _ _ _ _ hg]; rfl, h.lo, ⟨xs, own_base ?_ hB, he.kp hk⟩, h.i0, h.i1, hm⟩, hk⟩
  refine ⟨ho.1, ?_⟩
  rcases ho.2 with h2 | ⟨g', cap, cur, hv, hb', hh, r⟩
  · exact .inl h2
  · refine .inr ⟨g', cap, cur, hv, hb', ?_, r⟩
    rw [← hh]
    exact Below.heap_setCell _ _ _ _ (fun e => by simp at e; omega)

theorem own_some {w : World} {B n : Nat} {v : Value} {xs : List Value} (h : w.ownsRow B 46 2 v n xs) (hn : 0 < n) : ∃ g c, v = .slice (some ⟨g, 0, none⟩) n c := by
  rcases h.2 with ⟨rfl, h0⟩ | ⟨g, cap, cur, rfl, _⟩
  · omega
  · exact ⟨g, cap, rfl⟩
theorem no_rd {base p : Nat} {w w2 : World} {A : Option Addr} {ys : List Value} {L : List Ent} (h : Rd w A ys) (k : Ents base w2 ys L) (hp : p ≤ L.length) : A = none → p = 0 ∧ p = 0 := by
  rintro rfl
  have : ys = [] := by
    by_cases hn : ys = []
    · exact hn
    · obtain ⟨b, off, e, _⟩ := h hn; cases e
  subst this
  have := k.1
  simp at this
  omega
theorem old_rd {w w2 : World} {A : Option Addr} {ys : List Value} {n : Nat} (h : Rd w A ys) (g : Gr w w2) : ∀ b, A = some b → ∀ j u, (ys.take n)[j]? = Option.some u → w2.cell? (b.add j) = Option.some u := by
  rintro b rfl j u hu
  refine (h.gr g).add j u ?_
  rw [List.getElem?_take] at hu
  split at hu
  · exact hu
  · cases hu
theorem ents_one {base : Nat} {w : World} {ys : List Value} {L : List Ent} (h : Ents base w ys L) : ∀ u ∈ ys, u.oneCell' = true := by
  intro u hu
  obtain ⟨j, hj⟩ := List.mem_iff_getElem?.1 hu
  have hl := h.1
  have hjl : j < ys.length := (List.getElem?_eq_some_iff.1 hj).1
  obtain ⟨e1, d, e2, e3⟩ := h.2 (j / 2) (by omega)
  rcases Nat.mod_two_eq_zero_or_one j with h0 | h0
  · rw [show j / 2 * 2 = j by omega, hj] at e1
    injection e1 with e1; subst e1; rfl
  · rw [show j / 2 * 2 + 1 = j by omega, hj] at e2
    injection e2 with e2; subst e2
    obtain ⟨A, c, rfl, _⟩ := e3
    rfl

/-- It has put entries behind a place. -/
def RetM (base g : Nat) (idx term at_ : Int) (L rest : List Ent) (w : World) (e : Ending) (w' : World) : Prop :=
  ∃ v v2, e = .returned (.tuple #[.int .i64 at_, v2, .int .i64 0]) ∧ LogAt base w' g idx term L v ∧ OwnE base w.heap.size w' v2 rest ∧ Mod (fun b => b = g) w w'

theorem twins_n (base n : Nat) (A : Option Addr) (c : Nat) (L : List Ent) (w : World) (hn : n = L.length) (hs : Sl base w A L) (hl : L.length ≤ 4398046511103) (hbase : base ≤ w.heap.size) :
    Calls Try.prog 28 #[.slice A n c] w (RetP (fun w' v => OwnE base w.heap.size w' v L) w) := by
  subst hn
  exact twins_any base A c L w hs hl hbase

set_option maxRecDepth 100000 in
set_option maxHeartbeats 4000000 in
theorem merge_miss (base g k p : Nat) (idx term i : Int) (L : List Ent) (v : Value) (A : Option Addr) (c : Nat) (l : List Ent) (w : World) (h : LogAt base w g idx term L v) (hs : Sl base w A l) (hl : l.length ≤ 4398046511103)
    (hb : tmB idx L.length i = true) (hr : rs (tmT idx term L i) l = true) (hk : k < l.length) (hall : ∀ j, j < k → mtB idx term L (i + 1 + j) (l.getD j (0, [])).1 = true) (hmiss : mtB idx term L (i + 1 + k) (l.getD k (0, [])).1 = false)
    (hp : i + k = idx + p) (hpL : p ≤ L.length) (hlen : p + (l.length - k) ≤ 4398046511103) (hA : ∀ b off, A = some ⟨b, off, none⟩ → b ≠ g) (hcl : l.length ≤ c) (hbase : base ≤ w.heap.size) :
    Calls Try.prog 17 #[.pointer (some ⟨g, 0, none⟩), .int .i64 i, .slice A l.length c] w (RetM base g idx term (i + 1 + k) (L.take p ++ l.drop k) (l.drop k) w) := by
  have b1 := tm_lo hb
  have b2 := h.i0
  have b3 := h.i1
  have b4 := h.len
  have b6 := h.lt
  have H := hid h
  have HS := hid hs
  have HA := hid hall
  have HX := hid hmiss
  have HP := hid hp
  clear h hs hall hmiss hp
  obtain ⟨t, ht⟩ : ∃ t, tmT idx term L i = t := ⟨_, rfl⟩
  have HM := hid ((term_any base g idx term i L v w H.out (by omega)).mono (R' := RetE (.tuple #[.int .i64 t, .bool true]) w) (fun _ _ h => by rwa [ht, hb] at h))
  have HR := fun (y : Ext w) => hid ((rises_any base t A c l y.val (HS.out.gr y.gr) hl).mono (R' := RetE (.bool true) y.val) (fun _ _ h => by rwa [← ht, hr] at h))
  clear ht hb hr
  go_enter Try.func17, Try.ntmps17
  go_wp2_with (first | (go_at_call 22; (with_reducible refine HM.out.mono ?_); rintro e _ ⟨rfl, y1, rfl⟩) | (go_at_call 27; (with_reducible refine (calls_ext _ (HR y1).out).mono ?_); rintro e _ ⟨rfl, y2, rfl⟩))
  go_loopw [11, 12, 13, 31] (fun _ _ _ i wr => ∃ j : Nat, j ≤ k ∧ i = .int .i64 j ∧ Gr w wr) (fun _ _ _ i _ => l.length - (intOf i).toNat)
  case atStart => exact ⟨0, Nat.zero_le _, rfl, y2.gr⟩
  case round =>
    obtain ⟨j, hj, rfl, hg⟩ := hrel
    have HG := hid hg
    clear hg
    by_cases hlt : j < k
    · obtain ⟨b, off, D, c', rfl, c1, c2, c3, c4⟩ := (HS.out.gr HG.out).at_ (i := j) (by omega)
      have hmt := HA.out j hlt
      clear c3
      generalize (l.getD j (0, [])).1 = ek at *
      generalize (l.getD j (0, [])).2.length = dk at *
      have b5 := tm_lo (mt_tm hmt)
      have HC := fun (W : World) (hW : Gr wr W) => hid ((match_any base g idx term (i + 1 + j) ek L v W (H.out.gr (HG.out.trans hW)) (by omega)).mono (R' := RetE (.bool true) W) (fun _ _ h => by rwa [hmt] at h))
      clear hmt
      go_wp2_with (go_at_call 16; (with_reducible refine (HC _ ((Gr.refl _).alloc _)).out.mono ?_); rintro e _ ⟨rfl, y4, rfl⟩)
      go_roundw
      case rel => exact ⟨j + 1, by omega, by go_num, (HG.out.alloc _).ext _⟩
      case measure => simp [intOf]; omega
    · obtain rfl : k = j := by omega
      obtain ⟨b, off, D, c', rfl, c1, c2, c3, c4⟩ := (HS.out.gr HG.out).at_ hk
      have HX' := HX.out
      clear c3 HA HX
      generalize (l.getD k (0, [])).1 = ek at *
      generalize (l.getD k (0, [])).2.length = dk at *
      have HC := fun (W : World) (hW : Gr wr W) => hid ((match_any base g idx term (i + 1 + k) ek L v W (H.out.gr (HG.out.trans hW)) (by omega)).mono (R' := RetE (.bool false) W) (fun _ _ h => by rwa [HX'] at h))
      clear HX'
      have hAg : b ≠ g := hA b off rfl
      clear hA
      obtain ⟨Av, cv, rfl, hsv, hcv⟩ := H.out.slice
      have HSV := hid hsv
      clear hsv
      have hpc : (p : Int) ≤ (cv : Int) := by omega
      have hp0 : (0 : Int) ≤ (p : Int) := by omega
      have ep : i + 1 + (k : Int) - (idx + 1) = (p : Int) := by have := HP.out; omega
      have hkl : (k : Int) ≤ (l.length : Int) := by omega
      have hgw : g < wr.heap.size := Nat.lt_of_lt_of_le b6 HG.out.size
      have g0 : wr.cell? ⟨g, 0, none⟩ = some (.int .i64 idx) := by have := (H.out.gr HG.out).cell 0; simpa using this
      have g2 : wr.cell? ⟨g, 2, none⟩ = some (.slice Av L.length cv) := by have := (H.out.gr HG.out).cell 2; simpa using this
      have gf : wr.frozen? ⟨g, 2, none⟩ = false := (H.out.gr HG.out).frozen 2
      go_wp2_with (go_at_call 16; (with_reducible refine (HC _ ((Gr.refl _).alloc _)).out.mono ?_); rintro e _ ⟨rfl, y4, rfl⟩; have hs4 := y4.lt_alloc)
      have hg4 : g < y4.val.heap.size := by omega
      have ew : IntKind.i64.wrap (p : Int) = (p : Int) := IntWalk.i64_in _ (by omega)
      have ekl : ((l.length : Int) - (k : Int)).toNat = l.length - k := by omega
      have hdl : (l.drop k).length = l.length - k := by simp
      obtain ⟨i0, hi0, hz0, hz1, hz2⟩ := info_parts info46
      obtain ⟨ys, hys1, hys2⟩ := HSV.out
      have HY1 := hid hys1
      have HY2 := hid hys2
      clear hys1 hys2
      have HSK := hid ((HS.out.gr HG.out).drop k)
      have hbs : b < wr.heap.size := c4
      have hbw : w.heap.size ≤ wr.heap.size := HG.out.size
      have hk1 : 0 < l.length - k := by omega
      have hpm : p + (l.length - k) ≤ 4398046511103 := hlen
      have HLT := hid (show (L.take p).length = p by simp; omega)
      have HKB := hid hk
      go_region_law
        (first
          | (go_simp; go_at_call 21
             refine (calls_gr (w0 := wr) ?_ (first_any base g idx term L (.slice Av L.length cv) _ (H.out.gr ?_))).mono ?_
             · repeat (first | exact Gr.refl _ | refine Gr.ext ?_ _ | refine Gr.alloc ?_ _ | refine Gr.drew ?_)
             · repeat (first | exact HG.out | refine Gr.ext ?_ _ | refine Gr.alloc ?_ _ | refine Gr.drew ?_)
             rintro e _ ⟨rfl, y5, rfl⟩)
          | (go_simp; go_at_call 28
             refine (calls_grP (w0 := wr) ?_ (twins_n base (l.length - k) _ _ (l.drop k) _ hdl.symm (HSK.out.gr ?_) (by omega) (Nat.le_trans hbase (Nat.le_trans hbw (Gr.size ?_))))).mono ?_
             · repeat (first | exact Gr.refl _ | refine Gr.ext ?_ _ | refine Gr.alloc ?_ _ | refine Gr.drew ?_)
             · repeat (first | exact Gr.refl _ | refine Gr.ext ?_ _ | refine Gr.alloc ?_ _ | refine Gr.drew ?_)
             · repeat (first | exact Gr.refl _ | refine Gr.ext ?_ _ | refine Gr.alloc ?_ _ | refine Gr.drew ?_)
             rintro e _ ⟨v6, y6, rfl, rfl, B6, hB6, ho6⟩
             obtain ⟨g6, c6, rfl, hc6⟩ : ∃ g6 c6, v6 = .slice (some ⟨g6, 0, none⟩) (l.length - k) c6 ∧ l.length - k ≤ c6 := by rw [← hdl]; exact ho6.some (by omega)
             obtain ⟨ys6, hy6, he6⟩ := id ho6
             have HY6 := hid (show y6.val.ownsRow B6 46 2 (.slice (some ⟨g6, 0, none⟩) (l.length - k) c6) (l.length - k) ys6 by have := hy6; rwa [hdl] at this)
             have HE6 := hid he6
             clear ho6 hy6 he6)
          | (refine step_append_grows (by rfl) (.tmp 65) (.tmp 67) 22 (by rfl) 46 i0 _ 2 32 Try.underlying22 hi0 hz0 hz1 hz2 (by rfl) (by decide) Av p p (ys.take (p * 2)) (by rfl) (no_rd HY1.out HY2.out hpL) (by have := (HY2.out.take p hpL).1; rwa [HLT.out] at this) (old_rd HY1.out (HG.out.trans y6.gr)) ⟨g6, 0, none⟩ (l.length - k) c6 ys6 (by rfl) (by rw [← hdl]; exact HE6.out.1) (Rd.of_own HY6.out).add (ents_one HE6.out) (by omega) (by unfold maxLen; omega) (by omega) ?_
             intro v8 w8 hown8 hgrow8
             obtain ⟨g8, c8, rfl⟩ : ∃ g8 c8, v8 = .slice (some ⟨g8, 0, none⟩) (p + (l.length - k)) c8 := own_some hown8 (by omega)
             have HO8 := hid hown8
             have HW8 := hid hgrow8
             have HB8 := hid (((hgrow8.block g (Nat.lt_of_lt_of_le hgw y6.gr.size) (by simp)).trans (y6.gr.block g hgw)).trans (HG.out.block g b6))
             have gc8 : w8.cell? ⟨g, 2, none⟩ = some (.slice Av L.length cv) := by have := cell_of_row w8 g 2 _ 65 (0, 0) (HB8.out.trans H.out.blk); simpa using this
             have gf8 : w8.frozen? ⟨g, 2, none⟩ = false := by simp [World.frozen?, HB8.out.trans H.out.blk]
             clear hown8 hgrow8))
      all_goals (
        have G8 := hid (show Gr w w8 from gr_grown (HG.out.trans y6.gr) HW8.out (by intro r hr; cases hr))
        have G8' := hid (show Gr wr w8 from gr_grown y6.gr HW8.out (by intro r hr; cases hr))
        have hput := LogAt.put (M := L.take p ++ l.drop k) (B := y6.val.heap.size) (w2 := w8) H.out HB8.out (by have := y6.gr.size; omega) (by have := y6.gr.size; omega) (by rw [List.length_append, HLT.out, hdl]; exact hlen)
          (by rw [List.length_append, HLT.out, hdl]; exact HO8.out) (((HY2.out.take p hpL).kp G8.out.kp).append (HE6.out.kp (gr_grown (Gr.refl _) HW8.out (by intro r hr; cases hr)).kp))
        have hsl := HSK.out.at_kp (G8'.out.kp.trans hput.2) ((Below.heap_setCell _ _ _ _ hAg).trans (G8'.out.block b hbs))
        have HPUT := hid hput
        have HSL := hid hsl
        have hz8 := G8.out.size
        clear hput hsl
        go_wp2_with (go_at_call 28; refine (twins_n base (l.length - k) _ _ (l.drop k) _ hdl.symm HSL.out (by omega) (by simp [World.setCell]; omega)).mono ?_; rintro e _ ⟨v9, y9, rfl, rfl, ho9⟩; have HO9 := hid ho9; clear ho9)
        go_ret3
        obtain ⟨ys9, o1, o2⟩ := HO9.out
        exact ⟨_, v9, rfl, HPUT.out.1.gr y9.gr, ⟨ys9, own_base o1 (by simp [World.setCell]; omega), o2⟩, ((G8.out.mod (fun b => b = g)).set (fun _ => rfl) _).gr y9.gr⟩)
end Go.Proofs.Ythiahnpijdkboaa
