import Derived.Test.YthiahnpijdkboaaP7
import Derived.Test.YthiahnpijdkboaaPlan2
namespace Go.Proofs.Ythiahnpijdkboaa
open Go.RowKit Go.Ext Go.BigFrame
attribute [local go_sem] Ext.cell Ext.frozen Ext.lt Ext.le s1 s2 s3 s4 s5 s6 t1 t2 t3 t4 t5 t6
attribute [local go_sem ↓] Go.wp_at_zero Go.wp_at_succ

def RetMR (base g : Nat) (idx term at_ : Int) (L rest : List Ent) (w : World) (e : Ending) (w' : World) : Prop :=
  ∃ v v2, e = .returned (.tuple #[.int .i64 at_, v2, .int .i64 0]) ∧ RefAt base w' g idx term L v ∧ OwnR base w.heap.size w' v2 rest ∧ Mod (fun b => b = g) w w'

theorem calls_grP2 {P : Program} {f : FuncId} {args : Array Value} {w0 w1 w : World} {base : Nat} {L : List Ent} (hg : Gr w0 w) (hg1 : Gr w1 w)
    (h : Calls P f args w (RetP (fun w' v => OwnR base w.heap.size w' v L) w)) :
    Calls P f args w (fun e w' => ∃ v, ∃ y : Ext w0, e = .returned v ∧ w' = y.val ∧ Gr w1 y.val ∧ ∃ B, w0.heap.size ≤ B ∧ OwnR base B y.val v L) :=
  h.mono (by rintro e _ ⟨v, y, rfl, rfl, hp⟩; exact ⟨v, ⟨y.val, hg.trans y.gr⟩, rfl, rfl, hg1.trans y.gr, _, hg.size, hp⟩)

theorem mt_no {idx term i t : Int} {L : List Ent} (h : mtB idx term L i t = false) : tmB idx L.length i = false ∨ (tmB idx L.length i = true ∧ (tmT idx term L i == t) = false) := by
  unfold mtB at h
  cases hb : tmB idx L.length i
  · exact .inl rfl
  · rw [hb, Bool.true_and] at h
    exact .inr ⟨rfl, h⟩

set_option maxRecDepth 100000 in
set_option maxHeartbeats 4000000 in
theorem mergeR_miss (base g k p : Nat) (idx term i : Int) (L : List Ent) (v : Value) (A : Option Addr) (c : Nat) (l : List Ent) (w : World) (h : RefAt base w g idx term L v) (hs : Sl base w A l) (hl : l.length ≤ 4398046511103)
    (hb : tmB idx L.length i = true) (hr : rs (tmT idx term L i) l = true) (hk : k < l.length) (hall : ∀ j, j < k → mtB idx term L (i + 1 + j) (l.getD j (0, [])).1 = true) (hmiss : mtB idx term L (i + 1 + k) (l.getD k (0, [])).1 = false)
    (hp : i + k = idx + p) (hpL : p ≤ L.length) (hlen : p + (l.length - k) ≤ 4398046511103) (hA : ∀ b off, A = some ⟨b, off, none⟩ → b ≠ g) (hcl : l.length ≤ c) (hbase : base ≤ w.heap.size) :
    Calls Try.prog 35 #[.pointer (some ⟨g, 0, none⟩), .int .i64 i, .slice A l.length c] w (RetMR base g idx term (i + 1 + k) (L.take p ++ l.drop k) (l.drop k) w) := by
  have b1 := tm_lo hb
  have b2 := h.i0
  have b3 := h.i1
  have b4 := h.len
  have b6 := h.lt
  have H := hid h
  have HS := hid hs
  have HA := hid hall
  have HX := hid hmiss
  have HP := hid hp
  clear h hs hall hmiss hp
  obtain ⟨t, ht⟩ : ∃ t, tmT idx term L i = t := ⟨_, rfl⟩
  have HM := hid ((termR_any base g idx term i L v w H.out (by omega)).mono (R' := RetE (.tuple #[.int .i64 t, .bool true]) w) (fun _ _ h => by rwa [ht, hb] at h))
  have HR := fun (y : Ext w) => hid ((risesR_any base t A c l y.val (HS.out.gr y.gr) hl).mono (R' := RetE (.bool true) y.val) (fun _ _ h => by rwa [← ht, hr] at h))
  clear ht hb hr
  go_enter Try.func35, Try.ntmps35
  go_wp2_with (first | (go_at_call 15; (with_reducible refine HM.out.mono ?_); rintro e _ ⟨rfl, y1, rfl⟩) | (go_at_call 29; (with_reducible refine (calls_ext _ (HR y1).out).mono ?_); rintro e _ ⟨rfl, y2, rfl⟩))
  go_loopw [11] (fun i wr => ∃ j : Nat, j ≤ k ∧ i = .int .i64 j ∧ Gr w wr) (fun i _ => l.length - (intOf i).toNat)
  case atStart => exact ⟨0, Nat.zero_le _, rfl, y2.gr⟩
  case round =>
    obtain ⟨j, hj, rfl, hg⟩ := hrel
    have HG := hid hg
    clear hg
    by_cases hlt : j < k
    · obtain ⟨b, off, D, c', rfl, c1, c2, c3, c4⟩ := (HS.out.gr HG.out).at_ (i := j) (by omega)
      have hmt := HA.out j hlt
      have htm := mt_tm hmt
      have htt := mt_t hmt
      clear c2 c3 hmt
      generalize (l.getD j (0, [])).1 = ek at *
      have b5 := tm_lo htm
      have HC := fun (W : World) (hW : Gr wr W) => hid ((termR_any base g idx term (i + 1 + j) L v W (H.out.gr (HG.out.trans hW)) (by omega)).mono (R' := RetE (.tuple #[.int .i64 ek, .bool true]) W) (fun _ _ h => by rwa [htt, htm] at h))
      clear htm htt
      go_wp2_with (go_at_call 15; (with_reducible refine (HC _ (Gr.refl _)).out.mono ?_); rintro e _ ⟨rfl, y4, rfl⟩)
      go_roundw
      case rel => exact ⟨j + 1, by omega, by go_num, HG.out.ext _⟩
      case measure => simp [intOf]; omega
    · obtain rfl : k = j := by omega
      obtain ⟨b, off, D, c', rfl, c1, c2, c3, c4⟩ := (HS.out.gr HG.out).at_ hk
      have hmn := mt_no HX.out
      clear c2 c3 HA HX
      generalize (l.getD k (0, [])).1 = ek at *
      obtain ⟨tb, htb⟩ : ∃ tb, tmB idx L.length (i + 1 + k) = tb := ⟨_, rfl⟩
      obtain ⟨tt, htt⟩ : ∃ tt, tmT idx term L (i + 1 + k) = tt := ⟨_, rfl⟩
      have HC := fun (W : World) (hW : Gr wr W) => hid ((termR_any base g idx term (i + 1 + k) L v W (H.out.gr (HG.out.trans hW)) (by omega)).mono (R' := RetE (.tuple #[.int .i64 tt, .bool tb]) W) (fun _ _ h => by rwa [htt, htb] at h))
      rw [htb, htt] at hmn
      clear htb htt
      have hAg : b ≠ g := hA b off rfl
      clear hA
      obtain ⟨Av, cv, rfl, hsv, hcv⟩ := H.out.row.shape
      have HSV := hid hsv
      clear hsv
      have hpc : (p : Int) ≤ (cv : Int) := by omega
      have hp0 : (0 : Int) ≤ (p : Int) := by omega
      have ep : i + 1 + (k : Int) - idx - 1 = (p : Int) := by have := HP.out; omega
      have hkl : (k : Int) ≤ (l.length : Int) := by omega
      have hgw : g < wr.heap.size := Nat.lt_of_lt_of_le b6 HG.out.size
      have g0 : wr.cell? ⟨g, 0, none⟩ = some (.int .i64 idx) := by have := (H.out.gr HG.out).cell 0; simpa using this
      have g2 : wr.cell? ⟨g, 2, none⟩ = some (.slice Av L.length cv) := by have := (H.out.gr HG.out).cell 2; simpa using this
      have gf : wr.frozen? ⟨g, 2, none⟩ = false := (H.out.gr HG.out).frozen 2
      have ew : IntKind.i64.wrap (p : Int) = (p : Int) := IntWalk.i64_in _ (by omega)
      have ew1 : IntKind.i64.wrap (i + 1 + (k : Int) - idx) = i + 1 + (k : Int) - idx := IntWalk.i64_in _ (by have := HP.out; omega)
      have ekl : ((l.length : Int) - (k : Int)).toNat = l.length - k := by omega
      have hdl : (l.drop k).length = l.length - k := by simp
      have had : (if c = k then some (⟨b, off, none⟩ : Addr) else some ⟨b, off + k * 2, none⟩) = some ⟨b, off + k * 2, none⟩ := if_neg (by omega)
      obtain ⟨i0, hi0, hz0, hz1, hz2⟩ := info_parts info68
      obtain ⟨ys, hys1, hys2⟩ := HSV.out
      have HST := hid (show Sl base w Av (L.take p) from ⟨ys.take (p * 2), rd_take hys1, hys2.take p hpL⟩)
      clear hys1 hys2
      have HSK := hid ((HS.out.gr HG.out).drop k)
      have hbs : b < wr.heap.size := c4
      have hbw : w.heap.size ≤ wr.heap.size := HG.out.size
      have hk1 : 0 < l.length - k := by omega
      have hpm : p + (l.length - k) ≤ 4398046511103 := hlen
      have hlt' : (L.take p).length = p := by simp; omega
      have HLT := hid hlt'
      have hltp := hid hlt'.symm
      clear hlt'
      have HKB := hid hk
      rcases hmn with rfl | ⟨rfl, hne⟩
      all_goals (
        go_wp2_with (go_at_call 15; (with_reducible refine (HC _ (Gr.refl _)).out.mono ?_); rintro e _ ⟨rfl, y4, rfl⟩; have hs4 := y4.gr.size; have hg4 : g < y4.val.heap.size := by omega)
        have G4 := hid y4.gr
        have g04 := (y4.gr.cell (p := ⟨g, 0, none⟩) hgw).trans g0
        have g24 := (y4.gr.cell (p := ⟨g, 2, none⟩) hgw).trans g2
        generalize y4.val = W4 at *
        refine wp_region_noPanic ?_
        refine wp_region_planM [(0, false), (1, false), (2, false), (3, false), (4, false), (5, false), (6, false), (7, false), (8, false), (9, false), (10, false), (11, false), (12, false), (14, false), (15, false), (16, false), (13, true), (17, true), (18, true), (19, false), (20, false), (21, true)] (fun w' => w'.cell? ⟨g, 0, none⟩ = some (.int .i64 idx) ∧ w'.cell? ⟨g, 2, none⟩ = some (.slice Av L.length cv)) (by kernel_rfl) (by kernel_rfl) (fun _ _ _ _ _ h => h) ⟨g04, g24⟩ (fun hHeld => ?_)
        iterate 16 (refine pm_take (v := ?_) rfl (by rfl) ?_ ?_; rotate_left; (focus (intro W9 hW9; (try dsimp only at hW9); go_simp; (try with_reducible rfl); done)); (try simp only [Act.put, List.setIfInBounds_toArray, List.set_cons_zero, List.set_cons_succ]))
        refine pm_call rfl (by rfl) (fun K hK => ?_)
        go_simp
        go_at_call 30
        refine (copied_n base p _ _ (L.take p) W4.drew hltp.out (HST.out.gr (HG.out.trans (G4.out.trans (Gr.refl W4).drew))) (by rw [HLT.out]; omega) (Nat.le_trans hbase (Nat.le_trans hbw (G4.out.trans (Gr.refl W4).drew).size))).mono ?_
        rintro e _ ⟨v6, y6, rfl, rfl, ho6⟩
        have G6 := hid (show Gr wr y6.val from (G4.out.trans (Gr.refl W4).drew).trans y6.gr)
        have hB6 : wr.heap.size ≤ W4.drew.heap.size := (G4.out.trans (Gr.refl W4).drew).size
        generalize y6.val = w6 at *
        obtain ⟨A6, c6, rfl⟩ : ∃ A6 c6, v6 = .slice A6 p c6 := by obtain ⟨A6, c6, e, _, _⟩ := ho6.shape; rw [HLT.out] at e; exact ⟨A6, c6, e⟩
        obtain ⟨ys6, hy6, he6⟩ := id ho6
        have HY6 := hid (show w6.ownsRow wr.heap.size 68 2 (.slice A6 p c6) p ys6 by have := own_base hy6 hB6; rwa [HLT.out] at this)
        have HE6 := hid he6
        refine hK.out _ _ _ ⟨(G6.out.cell (p := ⟨g, 0, none⟩) hgw).trans g0, (G6.out.cell (p := ⟨g, 2, none⟩) hgw).trans g2⟩ (fun _ h => h) (fun _ => ?_)
        clear hK K ho6 hy6 he6 hHeld
        (try simp only [Act.put, List.setIfInBounds_toArray, List.set_cons_zero, List.set_cons_succ])
        refine pm_call rfl (by rfl) (fun K hK => ?_)
        go_simp
        go_at_call 30
        refine (copied_n base (l.length - k) _ _ (l.drop k) w6 hdl.symm (HSK.out.gr G6.out) (by omega) (Nat.le_trans hbase (Nat.le_trans hbw G6.out.size))).mono ?_
        rintro e _ ⟨v7, y7, rfl, rfl, ho7⟩
        have G67 := hid y7.gr
        generalize y7.val = w7 at *
        have G7 := hid (G6.out.trans G67.out)
        obtain ⟨g7, c7, rfl, hc7⟩ : ∃ g7 c7, v7 = .slice (some ⟨g7, 0, none⟩) (l.length - k) c7 ∧ l.length - k ≤ c7 := by rw [← hdl]; exact ho7.some (by omega)
        obtain ⟨ys7, hy7, he7⟩ := id ho7
        have HY7 := hid (show w7.ownsRow w6.heap.size 68 2 (.slice (some ⟨g7, 0, none⟩) (l.length - k) c7) (l.length - k) ys7 by have := hy7; rwa [hdl] at this)
        have HE7 := hid he7
        refine hK.out _ _ _ ⟨(G7.out.cell (p := ⟨g, 0, none⟩) hgw).trans g0, (G7.out.cell (p := ⟨g, 2, none⟩) hgw).trans g2⟩ (fun _ h => h) (fun _ => ?_)
        clear hK K ho7 hy7 he7
        (try simp only [Act.put, List.setIfInBounds_toArray, List.set_cons_zero, List.set_cons_succ])
        refine pm_law rfl (by rfl) (fun K hK => ?_)
        refine step_append_own (by rfl) (.tmp 68) (.tmp 72) 37 (by rfl) wr.heap.size 68 i0 _ 2 32 Try.underlying37 hi0 hz0 hz1 hz2 (by rfl) (by decide) (.slice A6 p c6) p ys6 (by rfl) (own_gr HY6.out G67.out) ⟨g7, 0, none⟩ (l.length - k) c7 ys7 (by rfl) (by rw [← hdl]; exact HE7.out.1) (Rd.of_own HY7.out).add (ents_one HE7.out) (by unfold maxLen; omega) (by omega) G7.out.size ?_
        intro v8 w8 hown8 hgrow8 _
        obtain ⟨g8, c8, rfl⟩ : ∃ g8 c8, v8 = .slice (some ⟨g8, 0, none⟩) (p + (l.length - k)) c8 := own_someR hown8 (by omega)
        have HO8 := hid hown8
        have HW8 := hid hgrow8
        have G8' := hid (show Gr wr w8 from gr_grown G7.out hgrow8 (fun r hr => ((own_gr HY6.out G67.out).lt r hr).1))
        have HB8 := hid ((G8'.out.block g hgw).trans (HG.out.block g b6))
        have gc8 : w8.cell? ⟨g, 2, none⟩ = some (.slice Av L.length cv) := by have := cell_of_row w8 g 2 _ 60 (0, 0) (HB8.out.trans H.out.blk); simpa using this
        have gf8 : w8.frozen? ⟨g, 2, none⟩ = false := by simp [World.frozen?, HB8.out.trans H.out.blk]
        have hg8 : g < w8.heap.size := Nat.lt_of_lt_of_le hgw G8'.out.size
        refine hK.out _ _ _ ⟨(G8'.out.cell (p := ⟨g, 0, none⟩) hgw).trans g0, gc8⟩ (fun _ h => h) (fun _ => ?_)
        clear hK K hown8 hgrow8
        (try simp only [Act.put, List.setIfInBounds_toArray, List.set_cons_zero, List.set_cons_succ])
        iterate 2 (refine pm_take (v := ?_) rfl (by rfl) ?_ ?_; rotate_left; (focus (intro W9 hW9; (try dsimp only at hW9); go_simp; (try with_reducible rfl); done)); (try simp only [Act.put, List.setIfInBounds_toArray, List.set_cons_zero, List.set_cons_succ]))
        refine pm_last rfl (by rfl) (fun K hK => ?_)
        go_simp
        refine hK.out _ _ (NoPanic.normal ?_)
        clear hK K
        go_wp2_with fail
        all_goals (
          have G8 := hid (HG.out.trans G8'.out)
          have HK8 : Kp TB base w7 w8 := Kp.grown (Kp.refl _ _ _) HW8.out (own_not_imm (own_gr HY6.out G67.out) (Nat.le_trans hbase hbw) rfl)
          have hput := RefAt.put (M := L.take p ++ l.drop k) (w2 := w8) H.out HB8.out (by rw [List.length_append, HLT.out, hdl]; exact hlen)
            (by rw [List.length_append, HLT.out, hdl]; exact own_base HO8.out (Nat.le_trans hbase hbw)) (((HE6.out.kp G67.out.kp).kp HK8).append (HE7.out.kp HK8))
          have hsl := HSK.out.at_kp (G8'.out.kp.trans hput.2) ((Below.heap_setCell _ _ _ _ hAg).trans (G8'.out.block b hbs))
          have HPUT := hid hput
          have HSL := hid hsl
          have hz8 := G8.out.size
          clear hput hsl HK8
          go_wp2_with (go_at_call 30; refine (copied_n base (l.length - k) _ _ (l.drop k) _ hdl.symm HSL.out (by omega) (by simp [World.setCell]; omega)).mono ?_; rintro e _ ⟨v9, y9, rfl, rfl, ho9⟩; have HO9 := hid ho9; clear ho9)
          go_ret3
          obtain ⟨ys9, o1, o2⟩ := HO9.out
          exact ⟨_, v9, rfl, HPUT.out.1.gr y9.gr, ⟨ys9, own_base o1 (by simp [World.setCell]; omega), o2⟩, ((G8.out.mod (fun b => b = g)).set (fun _ => rfl) _).gr y9.gr⟩))
end Go.Proofs.Ythiahnpijdkboaa
